/-
  entity.Read, the reference's Read.
-/
import Derived.Test.YtnagckdaleafdaaEntC
namespace Go.Proofs.Ytnagckdaleafdaa
open Go.RowKit Go.Nst
set_option maxRecDepth 100000
set_option linter.unusedVariables false
set_option linter.unusedSimpArgs false

/-- the library's variable MaxLen holds some int -/
def ML (w : World) : Prop := ∃ m, w.cell? ⟨0, 0, none⟩ = some (.int .i64 m)
theorem ML.below {w w' : World} (h : ML w) (hb : Below w.heap.size w w') : ML w' := by
  obtain ⟨m, hm⟩ := h
  have := World.block_lt_of_cell? w _ hm
  exact ⟨m, (hb.cell (p := ⟨0, 0, none⟩) this).trans hm⟩
theorem cut_l1 (l : List UInt8) (c : UInt8) (w : World) (hl : l.length ≤ 1000000) (h : ML w) :
    Calls Try.prog 56 #[.string ⟨l.toArray⟩, .string ⟨#[c]⟩] w fun e w' => e = .returned (.tuple #[.string ⟨(Lib.cut l [c]).1.toArray⟩, .string ⟨(Lib.cut l [c]).2.1.toArray⟩, .bool (Lib.cut l [c]).2.2]) ∧ ∃ n, w' = w.drewN n := by
  obtain ⟨m, hm⟩ := h
  have := Try.strings_Cut ⟨l.toArray⟩ ⟨#[c]⟩ m w (by rw [size_of]; omega) hm
  simpa using this
theorem Bd.drewN {w : World} {B b : Nat} {l : List UInt8} (h : Bd w B b l) (n : Nat) : Bd (w.drewN n) B b l := h

theorem bd_below {w w' : World} {B b : Nat} {l : List UInt8} (h : Bd w B b l) (hb : Below w.heap.size w w') : Bd w' B b l := by
  have key : ∀ {p : Value} {bs : List Value}, Lib.BuilderAtF 51 5 B b p bs w → Lib.BuilderAtF 51 5 B b p bs w' := by
    intro p bs h
    obtain ⟨hB, v, hbk, hown, hne⟩ := h
    refine ⟨hB, v, (hb.block b (Array.getElem?_eq_some_iff.1 hbk).1).trans hbk, ⟨hown.1, ?_⟩, hne⟩
    rcases hown.2 with h2 | ⟨g, cap, cur, fz, hv, hg, hh, r⟩
    · exact .inl h2
    · exact .inr ⟨g, cap, cur, fz, hv, hg, (hb.block g (Array.getElem?_eq_some_iff.1 hh).1).trans hh, r⟩
  exact h.elim (fun x => .inl (key x)) (fun x => .inr (key x))
theorem strLen_of (l : List UInt8) : strLen (.string ⟨l.toArray⟩) = l.length := size_of l

set_option maxHeartbeats 4000000 in
theorem read7_any (l : List UInt8) (w : World) (hS : l.length ≤ 100000) (hM : ML w) : Calls Try.prog 37 #[.string ⟨l.toArray⟩] w (RetS w (readL l)) := by
  obtain ⟨tot, htot⟩ : ∃ tot, readL l = tot := ⟨_, rfl⟩
  have HT : Hid (tot = [] ++ readL l) := Lib.hid (by rw [htot]; rfl)
  rw [htot]
  have HM := Lib.hid hM
  clear htot hM
  go_enter Try.func37, Try.ntmps37
  go_wp2_with fail
  go_loopw [0] (fun v wr => ∃ (t acc : List UInt8), v = .string ⟨t.toArray⟩ ∧ acc.length + 4 * t.length ≤ 4 * l.length ∧ Bd wr w.heap.size w.heap.size acc ∧ Below w.heap.size w wr ∧ Hid (tot = acc ++ readL t)) (fun v _ => strLen v)
  case atStart => exact ⟨l, [], rfl, by simp, Bd.fresh w, bel_alloc (Below.refl _ _) _, HT⟩
  case round =>
    obtain ⟨t, acc, rfl, hlen, hbd, hbw, HR⟩ := hrel
    have hbs := hbw.size
    have HC := Lib.hid (cut_l1 t 38 wr (by omega) (HM.out.below hbw))
    rcases cut_one t 38 with ⟨a, r, e1, hn, hc⟩ | ⟨hn, hc⟩
    · rw [hc] at HC
      subst e1
      rw [List.length_append, List.length_cons] at hlen
      rw [readL_ahead a _ hn] at HR
      have HN38 := Lib.hid hn
      clear hc hn
      have HD := Lib.hid (fun W (hb : Below w.heap.size w W) => cut_l1 r 59 W (by omega) (HM.out.below hb))
      have HWS := Lib.hid (fun W (h : Bd W w.heap.size w.heap.size acc) (hb : w.heap.size ≤ W.heap.size) => writeString_k w.heap.size w.heap.size acc a W h (by omega) hb)
      have HSG := Lib.hid (fun W => sign_any (Lib.cut r [59]).1 W (by have := cut_le r 59; omega))
      have hcl := cut_le r 59
      have hmeas : strLen (.string ⟨(a ++ 38 :: r).toArray⟩) = a.length + (r.length + 1) := by rw [strLen_of]; simp
      have HMS := Lib.hid hmeas
      clear hmeas
      generalize hab : a ++ 38 :: r = ab at *
      clear hab
      cases hs : signL (Lib.cut r [59]).1 with
      | none =>
        rw [readL_amp (signAt_none hs)] at HR
        rw [hs] at HSG
        clear hs
        generalize Lib.cut r [59] = ct at *
        obtain ⟨nm, bh, en⟩ := ct
        simp only at HD HSG hcl
        obtain ⟨hc1, hc2, hc3⟩ := hcl
        clear hc3
        cases en with
        | false =>
          go_wp2_with fail
          (with_reducible refine (HC.out).mono ?_)
          rintro e w1 ⟨rfl, q, rfl⟩
          have hbsq : w.heap.size ≤ (wr.drewN q).heap.size := hbs
          go_wp2_with fail
          (with_reducible refine (HWS.out _ (Bd.drewN hbd q) hbsq).mono ?_)
          rintro e w2 ⟨rfl, hbd2, hb2, _⟩
          have B2 := (Nst.below_drewN hbw q).trans hb2
          clear hb2
          go_wp2_with fail
          (with_reducible refine (HD.out w2 B2).mono ?_)
          rintro e w3 ⟨rfl, q2, rfl⟩
          go_wp2_with fail
          (with_reducible refine (HSG.out _).mono ?_)
          rintro e w4 ⟨rfl, hb4⟩
          have B4 : Below w.heap.size w w4 := bel_step (Nst.below_drewN B2 q2) hb4
          have hs4 := B4.size
          have hbd4 : Bd w4 w.heap.size w.heap.size (acc ++ a) := bd_below (Bd.drewN hbd2 q2) hb4
          simp only [signV]
          clear hb4 hbd2
          have HB := Lib.hid (writeByte_k w.heap.size w.heap.size (acc ++ a) 38 w4 hbd4 (by simp; omega) hs4)
          rw [show (((38 : UInt8).toNat : Nat) : Int) = 38 from rfl] at HB
          go_wp2_with fail
          (with_reducible refine (HB.out).mono ?_)
          rintro e w5 ⟨rfl, hbd5, hb5, _⟩
          go_wp2_with fail
          go_roundw
          case rel => exact ⟨r, acc ++ a ++ [38], rfl, by simp; omega, hbd5, B4.trans hb5, Lib.hid (by rw [HR.out]; simp)⟩
          case measure => rw [HMS.out, strLen_of]; omega
        | true =>
          by_cases h10 : nm.length ≤ 10
          · have d10 : decide ((nm.length : Int) ≤ 10) = true := by simp; omega
            go_wp2_with fail
            (with_reducible refine (HC.out).mono ?_)
            rintro e w1 ⟨rfl, q, rfl⟩
            have hbsq : w.heap.size ≤ (wr.drewN q).heap.size := hbs
            go_wp2_with fail
            (with_reducible refine (HWS.out _ (Bd.drewN hbd q) hbsq).mono ?_)
            rintro e w2 ⟨rfl, hbd2, hb2, _⟩
            have B2 := (Nst.below_drewN hbw q).trans hb2
            clear hb2
            go_wp2_with fail
            (with_reducible refine (HD.out w2 B2).mono ?_)
            rintro e w3 ⟨rfl, q2, rfl⟩
            go_wp2_with fail
            (with_reducible refine (HSG.out _).mono ?_)
            rintro e w4 ⟨rfl, hb4⟩
            have B4 : Below w.heap.size w w4 := bel_step (Nst.below_drewN B2 q2) hb4
            have hs4 := B4.size
            have hbd4 : Bd w4 w.heap.size w.heap.size (acc ++ a) := bd_below (Bd.drewN hbd2 q2) hb4
            simp only [signV]
            clear hb4 hbd2
            have HB := Lib.hid (writeByte_k w.heap.size w.heap.size (acc ++ a) 38 w4 hbd4 (by simp; omega) hs4)
            rw [show (((38 : UInt8).toNat : Nat) : Int) = 38 from rfl] at HB
            go_wp2_with fail
            (with_reducible refine (HB.out).mono ?_)
            rintro e w5 ⟨rfl, hbd5, hb5, _⟩
            go_wp2_with fail
            go_roundw
            case rel => exact ⟨r, acc ++ a ++ [38], rfl, by simp; omega, hbd5, B4.trans hb5, Lib.hid (by rw [HR.out]; simp)⟩
            case measure => rw [HMS.out, strLen_of]; omega
          · have d10 : decide ((nm.length : Int) ≤ 10) = false := by simp; omega
            go_wp2_with fail
            (with_reducible refine (HC.out).mono ?_)
            rintro e w1 ⟨rfl, q, rfl⟩
            have hbsq : w.heap.size ≤ (wr.drewN q).heap.size := hbs
            go_wp2_with fail
            (with_reducible refine (HWS.out _ (Bd.drewN hbd q) hbsq).mono ?_)
            rintro e w2 ⟨rfl, hbd2, hb2, _⟩
            have B2 := (Nst.below_drewN hbw q).trans hb2
            clear hb2
            go_wp2_with fail
            (with_reducible refine (HD.out w2 B2).mono ?_)
            rintro e w3 ⟨rfl, q2, rfl⟩
            go_wp2_with fail
            (with_reducible refine (HSG.out _).mono ?_)
            rintro e w4 ⟨rfl, hb4⟩
            have B4 : Below w.heap.size w w4 := bel_step (Nst.below_drewN B2 q2) hb4
            have hs4 := B4.size
            have hbd4 : Bd w4 w.heap.size w.heap.size (acc ++ a) := bd_below (Bd.drewN hbd2 q2) hb4
            simp only [signV]
            clear hb4 hbd2
            have HB := Lib.hid (writeByte_k w.heap.size w.heap.size (acc ++ a) 38 w4 hbd4 (by simp; omega) hs4)
            rw [show (((38 : UInt8).toNat : Nat) : Int) = 38 from rfl] at HB
            go_wp2_with fail
            (with_reducible refine (HB.out).mono ?_)
            rintro e w5 ⟨rfl, hbd5, hb5, _⟩
            go_wp2_with fail
            go_roundw
            case rel => exact ⟨r, acc ++ a ++ [38], rfl, by simp; omega, hbd5, B4.trans hb5, Lib.hid (by rw [HR.out]; simp)⟩
            case measure => rw [HMS.out, strLen_of]; omega
      | some c =>
        have hcb := signL_bd _ _ hs
        have hn8 := signL_len _ _ hs
        have hel := enc_len c
        rw [hs] at HSG
        cases hen : (Lib.cut r [59]).2.2 with
        | false =>
          rw [readL_amp (signAt_off hen)] at HR
          rw [hen] at HD
          clear hs hen
          generalize Lib.cut r [59] = ct at *
          obtain ⟨nm, bh, en⟩ := ct
          simp only at HD HSG hcl hn8
          obtain ⟨hc1, hc2, hc3⟩ := hcl
          clear hc3
          go_wp2_with fail
          (with_reducible refine (HC.out).mono ?_)
          rintro e w1 ⟨rfl, q, rfl⟩
          have hbsq : w.heap.size ≤ (wr.drewN q).heap.size := hbs
          go_wp2_with fail
          (with_reducible refine (HWS.out _ (Bd.drewN hbd q) hbsq).mono ?_)
          rintro e w2 ⟨rfl, hbd2, hb2, _⟩
          have B2 := (Nst.below_drewN hbw q).trans hb2
          clear hb2
          go_wp2_with fail
          (with_reducible refine (HD.out w2 B2).mono ?_)
          rintro e w3 ⟨rfl, q2, rfl⟩
          go_wp2_with fail
          (with_reducible refine (HSG.out _).mono ?_)
          rintro e w4 ⟨rfl, hb4⟩
          have B4 : Below w.heap.size w w4 := bel_step (Nst.below_drewN B2 q2) hb4
          have hs4 := B4.size
          have hbd4 : Bd w4 w.heap.size w.heap.size (acc ++ a) := bd_below (Bd.drewN hbd2 q2) hb4
          simp only [signV]
          clear hb4 hbd2
          have HB := Lib.hid (writeByte_k w.heap.size w.heap.size (acc ++ a) 38 w4 hbd4 (by simp; omega) hs4)
          rw [show (((38 : UInt8).toNat : Nat) : Int) = 38 from rfl] at HB
          go_wp2_with fail
          (with_reducible refine (HB.out).mono ?_)
          rintro e w5 ⟨rfl, hbd5, hb5, _⟩
          go_wp2_with fail
          go_roundw
          case rel => exact ⟨r, acc ++ a ++ [38], rfl, by simp; omega, hbd5, B4.trans hb5, Lib.hid (by rw [HR.out]; simp)⟩
          case measure => rw [HMS.out, strLen_of]; omega
        | true =>
          rw [readL_sign (signAt_some hen hs), (hcl.2.2 hen).2] at HR
          have hlen2 := (hcl.2.2 hen).1
          rw [hen] at HD
          clear hs hen
          generalize Lib.cut r [59] = ct at *
          obtain ⟨nm, bh, en⟩ := ct
          simp only at HD HSG hcl hn8 hlen2 HR
          obtain ⟨hc1, hc2, hc3⟩ := hcl
          clear hc3
          have HL2 := Lib.hid hlen2
          have hbh : bh.length + nm.length < r.length := by omega
          clear hlen2
          have d10 : decide ((nm.length : Int) ≤ 10) = true := by simp; omega
          go_wp2_with fail
          (with_reducible refine (HC.out).mono ?_)
          rintro e w1 ⟨rfl, q, rfl⟩
          have hbsq : w.heap.size ≤ (wr.drewN q).heap.size := hbs
          go_wp2_with fail
          (with_reducible refine (HWS.out _ (Bd.drewN hbd q) hbsq).mono ?_)
          rintro e w2 ⟨rfl, hbd2, hb2, _⟩
          have B2 := (Nst.below_drewN hbw q).trans hb2
          clear hb2
          go_wp2_with fail
          (with_reducible refine (HD.out w2 B2).mono ?_)
          rintro e w3 ⟨rfl, q2, rfl⟩
          go_wp2_with fail
          (with_reducible refine (HSG.out _).mono ?_)
          rintro e w4 ⟨rfl, hb4⟩
          have B4 : Below w.heap.size w w4 := bel_step (Nst.below_drewN B2 q2) hb4
          have hs4 := B4.size
          have hbd4 : Bd w4 w.heap.size w.heap.size (acc ++ a) := bd_below (Bd.drewN hbd2 q2) hb4
          simp only [signV]
          clear hb4 hbd2
          have HB := Lib.hid (writeRune_k w.heap.size w.heap.size (acc ++ a) c (by omega) (by omega) w4 hbd4 (by simp; omega) hs4)
          go_wp2_with fail
          (with_reducible refine (HB.out).mono ?_)
          rintro e w5 ⟨rfl, hbd5, hb5, _⟩
          go_wp2_with fail
          go_roundw
          case rel => exact ⟨bh, acc ++ a ++ Lib.encodeRune c, rfl, by simp; omega, hbd5, B4.trans hb5, Lib.hid (by rw [HR.out]; simp)⟩
          case measure => rw [HMS.out, strLen_of]; omega
    · rw [hc] at HC
      have HE : Hid (tot = acc ++ t) := Lib.hid (by have := HR.out; rw [show t = t ++ [] by simp, readL_ahead t [] hn] at this; simpa [readL_nil] using this)
      clear hc
      have HN38 := Lib.hid hn
      clear hn
      have HWS := Lib.hid (fun W (h : Bd W w.heap.size w.heap.size acc) (hb : w.heap.size ≤ W.heap.size) => writeString_k w.heap.size w.heap.size acc t W h (by omega) hb)
      go_wp2_with fail
      (with_reducible refine (HC.out).mono ?_)
      rintro e w1 ⟨rfl, q, rfl⟩
      go_wp2_with fail
      have hbsq : w.heap.size ≤ (wr.drewN q).heap.size := hbs
      (with_reducible refine (HWS.out _ (Bd.drewN hbd q) hbsq).mono ?_)
      rintro e w2 ⟨rfl, hbd2, hb2, _⟩
      have B2 := (Nst.below_drewN hbw q).trans hb2
      have hs2 := B2.size
      have HST := Lib.hid (bString_k w.heap.size w.heap.size (acc ++ t) w2 hbd2 hs2)
      go_wp2_with fail
      (with_reducible refine (HST.out).mono ?_)
      rintro e w3 ⟨rfl, _, hb3, _⟩
      go_wp2_with fail
      go_ret
      rw [HE.out]
      exact ⟨rfl, B2.trans hb3⟩
end Go.Proofs.Ytnagckdaleafdaa
