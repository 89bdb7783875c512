/-
  Segments: numbers, heads, records, whether bytes begin with a head.
  Segments: what bytes begin with; Read.
-/
import Derived.Test.YtfepinnfhcjopaaGreatDoorOlE
import Derived.Test.YtfepinnfhcjopaaGreatDoorFrm
import Derived.Test.YtfepinnfhcjopaaGreatDoorCdY
section
namespace Go.Proofs.YtfepinnfhcjopaaGreatDoor
open Go.RowKit Go.Nst
set_option maxRecDepth 100000
set_option linter.unusedVariables false
set_option linter.unusedSimpArgs false

def knownB (n : Int) : Bool := decide (1 ≤ n) && decide (n ≤ 2048)
def markL : List UInt8 := [110, 101, 119, 115]
def headBody (n : Int) : List UInt8 := textL markL ++ putL (zig n)
def headL18 (n : Int) : List UInt8 := frameL (headBody n)
def recB (l : List UInt8) : Bool := (eventsL l).isSome
theorem known_any (n : Int) (w : World) : Calls Tryz.prog 36 #[.int .i64 n] w fun e w' => e = .returned (.bool (knownB n)) ∧ w = w' := by
  have HK : Hid (knownB n = (decide (1 ≤ n) && decide (n ≤ 2048))) := rfl
  by_cases h1 : 1 ≤ n
  · have d1 : decide (1 ≤ n) = true := by simpa using h1
    rw [d1, Bool.true_and] at HK
    clear h1
    go_enter Tryz.func36, Tryz.ntmps36
    go_wp2_with fail
    go_ret
    rw [HK.out]
    exact ⟨rfl, rfl⟩
  · have d1 : decide (1 ≤ n) = false := by simpa using h1
    rw [d1, Bool.false_and] at HK
    clear h1
    go_enter Tryz.func36, Tryz.ntmps36
    go_wp2_with fail
    go_ret
    rw [HK.out]
    exact ⟨rfl, rfl⟩
theorem refFirst18_any (n : Int) (w : World) : Calls Tryz.prog 21 #[.int .i64 n] w fun e w' => e = .returned (.bool (knownB n)) ∧ w = w' := by
  have HK : Hid (knownB n = (decide (1 ≤ n) && decide (n ≤ 2048))) := rfl
  by_cases h1 : 1 ≤ n
  · have d1 : decide (1 ≤ n) = true := by simpa using h1
    rw [d1, Bool.true_and] at HK
    clear h1
    go_enter Tryz.func21, Tryz.ntmps21
    go_wp2_with fail
    go_ret
    rw [HK.out]
    exact ⟨rfl, rfl⟩
  · have d1 : decide (1 ≤ n) = false := by simpa using h1
    rw [d1, Bool.false_and] at HK
    clear h1
    go_enter Tryz.func21, Tryz.ntmps21
    go_wp2_with fail
    go_ret
    rw [HK.out]
    exact ⟨rfl, rfl⟩
theorem known_may {n : Int} (h : knownB n = true) : mayB n = true := by
  unfold knownB at h
  simp at h
  rw [mayB_iff]
  omega
theorem body_len (n : Int) : 5 ≤ (headBody n).length ∧ (headBody n).length ≤ 40 := by
  have h1 := putL_len (zig n)
  have h2 := putL_len (zig (4 : Nat))
  have e : textL markL = putL (zig ((4 : Nat) : Int)) ++ markL := rfl
  unfold headBody
  rw [e]
  simp only [List.length_append, markL, List.length_cons, List.length_nil]
  omega
set_option maxHeartbeats 2000000 in
theorem segHead_no (n : Int) (w : World) (h0 : knownB n = false) : Calls Tryz.prog 18 #[.int .i64 n] w fun e w' => e = .returned (.tuple #[.slice none 0 0, .int .i64 1]) ∧ Below w.heap.size w w' := by
  have HK := Lib.hid (fun W => known_any n W)
  rw [h0] at HK
  clear h0
  go_enter Tryz.func18, Tryz.ntmps18
  go_wp2_with fail
  (with_reducible refine (HK.out _).mono ?_)
  rintro e w1 ⟨rfl, rfl⟩
  go_wp2_with fail
  go_ret2
  exact ⟨rfl, Below.refl _ _⟩
set_option maxHeartbeats 2000000 in
theorem segHead_yes (n : Int) (w : World) (h0 : knownB n = true) (ht : Tab w) : Calls Tryz.prog 18 #[.int .i64 n] w (RetBE w (headL18 n) 0) := by
  have HK := Lib.hid (fun W => known_any n W)
  rw [h0] at HK
  have HT : Hid (∀ W, Calls Tryz.prog 37 #[.string ⟨#[110, 101, 119, 115]⟩] W (RetBE W (textL markL) 0)) := Lib.hid (fun W => text_any markL 4 rfl (by omega) W)
  have HP := Lib.hid (fun W => put_yes n W (known_may h0))
  have hpl := (putL_len (zig n)).2
  have hbl := body_len n
  have hV : headL18 n = frameL (textL markL ++ putL (zig n)) := rfl
  have hB : (headBody n) = textL markL ++ putL (zig n) := rfl
  rw [hB] at hbl
  rw [hV]
  have htl : (textL markL).length ≤ 40 := by rw [List.length_append] at hbl; omega
  have HPE : Hid (putE (textL markL ++ putL (zig n)) = (frameL (textL markL ++ putL (zig n)), 0)) := Lib.hid (by unfold putE; rw [if_neg (by omega), if_neg (by omega)])
  have HF := Lib.hid (fun A m c W (h : Bs W A m (textL markL ++ putL (zig n))) (k : Tab W) => put17_any A m c _ W (by have := h.len; omega) h k)
  simp only [HPE.out] at HF
  clear hV hB h0
  generalize frameL (textL markL ++ putL (zig n)) = fr at *
  generalize textL markL = tx at *
  generalize putL (zig n) = pn at *
  go_enter Tryz.func18, Tryz.ntmps18
  go_wp2_with fail
  (with_reducible refine (HK.out _).mono ?_)
  rintro e w1 ⟨rfl, rfl⟩
  go_wp2_with fail
  (with_reducible refine (HT.out _).mono ?_)
  rintro e w2 ⟨A2, n2, c2, rfl, ho2, hb2⟩
  have hn2 := ho2.len
  go_wp2_with fail
  (with_reducible refine (HP.out _).mono ?_)
  rintro e w3 ⟨A3, n3, c3, rfl, ho3, hb3⟩
  have hn3 := ho3.len
  have HR := Lib.hid (two_parts w3 22 ⟨A2, n2, c2, tx⟩ ⟨A3, n3, c3, pn⟩)
  have q2 := ho2.bs.below hb3
  have B3 := bel_step hb2 hb3
  clear hb2 hb3
  go_wp2_with fail
  refine (concat_any _ 2 _ [⟨A2, n2, c2, tx⟩, ⟨A3, n3, c3, pn⟩] _ (by omega) ?_ ?_ ?_).mono ?_
  · simpa using HR.out
  · intro x hx
    simp only [List.mem_cons, List.not_mem_nil, or_false] at hx
    rcases hx with rfl | rfl
    · exact q2.alloc _
    · exact ho3.bs.alloc _
  · simp [partSum]; omega
  · intro e w4 hr
    have hr2 := RetB.base hr (bel_alloc B3 _)
    obtain ⟨A4, n4, c4, rfl, ho4, hb4⟩ := hr2
    have ho4' : Ow w4 w.heap.size A4 n4 c4 (tx ++ pn) := by simpa [partBytes] using ho4
    have ht4 := ht.below hb4
    go_wp2_with fail
    (with_reducible refine (HF.out _ _ _ _ ho4'.bs ht4).mono ?_)
    rintro e w5 ⟨A5, n5, c5, rfl, ho5, hb5⟩
    go_wp2_with fail
    go_ret2
    exact ⟨A5, n5, c5, rfl, ho5.mono hb4.size, bel_step hb4 hb5⟩
set_option maxHeartbeats 2000000 in
theorem refHead18_any (n : Int) (w : World) (h0 : knownB n = true) : Calls Tryz.prog 13 #[.int .i64 n] w (RetB w (headL18 n)) := by
  have HT : Hid (∀ W, Calls Tryz.prog 32 #[.string ⟨#[110, 101, 119, 115]⟩] W (RetB W (textL markL))) := Lib.hid (fun W => refText1_any markL 4 rfl (by omega) W)
  have HP := Lib.hid (fun W => refPut_any n W (known_may h0))
  have hpl := (putL_len (zig n)).2
  have hbl := body_len n
  have hV : headL18 n = frameL (textL markL ++ putL (zig n)) := rfl
  have hB : (headBody n) = textL markL ++ putL (zig n) := rfl
  rw [hB] at hbl
  rw [hV]
  have htl : (textL markL).length ≤ 40 := by rw [List.length_append] at hbl; omega
  have HF := Lib.hid (fun A m c W (h : Bs W A m (textL markL ++ putL (zig n))) => refPut17_any A m c _ W (by have := h.len; omega) h)
  clear hV hB h0
  generalize frameL (textL markL ++ putL (zig n)) = fr at *
  generalize textL markL = tx at *
  generalize putL (zig n) = pn at *
  go_enter Tryz.func13, Tryz.ntmps13
  go_wp2_with fail
  (with_reducible refine (HT.out _).mono ?_)
  rintro e w2 ⟨A2, n2, c2, rfl, ho2, hb2⟩
  have hn2 := ho2.len
  go_wp2_with fail
  (with_reducible refine (HP.out _).mono ?_)
  rintro e w3 ⟨A3, n3, c3, rfl, ho3, hb3⟩
  have hn3 := ho3.len
  have q2 := ho2.below hb3
  have B3 := bel_step hb2 hb3
  have hs3 := B3.size
  clear hb2 hb3
  go_wp2_with (at_builtin; refine wpList_appBg _ iBytes rfl rfl rfl q2 rfl ho3.bs (n2 + n3) (tx ++ pn) rfl rfl (by omega) (by omega) ?_; intro A4 c4 w4 ho4 hb4 _ _)
  have B4 := B3.trans hb4
  (with_reducible refine (HF.out _ _ _ _ ho4.bs).mono ?_)
  rintro e w5 ⟨A5, n5, c5, rfl, ho5, hb5⟩
  go_wp2_with fail
  go_ret
  exact ⟨A5, n5, c5, rfl, ho5.mono B4.size, bel_step B4 hb5⟩
set_option maxHeartbeats 2000000 in
theorem record_any (A : Option Addr) (m c : Nat) (l : List UInt8) (w : World) (hm : m ≤ 20000) (hB : Bs w A m l) (hN : Nms w) : Calls Tryz.prog 27 #[.slice A m c] w fun e w' => e = .returned (.bool (recB l)) ∧ Below w.heap.size w w' := by
  have HE := Lib.hid (fun W h k => events_any A m c l W hm h k)
  have HV : Hid (recB l = (eventsL l).isSome) := rfl
  cases he : eventsL l with
  | none =>
    rw [he] at HE HV
    go_enter Tryz.func27, Tryz.ntmps27
    go_wp2_with fail
    (with_reducible refine (HE.out _ hB hN).mono ?_)
    rintro e w1 ⟨hx, hb1⟩
    obtain rfl : e = .returned (.tuple #[.slice none 0 0, .int .i64 150]) := hx
    go_wp2_with fail
    go_ret
    rw [HV.out]
    exact ⟨rfl, hb1⟩
  | some L =>
    rw [he] at HE HV
    go_enter Tryz.func27, Tryz.ntmps27
    go_wp2_with fail
    (with_reducible refine (HE.out _ hB hN).mono ?_)
    rintro e w1 ⟨A1, c1, hx, ho1, hb1⟩
    obtain rfl : e = .returned (.tuple #[.slice A1 L.length c1, .int .i64 0]) := hx
    go_wp2_with fail
    go_ret
    rw [HV.out]
    exact ⟨rfl, hb1⟩
set_option maxHeartbeats 2000000 in
theorem refRecord_any (A : Option Addr) (m c : Nat) (l : List UInt8) (w : World) (hm : m ≤ 20000) (hB : Bs w A m l) : Calls Tryz.prog 20 #[.slice A m c] w fun e w' => e = .returned (.bool (recB l)) ∧ Below w.heap.size w w' := by
  have HE := Lib.hid (fun W h => refEvents_any A m c l W hm h)
  have HV : Hid (recB l = (eventsL l).isSome) := rfl
  cases he : eventsL l with
  | none =>
    rw [he] at HE HV
    go_enter Tryz.func20, Tryz.ntmps20
    go_wp2_with fail
    (with_reducible refine (HE.out _ hB).mono ?_)
    rintro e w1 ⟨hx, hb1⟩
    obtain rfl : e = .returned (.tuple #[.slice none 0 0, .bool false]) := hx
    go_wp2_with fail
    go_ret
    rw [HV.out]
    exact ⟨rfl, hb1⟩
  | some L =>
    rw [he] at HE HV
    go_enter Tryz.func20, Tryz.ntmps20
    go_wp2_with fail
    (with_reducible refine (HE.out _ hB).mono ?_)
    rintro e w1 ⟨A1, c1, hx, ho1, hb1⟩
    obtain rfl : e = .returned (.tuple #[.slice A1 L.length c1, .bool true]) := hx
    go_wp2_with fail
    go_ret
    rw [HV.out]
    exact ⟨rfl, hb1⟩
theorem rec_ne {l : List UInt8} (h : recB l = true) : 0 < l.length := by
  cases l with
  | cons c t => simp
  | nil => exact absurd h (by decide +kernel)
set_option maxHeartbeats 2000000 in
theorem segRecord_no (A : Option Addr) (m c : Nat) (l : List UInt8) (w : World) (hm : m ≤ 8000) (hB : Bs w A m l) (hN : Nms w) (h0 : recB l = false) : Calls Tryz.prog 19 #[.slice A m c] w fun e w' => e = .returned (.tuple #[.slice none 0 0, .int .i64 150]) ∧ Below w.heap.size w w' := by
  have HR := Lib.hid (fun W h k => record_any A m c l W (by omega) h k)
  rw [h0] at HR
  clear h0
  go_enter Tryz.func19, Tryz.ntmps19
  go_wp2_with fail
  (with_reducible refine (HR.out _ hB hN).mono ?_)
  rintro e w1 ⟨rfl, hb1⟩
  go_wp2_with fail
  go_ret2
  exact ⟨rfl, hb1⟩
set_option maxHeartbeats 2000000 in
theorem segRecord_yes (A : Option Addr) (m c : Nat) (l : List UInt8) (w : World) (hm : m ≤ 8000) (hB : Bs w A m l) (hN : Nms w) (ht : Tab w) (h0 : recB l = true) : Calls Tryz.prog 19 #[.slice A m c] w (RetBE w (frameL l) 0) := by
  have HR := Lib.hid (fun W h k => record_any A m c l W (by omega) h k)
  have hl := hB.len
  have hpos := rec_ne h0
  rw [h0] at HR
  have HPE : Hid (putE l = (frameL l, 0)) := Lib.hid (by unfold putE; rw [if_neg (by omega), if_neg (by omega)])
  have HF := Lib.hid (fun W (h : Bs W A m l) (k : Tab W) => put17_any A m c _ W (by omega) h k)
  simp only [HPE.out] at HF
  clear h0
  go_enter Tryz.func19, Tryz.ntmps19
  go_wp2_with fail
  (with_reducible refine (HR.out _ hB hN).mono ?_)
  rintro e w1 ⟨rfl, hb1⟩
  have hB1 := hB.below hb1
  have ht1 := ht.below hb1
  go_wp2_with fail
  (with_reducible refine (HF.out _ hB1 ht1).mono ?_)
  rintro e w2 ⟨A2, n2, c2, rfl, ho2, hb2⟩
  go_wp2_with fail
  go_ret2
  exact ⟨A2, n2, c2, rfl, ho2.mono hb1.size, bel_step hb1 hb2⟩
end Go.Proofs.YtfepinnfhcjopaaGreatDoor
end
section
namespace Go.Proofs.YtfepinnfhcjopaaGreatDoor
open Go.RowKit Go.Nst
set_option maxRecDepth 100000
set_option linter.unusedVariables false
set_option linter.unusedSimpArgs false

def hdT (h : List UInt8) : List UInt8 × RS := RS.text ⟨h, false⟩
def hdN (h : List UInt8) : Int × RS := (hdT h).2.num
def hdOk (h : List UInt8) : Bool := ((hdT h).1 == markL) && (!(hdN h).2.bad && (decide ((hdN h).2.left = 0) && knownB (hdN h).1))
def segHd (l : List UInt8) : Int × Nat × Bool := if (nextL l).2.2 = 1 then ((hdN (nextL l).1).1, (nextL l).2.1, hdOk (nextL l).1) else (0, 0, false)
theorem open_len (l : List UInt8) : (openL l).1.length ≤ l.length := by
  unfold openL
  split
  · simp
  · simp
theorem next_le (l : List UInt8) : (nextL l).1.length ≤ 8196 := by
  cases hg : getL l with
  | none => rw [next_none hg]; simp
  | some r =>
    obtain ⟨n, k⟩ := r
    by_cases h1 : n < 1 ∨ 8192 < n
    · rw [next_num hg h1]; simp
    by_cases h2 : (l.length : Int) < k + n + 4
    · rw [next_short hg h1 h2]; simp
    rw [next_long hg h1 h2]
    split
    · have := open_len ((l.drop k).take (n.toNat + 4))
      simp only
      rw [List.length_take] at this
      omega
    · simp
theorem next_len (l : List UInt8) (h : (nextL l).2.2 = 1) : (nextL l).1.length + (nextL l).2.1 ≤ 2 * l.length ∧ (nextL l).1.length ≤ l.length := by
  have hw := next_whole h
  have : (nextL l).1.length ≤ l.length := by
    cases hg : getL l with
    | none => rw [next_none hg]; simp
    | some r =>
      obtain ⟨n, k⟩ := r
      by_cases h1 : n < 1 ∨ 8192 < n
      · rw [next_num hg h1]; simp
      by_cases h2 : (l.length : Int) < k + n + 4
      · rw [next_short hg h1 h2]; simp
      rw [next_long hg h1 h2]
      split
      · have := open_len ((l.drop k).take (n.toNat + 4))
        simp only
        rw [List.length_take, List.length_drop] at this
        omega
      · simp
  exact ⟨by omega, this⟩
set_option maxHeartbeats 4000000 in
theorem head_any (A : Option Addr) (m c : Nat) (l : List UInt8) (w : World) (hm : m ≤ 1000000) (hmc : m ≤ c) (hc : c ≤ 9223372036854775807) (hB : Bs w A m l) (ht : Tab w) : Calls Tryz.prog 25 #[.slice A m c] w fun e w' => e = .returned (.tuple #[.int .i64 (segHd l).1, .int .i64 ((segHd l).2.1 : Int), .bool (segHd l).2.2]) ∧ Below w.heap.size w w' := by
  have HX := Lib.hid (next17_any A m c l w (by omega) hmc hc hB ht)
  have hl := hB.len
  obtain ⟨r, hr⟩ : ∃ r, segHd l = r := ⟨_, rfl⟩
  rw [hr]
  unfold segHd at hr
  have hnl : (nextL l).1.length ≤ 100000 := by
    have := next_le l
    omega
  generalize nextL l = q at *
  obtain ⟨h_, u, s⟩ := q
  simp only at HX hr hnl
  by_cases hs : s = 1
  · subst hs
    rw [if_pos rfl] at hr
    have HF := Lib.hid (fun A n c W (h : Bs W A n h_) => from_any A n c h_ W (by have := h.len; omega) h)
    have hO : hdOk h_ = (((hdT h_).1 == markL) && (!(hdN h_).2.bad && (decide ((hdN h_).2.left = 0) && knownB (hdN h_).1))) := rfl
    rw [hO] at hr
    have HTE : Hid (RS.text ⟨h_, false⟩ = hdT h_) := rfl
    have HNE : Hid ((hdT h_).2.num = hdN h_) := rfl
    have htl := text_len ⟨h_, false⟩
    have hnl2 := num_len (hdT h_).2
    rw [HTE.out] at htl
    rw [HNE.out] at hnl2
    clear hO
    generalize hdT h_ = tq at *
    obtain ⟨tx, r1⟩ := tq
    simp only at HTE HNE hr htl hnl2
    generalize hdN h_ = nq at *
    obtain ⟨fi, r2⟩ := nq
    simp only at HNE hr hnl2
    have HK := Lib.hid (fun W => known_any fi W)
    obtain ⟨lf, hlf⟩ : ∃ lf, r2.left = lf := ⟨_, rfl⟩
    rw [hlf] at hr
    have HLF := Lib.hid hlf
    have hlfb : lf ≤ 100000 := by rw [← hlf]; unfold RS.left; split <;> omega
    clear hlf
    go_enter Tryz.func25, Tryz.ntmps25
    go_wp2_with fail
    (with_reducible refine (HX.out).mono ?_)
    rintro e w1 ⟨A1, n1, c1, rfl, ho1, hb1⟩
    go_wp2_with fail
    (with_reducible refine (HF.out _ _ _ _ ho1.bs).mono ?_)
    rintro e w2 ⟨g, rfl, hR2, hg2, hb2⟩
    have B2 := bel_step hb1 hb2
    have hs1 := hb1.size
    have HRT := Lib.hid (readText_any g ⟨h_, false⟩ w2 hR2)
    rw [HTE.out] at HRT
    simp only at HRT
    clear hR2 hb1 hb2 ho1
    go_wp2_with fail
    (with_reducible refine (HRT.out).mono ?_)
    rintro e w3 ⟨rfl, hR3, hg3⟩
    have B3 := below_only B2 hg3 (by omega) B2.size
    have HRN := Lib.hid (readNum_any g r1 w3 hR3)
    rw [HNE.out] at HRN
    simp only at HRN
    clear hR3 hg3 B2
    go_wp2_with fail
    (with_reducible refine (HRN.out).mono ?_)
    rintro e w4 ⟨rfl, hR4, hg4⟩
    have B4 := below_only B3 hg4 (by omega) B3.size
    have HBA := Lib.hid (bad_any g r2 w4 hR4)
    have HLA := Lib.hid (left_any g r2 w4 hR4)
    rw [HLF.out] at HLA
    clear hR4 hg4 B3
    by_cases hmk : tx = markL
    · subst hmk
      have e0 : (markL == markL) = true := by decide
      rw [e0, Bool.true_and] at hr
      unfold markL
      cases hbd : r2.bad with
      | true =>
        rw [hbd] at hr HBA
        have HR := Lib.hid hr
        clear hr hbd
        go_wp2_with fail
        (with_reducible refine (HBA.out).mono ?_)
        rintro e w5 ⟨rfl, rfl⟩
        go_wp2_with fail
        go_ret3
        rw [← HR.out]
        exact ⟨rfl, B4⟩
      | false =>
        rw [hbd] at hr HBA
        clear hbd
        by_cases hz : lf = 0
        · subst hz
          rw [show decide (0 = 0) = true from rfl, Bool.true_and] at hr
          have HR := Lib.hid hr
          clear hr
          go_wp2_with fail
          (with_reducible refine (HBA.out).mono ?_)
          rintro e w5 ⟨rfl, rfl⟩
          go_wp2_with fail
          (with_reducible refine (HLA.out).mono ?_)
          rintro e w6 ⟨rfl, rfl⟩
          go_wp2_with fail
          (with_reducible refine (HK.out _).mono ?_)
          rintro e w7 ⟨rfl, rfl⟩
          go_wp2_with fail
          go_ret3
          rw [← HR.out]
          exact ⟨rfl, B4⟩
        · have z1 : decide (lf = 0) = false := by simpa using hz
          have z2 : ((lf : Int) == 0) = false := by simpa using hz
          rw [z1, Bool.false_and] at hr
          have HR := Lib.hid hr
          clear hr z1
          go_wp2_with fail
          (with_reducible refine (HBA.out).mono ?_)
          rintro e w5 ⟨rfl, rfl⟩
          go_wp2_with fail
          (with_reducible refine (HLA.out).mono ?_)
          rintro e w6 ⟨rfl, rfl⟩
          go_wp2_with fail
          go_ret3
          rw [← HR.out]
          exact ⟨rfl, B4⟩
    · have e1 : (tx == [110, 101, 119, 115]) = false := by simpa [markL] using hmk
      have e2 : ¬ tx = [110, 101, 119, 115] := hmk
      have e0 : (tx == markL) = false := e1
      rw [e0, Bool.false_and] at hr
      have HR := Lib.hid hr
      clear hr e0
      go_wp2_with fail
      go_ret3
      rw [← HR.out]
      exact ⟨rfl, B4⟩
  · rw [if_neg hs] at hr
    have d1 : (s != 1) = true := by simpa using hs
    have HR := Lib.hid hr
    clear hr
    go_enter Tryz.func25, Tryz.ntmps25
    go_wp2_with fail
    (with_reducible refine (HX.out).mono ?_)
    rintro e w1 ⟨A1, n1, c1, rfl, ho1, hb1⟩
    go_wp2_with fail
    go_ret3
    rw [← HR.out]
    exact ⟨rfl, hb1⟩
/-! ### Read -/
/-- the records with which bytes begin, at most so many; how many bytes these have -/
def readR : Nat → List UInt8 → List (List UInt8) × Nat
  | 0, _ => ([], 0)
  | k + 1, l => if (nextL l).2.2 = 1 ∧ recB (nextL l).1 = true then ((nextL l).1 :: (readR k (l.drop (nextL l).2.1)).1, (nextL l).2.1 + (readR k (l.drop (nextL l).2.1)).2) else ([], 0)
def segRd (l : List UInt8) : Option (Int × List (List UInt8) × Nat) :=
  if (segHd l).2.2 = true then some ((segHd l).1, (readR 64 (l.drop (segHd l).2.1)).1, (segHd l).2.1 + (readR 64 (l.drop (segHd l).2.1)).2) else none
def RetSeg (w : World) (r : Option (Int × List (List UInt8) × Nat)) (f : Bool → Value) (e : Ending) (w' : World) : Prop := match r with
  | none => e = .returned (.tuple #[.agg #[.int .i64 0, .slice none 0 0, .int .i64 0], f false]) ∧ Below w.heap.size w w'
  | some (fi, rs, v) => ∃ A n c ps, e = .returned (.tuple #[.agg #[.int .i64 fi, .slice A n c, .int .i64 (v : Int)], f true]) ∧ Pr w' w.heap.size A n c ps ∧ ps.map Part.l = rs ∧ Below w.heap.size w w'
def okS (b : Bool) : Value := .int .i64 (if b then 0 else 180)
theorem seg_upto {l : List UInt8} (h : (segHd l).2.2 = true) : (segHd l).2.1 ≤ l.length := by
  unfold segHd at h ⊢
  by_cases h1 : (nextL l).2.2 = 1
  · rw [if_pos h1]
    exact (next_whole h1).2
  · rw [if_neg h1]; exact Nat.zero_le _
theorem read_round {l : List UInt8} {k at_ : Nat} {acc : List (List UInt8)} {tot : List (List UInt8) × Nat} (h : tot = (acc ++ (readR (k + 1) (l.drop at_)).1, at_ + (readR (k + 1) (l.drop at_)).2)) (hw : (nextL (l.drop at_)).2.2 = 1) (hr : recB (nextL (l.drop at_)).1 = true) :
    tot = ((acc ++ [(nextL (l.drop at_)).1]) ++ (readR k (l.drop (at_ + (nextL (l.drop at_)).2.1))).1, (at_ + (nextL (l.drop at_)).2.1) + (readR k (l.drop (at_ + (nextL (l.drop at_)).2.1))).2) := by
  rw [h, readR, if_pos ⟨hw, hr⟩, List.drop_drop]
  simp [Nat.add_assoc]
theorem read_stop {l : List UInt8} {k at_ : Nat} {acc : List (List UInt8)} {tot : List (List UInt8) × Nat} (h : tot = (acc ++ (readR (k + 1) (l.drop at_)).1, at_ + (readR (k + 1) (l.drop at_)).2)) (hw : ¬ ((nextL (l.drop at_)).2.2 = 1 ∧ recB (nextL (l.drop at_)).1 = true)) :
    tot = (acc, at_) := by
  rw [h, readR, if_neg hw]
  simp
def sgC (f : Int) (A : Option Addr) (m c v : Nat) : Array Value := #[.int .i64 f, .slice A m c, .int .i64 (v : Int)]
end Go.Proofs.YtfepinnfhcjopaaGreatDoor
end
