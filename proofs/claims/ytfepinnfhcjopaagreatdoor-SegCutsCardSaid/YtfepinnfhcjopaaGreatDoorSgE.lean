/-
  Segments: Write, the code's and the reference's.
  Digits and what they count (plain).
  A digit is its rune.
  Segments: names (plain), the reference's Name and Of.
  Segments: the code's Name, the reference's Same (printed by gen_sgname.py).
-/
import Derived.Test.YtfepinnfhcjopaaGreatDoorSgC
import Derived.Test.YtfepinnfhcjopaaGreatDoorFrmO
import Derived.Test.YtfepinnfhcjopaaGreatDoorDig
section
namespace Go.Proofs.YtfepinnfhcjopaaGreatDoor
open Go.RowKit Go.Nst
set_option maxRecDepth 100000
set_option linter.unusedVariables false
set_option linter.unusedSimpArgs false

def wrE (fi : Int) (bs : List (List UInt8)) : Int := if (knownB fi && decide (bs.length ≤ 64)) = true then (if bs.all recB = true then 0 else 150) else 1
def wrL (fi : Int) (bs : List (List UInt8)) : List UInt8 := if wrE fi bs = 0 then headL18 fi ++ flatF bs else []
theorem wr_no {fi : Int} {bs : List (List UInt8)} (h : (knownB fi && decide (bs.length ≤ 64)) = false) : wrE fi bs = 1 ∧ wrL fi bs = [] := by
  have : wrE fi bs = 1 := by unfold wrE; rw [h]; rfl
  exact ⟨this, by unfold wrL; rw [this]; rfl⟩
theorem wr_bad {fi : Int} {bs : List (List UInt8)} (h : (knownB fi && decide (bs.length ≤ 64)) = true) (h2 : bs.all recB = false) : wrE fi bs = 150 ∧ wrL fi bs = [] := by
  have : wrE fi bs = 150 := by unfold wrE; rw [h, h2]; rfl
  exact ⟨this, by unfold wrL; rw [this]; rfl⟩
theorem wr_yes {fi : Int} {bs : List (List UInt8)} (h : (knownB fi && decide (bs.length ≤ 64)) = true) (h2 : bs.all recB = true) : wrE fi bs = 0 ∧ wrL fi bs = headL18 fi ++ flatF bs := by
  have : wrE fi bs = 0 := by unfold wrE; rw [h, h2]; rfl
  exact ⟨this, by unfold wrL; rw [this]; rfl⟩
theorem all_rec {bs : List (List UInt8)} {k : Nat} {b : List UInt8} (h : ∀ x ∈ bs.take k, recB x = true) (hb : bs[k]? = some b) (h1 : recB b = true) : ∀ x ∈ bs.take (k + 1), recB x = true := by
  intro x hx
  rw [List.take_add_one, hb] at hx
  simp at hx
  rcases hx with hx | rfl
  · exact h x hx
  · exact h1
theorem head_len18 (n : Int) : (headL18 n).length ≤ 60 := by
  have h1 := body_len n
  have h2 := putL_len (zig ((headBody n).length : Int))
  unfold headL18
  rw [frame_len]
  omega
theorem not_all {bs : List (List UInt8)} {k : Nat} {b : List UInt8} (hb : bs[k]? = some b) (h1 : recB b = false) : bs.all recB = false := by
  rw [← Bool.not_eq_true, List.all_eq_true]
  intro q
  rw [q b (List.mem_of_getElem? hb)] at h1
  cases h1
set_option maxHeartbeats 4000000 in
theorem segWrite_any (fi v : Int) (A : Option Addr) (n c : Nat) (ps : List Part) (w : World) (hP : Reads w w.heap.size 1 A n (ps.map Part.val)) (hQ : ∀ p ∈ ps, Bs w p.A p.n p.l ∧ (n ≤ 64 → p.n ≤ 8000)) (hnc : n ≤ c) (hc63 : c ≤ 9223372036854775807) (ht : Tab w) (hN : Nms w) : Calls Tryz.prog 11 #[.agg #[.int .i64 fi, .slice A n c, .int .i64 v]] w (RetBE w (wrL fi (ps.map Part.l)) (wrE fi (ps.map Part.l))) := by
  have hlen : ps.length = n := by have := hP.1; simpa using this
  have HQ := Lib.hid hQ
  obtain ⟨bs, hbs⟩ : ∃ bs, ps.map Part.l = bs := ⟨_, rfl⟩
  have HBS := Lib.hid hbs
  have HBL : Hid (bs.length = n) := by rw [← hbs, List.length_map]; exact Lib.hid hlen
  rw [hbs]
  clear hbs hlen hQ
  obtain ⟨er, her⟩ : ∃ er, wrE fi bs = er := ⟨_, rfl⟩
  obtain ⟨rs, hrs⟩ : ∃ rs, wrL fi bs = rs := ⟨_, rfl⟩
  rw [her, hrs]
  have HER := Lib.hid her
  have HRS := Lib.hid hrs
  clear her hrs
  have B0 := bel_alloc (Below.refl w.heap.size w) (.cells #[.int .i64 fi, .slice A n c, .int .i64 v] 26)
  have hx0 := Blk.new w 26 #[.int .i64 fi, .slice A n c, .int .i64 v]
  have ht0 := ht.below B0
  have y0 := hx0.cell 0
  have y1 := hx0.cell 1
  simp at y0 y1
  have hz0 : w.heap.size + 1 ≤ (w.alloc (.cells #[.int .i64 fi, .slice A n c, .int .i64 v] 26)).heap.size := by simp
  cases hk : knownB fi with
  | false =>
    have HR := Lib.hid (fun W => segHead_no fi W hk)
    have hw := wr_no (fi := fi) (bs := bs) (by rw [hk]; rfl)
    rw [HER.out, HRS.out] at hw
    obtain ⟨rfl, rfl⟩ := hw
    clear hk
    go_enter Tryz.func11, Tryz.ntmps11
    go_wp2_with fail
    (with_reducible refine (HR.out _).mono ?_)
    rintro e w1 ⟨rfl, hb1⟩
    go_wp2_with fail
    go_ret2
    exact ⟨none, 0, 0, rfl, Ow.nil, bel_step B0 hb1⟩
  | true =>
    have HR := Lib.hid (fun W k => segHead_yes fi W hk k)
    by_cases h64 : n ≤ 64
    case neg =>
      have hw := wr_no (fi := fi) (bs := bs) (by rw [hk, Bool.true_and]; rw [HBL.out]; simpa using h64)
      rw [HER.out, HRS.out] at hw
      obtain ⟨rfl, rfl⟩ := hw
      have d1 : decide (64 < (n : Int)) = true := by simp; omega
      clear hk
      go_enter Tryz.func11, Tryz.ntmps11
      go_wp2_with fail
      (with_reducible refine (HR.out _ ht0).mono ?_)
      rintro e w1 ⟨A1, n1, c1, rfl, ho1, hb1⟩
      have hx1 := hx0.below hb1 hx0.lt
      have z1 := hx1.cell 1
      simp at z1
      have B1 := bel_step B0 hb1
      go_wp2_with fail
      go_ret2
      exact ⟨none, 0, 0, rfl, Ow.nil, B1⟩
    case pos =>
      have hkk : (knownB fi && decide (bs.length ≤ 64)) = true := by rw [hk, Bool.true_and]; rw [HBL.out]; simpa using h64
      have HKK := Lib.hid hkk
      have d1 : decide (64 < (n : Int)) = false := by simp; omega
      have HWY := Lib.hid (fun q => wr_yes (fi := fi) (bs := bs) hkk q)
      have hhl := head_len18 fi
      generalize headL18 fi = hd at *
      clear hk hkk
      go_enter Tryz.func11, Tryz.ntmps11
      go_wp2_with fail
      (with_reducible refine (HR.out _ ht0).mono ?_)
      rintro e w1 ⟨A1, n1, c1, rfl, ho1, hb1⟩
      have hx1 := hx0.below hb1 hx0.lt
      have z1 := hx1.cell 1
      simp at z1
      have B1 := bel_step B0 hb1
      have ho1 := ho1.mono hz0
      have hn1 := ho1.len
      have hs1 : w.heap.size + 1 ≤ w1.heap.size := by have := hb1.size; omega
      clear hb1 hx0 B0 ht0 y0 y1
      go_wp2_with fail
      go_loopw [4, 27] (fun v i wr => ∃ (k m : Nat) (A2 : Option Addr) (c2 : Nat), v = .slice A2 m c2 ∧ i = .int .i64 (k : Int) ∧ k ≤ n ∧ m ≤ 60 + 9000 * k ∧ Ow wr (w.heap.size + 1) A2 m c2 (hd ++ flatF (bs.take k)) ∧ Below w.heap.size w wr ∧ w.heap.size + 1 ≤ wr.heap.size ∧ Hid (∀ x ∈ bs.take k, recB x = true)) (fun _ i _ => n - (intOf i).toNat)
      case atStart => exact ⟨0, n1, A1, c1, rfl, rfl, by omega, by omega, by simpa [flatF] using ho1, B1, hs1, Lib.hid (by simp)⟩
      case round =>
        obtain ⟨k, m, A2, c2, rfl, rfl, hk, hmk, hO, hbw, hH1, HA⟩ := hrel
        have hbs := hbw.size
        by_cases hlt : k < n
        · obtain ⟨p, b, off, rfl, hp, hb, hc⟩ := part_at (hP.below hbw) hlt
          obtain ⟨Bp, hp1⟩ := HQ.out p (List.mem_of_getElem? hp.out)
          have hp1 := hp1 h64
          have Bp := Bp.below hbw
          have HB : Hid (bs[k]? = some p.l) := by rw [← HBS.out, List.getElem?_map, hp.out]; exact Lib.hid rfl
          have hpl := Bp.len
          clear hp
          obtain ⟨pA, pn, pc, pl⟩ := p
          simp only at Bp hc hp1 hpl HB
          cases hr : recB pl with
          | false =>
            have HX := Lib.hid (segRecord_no pA pn pc pl wr (by omega) Bp (hN.below hbw) hr)
            have hw := wr_bad HKK.out (not_all HB.out hr)
            rw [HER.out, HRS.out] at hw
            obtain ⟨rfl, rfl⟩ := hw
            clear hr
            go_wp2_with fail
            (with_reducible refine (HX.out).mono ?_)
            rintro e w2 ⟨rfl, hb2⟩
            go_wp2_with fail
            go_ret2
            exact ⟨none, 0, 0, rfl, Ow.nil, bel_step hbw hb2⟩
          | true =>
            have HX := Lib.hid (segRecord_yes pA pn pc pl wr (by omega) Bp (hN.below hbw) (ht.below hbw) hr)
            have HN := Lib.hid (all_rec HA.out HB.out hr)
            have hfl := frame_len pl
            have hppl := (putL_len (zig (pl.length : Int))).2
            have HF := Lib.hid (flatF_snoc HB.out)
            generalize frameL pl = f at *
            have hf4 : f.length ≤ 9000 := by omega
            clear hfl hppl hr
            go_wp2_with fail
            (with_reducible refine (HX.out).mono ?_)
            rintro e w2 ⟨A4, n4, c4, rfl, ho4, hb4⟩
            have hn4 := ho4.len
            have hO1 := hO.below hb4
            have B2 := bel_step hbw hb4
            have hs2 := hb4.size
            clear hb4 HX
            go_wp2_with (
              at_builtin
              have _t := hO1
              refine wpList_appBg _ iBytes rfl rfl rfl hO1 rfl ho4.bs (m + n4) (hd ++ flatF (bs.take (k + 1))) rfl (by rw [HF.out, List.append_assoc]) (by omega) (by omega) ?_
              intro A5 c5 w5 ho5 hb5 hg5 _
              clear hO1 _t
              have hs5 := hb5.size
              have B5 := B2.trans (hb5.mono (by omega)))
            go_roundw
            case rel => exact ⟨k + 1, m + n4, A5, c5, rfl, by go_num, by omega, by omega, ho5, B5, by omega, HN⟩
            case measure => simp [intOf]; omega
        · obtain rfl : k = n := by omega
          have hall : bs.all recB = true := by
            have := HA.out
            rw [List.take_of_length_le (by rw [HBL.out]; exact Nat.le_refl _)] at this
            exact List.all_eq_true.2 this
          have hw := HWY.out hall
          rw [HER.out, HRS.out] at hw
          obtain ⟨rfl, rfl⟩ := hw
          rw [List.take_of_length_le (by rw [HBL.out]; exact Nat.le_refl _)] at hO
          clear hall
          go_wp2_with fail
          go_ret2
          exact ⟨A2, m, c2, rfl, hO.mono (show w.heap.size ≤ w.heap.size + 1 by omega), hbw⟩
set_option maxHeartbeats 4000000 in
theorem refWrite18_any (fi v0 : Int) (A : Option Addr) (n c : Nat) (ps : List Part) (w : World) (hP : Reads w w.heap.size 1 A n (ps.map Part.val)) (hQ : ∀ p ∈ ps, Bs w p.A p.n p.l ∧ (n ≤ 64 → p.n ≤ 8000)) (hnc : n ≤ c) (hc63 : c ≤ 9223372036854775807) : Calls Tryz.prog 12 #[.agg #[.int .i64 fi, .slice A n c, .int .i64 v0]] w (RetBE w (wrL fi (ps.map Part.l)) (wrE fi (ps.map Part.l))) := by
  have hlen : ps.length = n := by have := hP.1; simpa using this
  have HQ := Lib.hid hQ
  obtain ⟨bs, hbs⟩ : ∃ bs, ps.map Part.l = bs := ⟨_, rfl⟩
  have HBS := Lib.hid hbs
  have HBL : Hid (bs.length = n) := by rw [← hbs, List.length_map]; exact Lib.hid hlen
  rw [hbs]
  clear hbs hlen hQ
  obtain ⟨er, her⟩ : ∃ er, wrE fi bs = er := ⟨_, rfl⟩
  obtain ⟨rs, hrs⟩ : ∃ rs, wrL fi bs = rs := ⟨_, rfl⟩
  rw [her, hrs]
  have HER := Lib.hid her
  have HRS := Lib.hid hrs
  clear her hrs
  have B0 := bel_alloc (Below.refl w.heap.size w) (.cells #[.int .i64 fi, .slice A n c, .int .i64 v0] 26)
  have hx0 := Blk.new w 26 #[.int .i64 fi, .slice A n c, .int .i64 v0]
  have y0 := hx0.cell 0
  have y1 := hx0.cell 1
  simp at y0 y1
  have hz0 : w.heap.size + 1 ≤ (w.alloc (.cells #[.int .i64 fi, .slice A n c, .int .i64 v0] 26)).heap.size := by simp
  have hK := fun W => refFirst18_any fi W
  cases hk : knownB fi with
  | false =>
    rw [hk] at hK
    have HR := Lib.hid hK
    have hw := wr_no (fi := fi) (bs := bs) (by rw [hk]; rfl)
    rw [HER.out, HRS.out] at hw
    obtain ⟨rfl, rfl⟩ := hw
    clear hk hK
    go_enter Tryz.func12, Tryz.ntmps12
    go_wp2_with fail
    (with_reducible refine (HR.out _).mono ?_)
    rintro e w1 ⟨rfl, rfl⟩
    go_wp2_with fail
    go_ret2
    exact ⟨none, 0, 0, rfl, Ow.nil, B0⟩
  | true =>
    rw [hk] at hK
    have HR := Lib.hid hK
    by_cases h64 : n ≤ 64
    case neg =>
      have hw := wr_no (fi := fi) (bs := bs) (by rw [hk, Bool.true_and]; rw [HBL.out]; simpa using h64)
      rw [HER.out, HRS.out] at hw
      obtain ⟨rfl, rfl⟩ := hw
      have d1 : decide (64 < (n : Int)) = true := by simp; omega
      clear hk hK
      go_enter Tryz.func12, Tryz.ntmps12
      go_wp2_with fail
      (with_reducible refine (HR.out _).mono ?_)
      rintro e w1 ⟨rfl, rfl⟩
      go_wp2_with fail
      go_ret2
      exact ⟨none, 0, 0, rfl, Ow.nil, B0⟩
    case pos =>
      have hkk : (knownB fi && decide (bs.length ≤ 64)) = true := by rw [hk, Bool.true_and]; rw [HBL.out]; simpa using h64
      have HKK := Lib.hid hkk
      have HH := Lib.hid (fun W => refHead18_any fi W hk)
      have HWY := Lib.hid (fun q => wr_yes (fi := fi) (bs := bs) hkk q)
      have d1 : decide (64 < (n : Int)) = false := by simp; omega
      have hhl := head_len18 fi
      generalize headL18 fi = hd at *
      clear hk hkk hK
      go_enter Tryz.func12, Tryz.ntmps12
      go_wp2_with fail
      (with_reducible refine (HR.out _).mono ?_)
      rintro e w1 ⟨rfl, rfl⟩
      go_wp2_with fail
      (with_reducible refine (HH.out _).mono ?_)
      rintro e w1 ⟨A1, n1, c1, rfl, ho1, hb1⟩
      have hx1 := hx0.below hb1 hx0.lt
      have B1 := bel_step B0 hb1
      have ho1 := ho1.mono hz0
      have hn1 := ho1.len
      have hs1 : w.heap.size + 1 ≤ w1.heap.size := by have := hb1.size; omega
      clear hb1 hx0 B0 y0 y1
      go_wp2_with fail
      go_loopw [4, 5] (fun v i wr => ∃ (k m : Nat) (A2 : Option Addr) (c2 : Nat), v = .slice A2 m c2 ∧ i = .int .i64 (k : Int) ∧ k ≤ n ∧ m ≤ 60 + 9000 * k ∧ Ow wr (w.heap.size + 1) A2 m c2 (hd ++ flatF (bs.take k)) ∧ Blk wr w.heap.size 26 #[.int .i64 fi, .slice A n c, .int .i64 v0] ∧ Below w.heap.size w wr ∧ w.heap.size + 1 ≤ wr.heap.size ∧ Hid (∀ x ∈ bs.take k, recB x = true)) (fun _ i _ => n - (intOf i).toNat)
      case atStart => exact ⟨0, n1, A1, c1, rfl, rfl, by omega, by omega, by simpa [flatF] using ho1, hx1, B1, hs1, Lib.hid (by simp)⟩
      case round =>
        obtain ⟨k, m, A2, c2, rfl, rfl, hk, hmk, hO, hx, hbw, hH1, HA⟩ := hrel
        have hbs := hbw.size
        have z1 := hx.cell 1
        simp at z1
        by_cases hlt : k < n
        · obtain ⟨p, b, off, rfl, hp, hb, hc⟩ := part_at (hP.below hbw) hlt
          obtain ⟨Bp, hp1⟩ := HQ.out p (List.mem_of_getElem? hp.out)
          have hp1 := hp1 h64
          have Bp := Bp.below hbw
          have HB : Hid (bs[k]? = some p.l) := by rw [← HBS.out, List.getElem?_map, hp.out]; exact Lib.hid rfl
          have hpl := Bp.len
          have hlen63 := hk
          clear hp
          obtain ⟨pA, pn, pc, pl⟩ := p
          simp only at Bp hc hp1 hpl HB
          cases hr : recB pl with
          | false =>
            have hX := refRecord_any pA pn pc pl wr (by omega) Bp
            rw [hr] at hX
            have HX := Lib.hid hX
            have hw := wr_bad HKK.out (not_all HB.out hr)
            rw [HER.out, HRS.out] at hw
            obtain ⟨rfl, rfl⟩ := hw
            clear hr hX
            go_wp2_with fail
            (with_reducible refine (HX.out).mono ?_)
            rintro e w2 ⟨rfl, hb2⟩
            go_wp2_with fail
            go_ret2
            exact ⟨none, 0, 0, rfl, Ow.nil, bel_step hbw hb2⟩
          | true =>
            have hX := refRecord_any pA pn pc pl wr (by omega) Bp
            rw [hr] at hX
            have HX := Lib.hid hX
            have HPU := Lib.hid (fun W (q : Bs W pA pn pl) => refPut17_any pA pn pc pl W (by omega) q)
            have HN := Lib.hid (all_rec HA.out HB.out hr)
            have hfl := frame_len pl
            have hppl := (putL_len (zig (pl.length : Int))).2
            have HF := Lib.hid (flatF_snoc HB.out)
            generalize frameL pl = f at *
            have hf4 : f.length ≤ 9000 := by omega
            clear hfl hppl hr hX
            go_wp2_with fail
            (with_reducible refine (HX.out).mono ?_)
            rintro e w2 ⟨rfl, hb2⟩
            have hO2 := hO.below hb2
            have B2 := bel_step hbw hb2
            have hx2 := hx.below hb2 hx.lt
            have z2 := hx2.cell 1
            have Bp2 := Bp.below hb2
            have hs2 := hb2.size
            have hc2 : w2.cell? ⟨b, off + k, none⟩ = some (.slice pA pn pc) := by rw [← hc]; exact hb2.cell (show b < _ by omega)
            simp at z2
            clear hb2 HX hx Bp hO
            go_wp2_with fail
            (with_reducible refine (HPU.out _ Bp2).mono ?_)
            rintro e w3 ⟨A4, n4, c4, rfl, ho4, hb4⟩
            have hn4 := ho4.len
            have hO1 := hO2.below hb4
            have B3 := bel_step B2 hb4
            have hx3 := hx2.below hb4 hx2.lt
            have hs3 := hb4.size
            clear hb4 HPU hx2 hO2
            go_wp2_with (
              at_builtin
              have _t := hO1
              refine wpList_appBg _ iBytes rfl rfl rfl hO1 rfl ho4.bs (m + n4) (hd ++ flatF (bs.take (k + 1))) rfl (by rw [HF.out, List.append_assoc]) (by omega) (by omega) ?_
              intro A5 c5 w5 ho5 hb5 hg5 _
              have hx5 := hx3.grown hg5 (by intro e2; have := (World.ownsRow.lt hO1 w.heap.size e2.symm).1; omega)
              clear hO1 _t
              have hs5 := hb5.size
              have B5 := B3.trans (hb5.mono (by omega)))
            go_roundw
            case rel => exact ⟨k + 1, m + n4, A5, c5, rfl, by go_num, by omega, by omega, ho5, hx5, B5, by omega, HN⟩
            case measure => simp [intOf]; omega
        · obtain rfl : k = n := by omega
          have hall : bs.all recB = true := by
            have := HA.out
            rw [List.take_of_length_le (by rw [HBL.out]; exact Nat.le_refl _)] at this
            exact List.all_eq_true.2 this
          have hw := HWY.out hall
          rw [HER.out, HRS.out] at hw
          obtain ⟨rfl, rfl⟩ := hw
          rw [List.take_of_length_le (by rw [HBL.out]; exact Nat.le_refl _)] at hO
          clear hall
          go_wp2_with fail
          go_ret2
          exact ⟨A2, m, c2, rfl, hO.mono (show w.heap.size ≤ w.heap.size + 1 by omega), hbw⟩
end Go.Proofs.YtfepinnfhcjopaaGreatDoor
end
section
namespace Go.Proofs.YtfepinnfhcjopaaGreatDoor
open Go.RowKit Go.Nst
set_option maxRecDepth 100000
set_option linter.unusedVariables false
set_option linter.unusedSimpArgs false

theorem len_consS {l : List UInt8} (h : 0 < l.length) : ∃ c t, l = c :: t := by
  cases l with
  | nil => simp at h
  | cons c t => exact ⟨c, t, rfl⟩
def digC (k : Nat) : UInt8 := UInt8.ofNat (48 + k)
def nm18 (n : Nat) : List UInt8 := [108, 111, 103, 46, digC (n / 1000), digC (n / 100 % 10), digC (n / 10 % 10), digC (n % 10)]
def prefL : List UInt8 := [108, 111, 103, 46]
def pr18 (l : List UInt8) : Int × Bool :=
  if (Lib.hasPrefix l prefL && (decide ((Lib.trimPrefix l prefL).length = 4) && ((Lib.trimPrefix l prefL).all digB && knownB (numL (Lib.trimPrefix l prefL))))) = true then (numL (Lib.trimPrefix l prefL), true) else (0, false)
def of18 (l : List UInt8) : Int × Bool := match (List.range 2048).find? (fun i => nm18 (i + 1) == l) with
  | some i => ((i : Int) + 1, true)
  | none => (0, false)
theorem digC_val {k : Nat} (h : k < 10) : (digC k).toNat = 48 + k := by unfold digC; rw [UInt8.toNat_ofNat']; omega
theorem digC_dig {k : Nat} (h : k < 10) : digB (digC k) = true := by unfold digB; rw [digC_val h]; simp; omega
theorem dig_digC {u : UInt8} (h : digB u = true) : ∃ k, k < 10 ∧ u = digC k := by
  unfold digB at h
  simp at h
  refine ⟨u.toNat - 48, by omega, ?_⟩
  apply UInt8.toNat_inj.1
  rw [digC_val (by omega)]
  omega
theorem num_four {a b c d : Nat} (ha : a < 10) (hb : b < 10) (hc : c < 10) (hd : d < 10) : numL [digC a, digC b, digC c, digC d] = ((1000 * a + 100 * b + 10 * c + d : Nat) : Int) := by
  simp only [numL, List.foldl, digC_val ha, digC_val hb, digC_val hc, digC_val hd]
  omega
theorem pr_name {n : Nat} (h1 : 1 ≤ n) (h2 : n ≤ 2048) : pr18 (nm18 n) = ((n : Int), true) := by
  have e : Lib.trimPrefix (nm18 n) prefL = [digC (n / 1000), digC (n / 100 % 10), digC (n / 10 % 10), digC (n % 10)] := by
    simp [Lib.trimPrefix, Lib.hasPrefix, nm18, prefL]
  have hp : Lib.hasPrefix (nm18 n) prefL = true := by simp [Lib.hasPrefix, nm18, prefL]
  have hv := num_four (a := n / 1000) (b := n / 100 % 10) (c := n / 10 % 10) (d := n % 10) (by omega) (by omega) (by omega) (by omega)
  have hn : 1000 * (n / 1000) + 100 * (n / 100 % 10) + 10 * (n / 10 % 10) + n % 10 = n := by omega
  rw [hn] at hv
  unfold pr18
  rw [e, hp, hv]
  simp [digC_dig (show n / 1000 < 10 by omega), digC_dig (show n / 100 % 10 < 10 by omega), digC_dig (show n / 10 % 10 < 10 by omega), digC_dig (show n % 10 < 10 by omega), knownB]
  omega
theorem four_of {l : List UInt8} (h : l.length = 4) : ∃ a b c d, l = [a, b, c, d] := by
  match l, h with
  | [a, b, c, d], _ => exact ⟨a, b, c, d, rfl⟩
theorem name_pr {l : List UInt8} {x : Int} (h : pr18 l = (x, true)) : ∃ n : Nat, x = (n : Int) ∧ 1 ≤ n ∧ n ≤ 2048 ∧ nm18 n = l := by
  unfold pr18 at h
  split at h
  · rename_i hc
    simp only [Bool.and_eq_true, decide_eq_true_eq] at hc
    obtain ⟨hp, hl, hd, hk⟩ := hc
    have hl0 : l = prefL ++ Lib.trimPrefix l prefL := by
      unfold Lib.trimPrefix
      rw [if_pos hp]
      unfold Lib.hasPrefix at hp
      have := List.prefix_iff_eq_append.1 (List.isPrefixOf_iff_prefix.1 hp)
      exact this.symm
    generalize Lib.trimPrefix l prefL = t at *
    obtain ⟨a, b, c, d, rfl⟩ := four_of hl
    simp only [List.all_cons, List.all_nil, Bool.and_eq_true, Bool.and_true] at hd
    obtain ⟨a', ha, rfl⟩ := dig_digC hd.1
    obtain ⟨b', hb, rfl⟩ := dig_digC hd.2.1
    obtain ⟨c', hc, rfl⟩ := dig_digC hd.2.2.1
    obtain ⟨d', hd', rfl⟩ := dig_digC hd.2.2.2
    rw [num_four ha hb hc hd'] at hk h
    injection h with hx _
    unfold knownB at hk
    simp only [Bool.and_eq_true, decide_eq_true_eq] at hk
    refine ⟨1000 * a' + 100 * b' + 10 * c' + d', hx.symm, by omega, by omega, ?_⟩
    rw [hl0]
    unfold nm18 prefL
    rw [show (1000 * a' + 100 * b' + 10 * c' + d') / 1000 = a' by omega, show (1000 * a' + 100 * b' + 10 * c' + d') / 100 % 10 = b' by omega, show (1000 * a' + 100 * b' + 10 * c' + d') / 10 % 10 = c' by omega, show (1000 * a' + 100 * b' + 10 * c' + d') % 10 = d' by omega]
    rfl
  · cases h
theorem of_same (l : List UInt8) : pr18 l = of18 l := by
  unfold of18
  cases hf : (List.range 2048).find? (fun i => nm18 (i + 1) == l) with
  | some i =>
    have h1 := List.find?_some hf
    have h2 := List.mem_of_find?_eq_some hf
    rw [List.mem_range] at h2
    have e : nm18 (i + 1) = l := by simpa using h1
    rw [← e, pr_name (by omega) (by omega)]
    simp
  | none =>
    cases hp : pr18 l with
    | mk x b =>
    cases b with
    | true =>
      obtain ⟨n, _, h1, h2, h3⟩ := name_pr hp
      have := List.find?_eq_none.1 hf (n - 1) (by rw [List.mem_range]; omega)
      rw [show n - 1 + 1 = n by omega, h3] at this
      simp at this
    | false =>
      unfold pr18 at hp
      split at hp
      · cases hp
      · exact hp.symm
theorem of_hit {l : List UInt8} {n : Nat} (h1 : 1 ≤ n) (h2 : n ≤ 2048) (h : nm18 n = l) : of18 l = ((n : Int), true) := by rw [← of_same, ← h, pr_name h1 h2]
theorem of_miss {l : List UInt8} (h : ∀ n, 1 ≤ n → n ≤ 2048 → nm18 n ≠ l) : of18 l = (0, false) := by
  rw [← of_same]
  cases hp : pr18 l with
  | mk x b =>
  cases b with
  | true =>
    obtain ⟨n, _, h1, h2, h3⟩ := name_pr hp
    exact absurd h3 (h n h1 h2)
  | false =>
    unfold pr18 at hp
    split at hp
    · cases hp
    · exact hp.symm
def digS : ByteArray := ⟨#[48, 49, 50, 51, 52, 53, 54, 55, 56, 57]⟩
theorem dig_at : ∀ k : Fin 10, (ByteArray.mk #[48, 49, 50, 51, 52, 53, 54, 55, 56, 57]).extract k.1 (k.1 + 1) = ⟨#[digC k.1]⟩ := by decide +kernel
theorem dig_at2 {k : Nat} (h : k < 10) : (ByteArray.mk #[48, 49, 50, 51, 52, 53, 54, 55, 56, 57]).extract k (k + 1) = ⟨#[digC k]⟩ := dig_at ⟨k, h⟩
set_option maxHeartbeats 4000000 in
theorem refName18_any (n : Nat) (w : World) (h1 : n ≤ 2048) : Calls Tryz.prog 23 #[.int .i64 (n : Int)] w fun e w' => e = .returned (.string ⟨(nm18 n).toArray⟩) ∧ Below w.heap.size w w' := by
  have HV : Hid ((nm18 n) = [108, 111, 103, 46, digC (n / 1000), digC (n / 100 % 10), digC (n / 10 % 10), digC (n % 10)]) := Lib.hid rfl
  obtain ⟨a, ha⟩ : ∃ a, n / 1000 = a := ⟨_, rfl⟩
  obtain ⟨b, hb⟩ : ∃ b, n / 100 % 10 = b := ⟨_, rfl⟩
  obtain ⟨c, hc⟩ : ∃ c, n / 10 % 10 = c := ⟨_, rfl⟩
  obtain ⟨d, hd⟩ : ∃ d, n % 10 = d := ⟨_, rfl⟩
  obtain ⟨x, hx⟩ : ∃ x, n / 100 = x := ⟨_, rfl⟩
  obtain ⟨y, hy⟩ : ∃ y, n / 10 = y := ⟨_, rfl⟩
  rw [ha, hb, hc, hd] at HV
  have a10 : a < 10 := by omega
  have b10 : b < 10 := by omega
  have c10 : c < 10 := by omega
  have d10 : d < 10 := by omega
  have sa := dig_at2 a10
  have sb := dig_at2 b10
  have sc := dig_at2 c10
  have sd := dig_at2 d10
  have qa : IntKind.i64.wrap ((n : Int) / 1000) = (a : Int) := by rw [IntWalk.i64_in _ (by omega)]; omega
  have qx : IntKind.i64.wrap ((n : Int) / 100) = (x : Int) := by rw [IntWalk.i64_in _ (by omega)]; omega
  have qy : IntKind.i64.wrap ((n : Int) / 10) = (y : Int) := by rw [IntWalk.i64_in _ (by omega)]; omega
  have qb : (x : Int).tmod 10 = (b : Int) := by rw [Int.tmod_eq_emod_of_nonneg (by omega)]; omega
  have qc : (y : Int).tmod 10 = (c : Int) := by rw [Int.tmod_eq_emod_of_nonneg (by omega)]; omega
  have qd : (n : Int).tmod 10 = (d : Int) := by rw [Int.tmod_eq_emod_of_nonneg (by omega)]; omega
  have wa : ∀ k : Nat, k < 10 → IntKind.i64.wrap (k : Int) = (k : Int) := fun k hk => IntWalk.i64_in _ (by omega)
  have ua : ∀ k : Nat, k < 10 → IntKind.i64.wrap ((k : Int) + 1) = ((k + 1 : Nat) : Int) := fun k hk => by rw [IntWalk.i64_in _ (by omega)]; rfl
  have wa1 := wa a a10
  have wb1 := wa b b10
  have wc1 := wa c c10
  have wd1 := wa d d10
  have ua1 := ua a a10
  have ub1 := ua b b10
  have uc1 := ua c c10
  have ud1 := ua d d10
  have ga0 : (0 : Int) ≤ (a : Int) + 1 := by omega
  have ga1 : (a : Int) + 1 ≤ 10 := by omega
  have ga2 : (a : Int) ≤ (a : Int) + 1 := by omega
  have gb0 : (0 : Int) ≤ (b : Int) + 1 := by omega
  have gb1 : (b : Int) + 1 ≤ 10 := by omega
  have gb2 : (b : Int) ≤ (b : Int) + 1 := by omega
  have gc0 : (0 : Int) ≤ (c : Int) + 1 := by omega
  have gc1 : (c : Int) + 1 ≤ 10 := by omega
  have gc2 : (c : Int) ≤ (c : Int) + 1 := by omega
  have gd0 : (0 : Int) ≤ (d : Int) + 1 := by omega
  have gd1 : (d : Int) + 1 ≤ 10 := by omega
  have gd2 : (d : Int) ≤ (d : Int) + 1 := by omega
  clear ha hb hc hd hx hy wa ua
  go_enter Tryz.func23, Tryz.ntmps23
  go_wp2_with fail
  refine wp_region_seq (by kernel_rfl) [(0, true), (1, true), (2, true), (3, true), (4, true), (5, true), (6, true), (7, true), (8, true), (9, true), (10, true), (11, true), (12, true), (13, true), (14, true), (15, true), (16, true), (17, true), (18, true), (19, true), (20, true), (21, true), (22, true), (23, true), (24, true), (25, true), (26, true), (27, true), (28, true), (29, true), (30, true), (31, true), (32, true), (33, true), (34, true), (35, true), (36, true)] (by kernel_rfl) rfl (by kernel_rfl) ?_
  intro w2 hb2
  iterate 37 (refine wpSeq_take (o := ⟨_, _, _, _, _, _⟩) (v := ?_) rfl rfl ?_ ?_; rotate_left; (focus (intro W hW; go_simp; first | done | with_reducible rfl)); simp only [Act.put, List.setIfInBounds_toArray, List.set_cons_zero, List.set_cons_succ])
  refine wpSeq_nil ?_
  go_wp2_with fail
  go_ret
  rw [HV.out]
  exact ⟨rfl, hb2⟩
set_option maxHeartbeats 4000000 in
theorem refOf18_any (l : List UInt8) (w : World) (hl : l.length ≤ 100000) : Calls Tryz.prog 17 #[.string ⟨l.toArray⟩] w fun e w' => e = .returned (.tuple #[.int .i64 (of18 l).1, .bool (of18 l).2]) ∧ Below w.heap.size w w' := by
  have HH := Lib.hid (fun n h => of_hit (l := l) (n := n) h)
  have HM := Lib.hid (of_miss (l := l))
  generalize of18 l = r at *
  obtain ⟨x, b⟩ := r
  simp only at HH HM ⊢
  go_enter Tryz.func17, Tryz.ntmps17
  go_wp2_with fail
  go_loopw [4] (fun i wr => ∃ k : Nat, i = .int .i64 (k : Int) ∧ 1 ≤ k ∧ k ≤ 2049 ∧ Below w.heap.size w wr ∧ Hid (∀ j, 1 ≤ j → j < k → nm18 j ≠ l)) (fun i _ => 2049 - (intOf i).toNat)
  case atStart => exact ⟨1, rfl, by omega, by omega, Below.refl _ _, Lib.hid (by intros; omega)⟩
  case round =>
    obtain ⟨k, rfl, hk1, hk2, hbw, HJ⟩ := hrel
    by_cases hlt : k ≤ 2048
    · have d1 : decide ((k : Int) ≤ 2048) = true := by simp; omega
      have HN := Lib.hid (refName18_any k wr hlt)
      by_cases hm : nm18 k = l
      · have he := HH.out k hk1 hlt hm
        injection he with he1 he2
        subst he1
        subst he2
        rw [hm] at HN
        clear hm HJ
        go_wp2_with fail
        (with_reducible refine (HN.out).mono ?_)
        rintro e w1 ⟨rfl, hb1⟩
        go_wp2_with fail
        go_ret2
        exact ⟨rfl, bel_step hbw hb1⟩
      · have HJ2 : Hid (∀ j, 1 ≤ j → j < k + 1 → nm18 j ≠ l) := Lib.hid (by
          intro j h1 h2
          by_cases q : j = k
          · rw [q]; exact hm
          · exact HJ.out j h1 (by omega))
        have e1 : (nm18 k == l) = false := by simpa using hm
        clear HJ
        generalize nm18 k = nm at *
        go_wp2_with fail
        (with_reducible refine (HN.out).mono ?_)
        rintro e w1 ⟨rfl, hb1⟩
        go_wp2_with fail
        go_roundw
        case rel => exact ⟨k + 1, by go_num, by omega, by omega, bel_step hbw hb1, HJ2⟩
        case measure => simp [intOf]; omega
    · have d1 : decide ((k : Int) ≤ 2048) = false := by simp; omega
      have he := HM.out (fun j h1 h2 => HJ.out j h1 (by omega))
      injection he with he1 he2
      subst he1
      subst he2
      go_wp2_with fail
      go_ret2
      exact ⟨rfl, hbw⟩
set_option maxHeartbeats 4000000 in
theorem segOf_any (l : List UInt8) (w : World) (hl : l.length ≤ 100000) : Calls Tryz.prog 16 #[.string ⟨l.toArray⟩] w fun e w' => e = .returned (.tuple #[.int .i64 (of18 l).1, .bool (of18 l).2]) ∧ Below w.heap.size w w' := by
  have HC : Hid (∀ W, Calls Tryz.prog 35 #[.string ⟨l.toArray⟩, .string ⟨#[108, 111, 103, 46]⟩] W fun e w' => e = .returned (.tuple #[.string ⟨(Lib.trimPrefix l prefL).toArray⟩, .bool (Lib.hasPrefix l prefL)]) ∧ w' = W) := Lib.hid (fun W => Tryz.strings_CutPrefix ⟨l.toArray⟩ ⟨#[108, 111, 103, 46]⟩ W)
  rw [← of_same l]
  have HP : Hid (pr18 l = if (Lib.hasPrefix l prefL && (decide ((Lib.trimPrefix l prefL).length = 4) && ((Lib.trimPrefix l prefL).all digB && knownB (numL (Lib.trimPrefix l prefL))))) = true then (numL (Lib.trimPrefix l prefL), true) else (0, false)) := Lib.hid rfl
  have htl := Lib.trimPrefix_le l prefL
  generalize Lib.hasPrefix l prefL = hp at *
  generalize Lib.trimPrefix l prefL = t at *
  obtain ⟨r, hr⟩ : ∃ r, pr18 l = r := ⟨_, rfl⟩
  rw [hr] at HP ⊢
  clear hr
  obtain ⟨x, b⟩ := r
  cases hp with
  | false =>
    have he := HP.out
    simp only [Bool.false_and, Bool.false_eq_true, if_false] at he
    injection he with he1 he2
    subst he1 he2
    clear HP
    go_enter Tryz.func16, Tryz.ntmps16
    go_wp2_with fail
    (with_reducible refine (HC.out _).mono ?_)
    rintro e w1 ⟨rfl, rfl⟩
    go_wp2_with fail
    go_ret2
    exact ⟨rfl, Below.refl _ _⟩
  | true =>
    simp only [Bool.true_and] at HP
    by_cases h4 : t.length = 4
    case neg =>
      have he := HP.out
      rw [show decide (t.length = 4) = false by simpa using h4] at he
      simp only [Bool.false_and, Bool.false_eq_true, if_false] at he
      injection he with he1 he2
      subst he1 he2
      have d1 : decide ((t.length : Int) = 4) = false := by simp; omega
      have d2 : ((t.length : Int) != 4) = true := by simp; omega
      clear HP
      go_enter Tryz.func16, Tryz.ntmps16
      go_wp2_with fail
      (with_reducible refine (HC.out _).mono ?_)
      rintro e w1 ⟨rfl, rfl⟩
      go_wp2_with fail
      go_ret2
      exact ⟨rfl, Below.refl _ _⟩
    case pos =>
      rw [show decide (t.length = 4) = true by simpa using h4, Bool.true_and] at HP
      have d1 : decide ((t.length : Int) = 4) = true := by simp; omega
      have d2 : ((t.length : Int) != 4) = false := by simp; omega
      obtain ⟨s0, hs0⟩ : ∃ s0 : ByteArray, s0 = ⟨t.toArray⟩ := ⟨_, rfl⟩
      have hbl : (bl s0).length = s0.size := bl_len s0
      have hbt : bl s0 = t := by rw [hs0, bl_of]
      have hsz4 : s0.size = 4 := by rw [← hbl, hbt, h4]
      rw [← hbt] at HP d1 d2 h4 htl
      rw [← hs0] at HC
      have HS0 := Lib.hid hs0
      clear hs0 hbt
      go_enter Tryz.func16, Tryz.ntmps16
      go_wp2_with fail
      (with_reducible refine (HC.out _).mono ?_)
      rintro e w1 ⟨rfl, rfl⟩
      clear HC
      go_wp2_with fail
      go_loopw [6] (fun v wr => ∃ pos : Nat, v = .int .i64 (numL ((bl s0).take pos)) ∧ pos ≤ 4 ∧ Hid (((bl s0).take pos).all digB = true) ∧ wr.heap[w1.heap.size]? = some (.stringIter s0 pos) ∧ Below w1.heap.size w1 wr) (fun _ wr => 4 - wr.iterPos w1.heap.size)
      case atStart =>
        refine ⟨0, rfl, by omega, Lib.hid rfl, ?_, bel_alloc (Below.refl _ _) _⟩
        have := World.iter_heap w1 s0 0
        simpa using this
      case round =>
        obtain ⟨pos, rfl, hps, HA, hit, hbw⟩ := hrel
        have hsz : w1.heap.size < wr.heap.size := (Array.getElem?_eq_some_iff.1 hit).1
        have hdl : ((bl s0).take pos).length = pos := by rw [List.length_take, h4]; omega
        have hb0 := numL_in HA.out
        rw [hdl] at hb0
        have hb1 : (10 : Int) ^ pos ≤ 10000 := by
          have : pos = 0 ∨ pos = 1 ∨ pos = 2 ∨ pos = 3 ∨ pos = 4 := by omega
          rcases this with rfl | rfl | rfl | rfl | rfl <;> decide
        by_cases hp : pos < 4
        · have hp' : pos < s0.size := by omega
          have hnx : ∀ ty, (Instr.next (.pointer (some ⟨w1.heap.size, 0, none⟩)) true ty).run Tryz.prog wr = _ := fun ty => Lib.run_next_any_at wr w1.heap.size s0 pos ty hit hp'
          rw [decode_bl s0 pos hp'] at hnx
          obtain ⟨u, t', hut⟩ := len_consS (l := (bl s0).drop pos) (by rw [List.length_drop, h4]; omega)
          have hu := u.toNat_lt
          rcases first_dig hut with ⟨hd, hf⟩ | ⟨hd, hf⟩
          · rw [hf] at hnx
            have hd' := hd
            unfold digB at hd'
            simp at hd'
            have t1 : decide (((u.toNat : Nat) : Int) < 48) = false := by simp; omega
            have t2 : decide ((57 : Int) < ((u.toNat : Nat) : Int)) = false := by simp; omega
            have q1 : IntKind.i32.wrap (((u.toNat : Nat) : Int) - 48) = ((u.toNat : Nat) : Int) - 48 := IntWalk.i32_in _ (by omega)
            have q2 : IntKind.i64.wrap (10 * numL ((bl s0).take pos)) = 10 * numL ((bl s0).take pos) := IntWalk.i64_in _ (by omega)
            have q3 : IntKind.i64.wrap (10 * numL ((bl s0).take pos) + (((u.toNat : Nat) : Int) - 48)) = 10 * numL ((bl s0).take pos) + (((u.toNat : Nat) : Int) - 48) := IntWalk.i64_in _ (by omega)
            have q4 : IntKind.i64.wrap (((u.toNat : Nat) : Int) - 48) = ((u.toNat : Nat) : Int) - 48 := IntWalk.i64_in _ (by omega)
            have HN : Hid (numL ((bl s0).take (pos + 1)) = 10 * numL ((bl s0).take pos) + (((u.toNat : Nat) : Int) - 48) ∧ ((bl s0).take (pos + 1)).all digB = true) := Lib.hid (by
              rw [take_snocD hut, numL_snoc, List.all_append, HA.out]
              exact ⟨rfl, by simp [hd]⟩)
            have hit2 := Lib.iterAt_heap wr w1.heap.size s0 pos (pos + 1) hit
            have hbw2 := Lib.below_iterAt hbw (k := w1.heap.size) (by omega) s0 (pos + 1)
            have hne4 := Lib.hid h4
            generalize numL ((bl s0).take pos) = x at *
            clear hut hf hd hd' HA h4 d1 d2 hbl
            go_wp2_with fail
            go_roundw
            case rel => exact ⟨pos + 1, by rw [HN.out.1], by omega, Lib.hid HN.out.2, hit2, hbw2⟩
            case measure =>
              simp only [World.iterPos, hit2, hit]
              omega
          · have hN : (bl s0).all digB = false := by
              have e : bl s0 = (bl s0).take pos ++ u :: t' := by rw [← hut, List.take_append_drop]
              rw [e, List.all_append, List.all_cons, hd]
              simp
            have hbw2 := Lib.below_iterAt hbw (k := w1.heap.size) (by omega) s0 (pos + (firstL ((bl s0).drop pos)).2)
            generalize firstL ((bl s0).drop pos) = f at *
            obtain ⟨fr, fw⟩ := f
            simp only at hf hnx hbw2
            have he := HP.out
            rw [hN, Bool.false_and] at he
            simp only [Bool.false_eq_true, if_false] at he
            injection he with he1 he2
            subst he1 he2
            clear hut hd HA h4 d1 d2 hbl HP hN
            generalize numL ((bl s0).take pos) = x at *
            by_cases t1 : (fr : Int) < 48
            · have d2 : decide ((fr : Int) < 48) = true := by simpa using t1
              clear hf t1
              go_wp2_with fail
              go_ret2
              exact ⟨rfl, hbw2⟩
            · have d2 : decide ((fr : Int) < 48) = false := by simpa using t1
              have d3 : decide ((57 : Int) < (fr : Int)) = true := by simp; omega
              clear hf t1
              go_wp2_with fail
              go_ret2
              exact ⟨rfl, hbw2⟩
        · obtain rfl : pos = 4 := by omega
          have hnx : ∀ ty, (Instr.next (.pointer (some ⟨w1.heap.size, 0, none⟩)) true ty).run Tryz.prog wr = _ := fun ty => Lib.run_next_end_at wr w1.heap.size s0 4 ty hit (by omega)
          have hfull : (bl s0).take 4 = bl s0 := List.take_of_length_le (by omega)
          rw [hfull] at HA hb0 hdl ⊢
          have HPN := HP.out
          rw [HA.out, Bool.true_and] at HPN
          have hbw2 := hbw
          clear hfull HA h4 d1 d2 hbl HP hdl
          generalize numL (bl s0) = x at *
          have hK := fun W => known_any x W
          cases hk : knownB x with
          | false =>
            rw [hk] at hK HPN
            simp only [Bool.false_eq_true, if_false] at HPN
            injection HPN with he1 he2
            subst he1 he2
            have HK := Lib.hid hK
            clear hK hk
            go_wp2_with fail
            (with_reducible refine (HK.out _).mono ?_)
            rintro e w2 ⟨rfl, rfl⟩
            go_wp2_with fail
            go_ret2
            exact ⟨rfl, hbw2⟩
          | true =>
            rw [hk] at hK HPN
            rw [if_pos rfl] at HPN
            injection HPN with he1 he2
            subst he1 he2
            have HK := Lib.hid hK
            clear hK hk
            go_wp2_with fail
            (with_reducible refine (HK.out _).mono ?_)
            rintro e w2 ⟨rfl, rfl⟩
            go_wp2_with fail
            go_ret2
            exact ⟨rfl, hbw2⟩
end Go.Proofs.YtfepinnfhcjopaaGreatDoor
end
section
namespace Go.Proofs.YtfepinnfhcjopaaGreatDoor
open Go.RowKit Go.Nst
set_option maxRecDepth 100000
set_option linter.unusedVariables false
set_option linter.unusedSimpArgs false

theorem name_zero : nm18 0 = [108, 111, 103, 46, 48, 48, 48, 48] := by decide
theorem dig_val2 {k : Nat} (h : k < 10) : ((digC k).toNat : Int) = 48 + (k : Int) := by rw [digC_val h]; omega
/-- eight bytes that '[]byte' of a constant has laid: marked behind their end -/
def Mk (w : World) (g : Nat) (l : List UInt8) : Prop := l.length = 8 ∧ w.heap[g]? = some (.cells (bv l).toArray 5 (8, 9))
theorem Mk.bs {w : World} {g : Nat} {l : List UInt8} (h : Mk w g l) : Bs w (some ⟨g, 0, none⟩) 8 l := by
  have hlt : g < w.heap.size := by
    rcases Nat.lt_or_ge g w.heap.size with q | q
    · exact q
    · have := h.2; rw [Array.getElem?_eq_none q] at this; cases this
  refine ⟨by rw [bv_len]; have := h.1; omega, fun _ => ⟨_, rfl, hlt, fun j u hu => ?_⟩⟩
  rw [add_lit, Nat.zero_add, cell_of_row w g j _ _ _ h.2]
  simpa using hu
theorem Mk.cellAt {w : World} {g j : Nat} {l : List UInt8} (h : Mk w g l) (hj : j < 8) : ∃ u : UInt8, w.cell? ⟨g, j, none⟩ = some (.int .u8 (u.toNat : Int)) ∧ w.frozen? ⟨g, j, none⟩ = false := by
  obtain ⟨u, hu⟩ : ∃ u, l[j]? = some u := ⟨l[j]'(by have := h.1; omega), List.getElem?_eq_getElem _⟩
  refine ⟨u, ?_, ?_⟩
  · rw [cell_of_row w g j _ _ _ h.2]
    simp [bv, hu]
  · simp [World.frozen?, h.2]
    omega
theorem Mk.set {w : World} {g : Nat} {l : List UInt8} (h : Mk w g l) (j : Nat) (u : UInt8) : Mk (w.setCell ⟨g, j, none⟩ (.int .u8 (u.toNat : Int))) g (l.set j u) := by
  refine ⟨by rw [List.length_set]; exact h.1, ?_⟩
  rw [setCell_eq_setRow w g j _ _ _ _ h.2, setRow_heap w g _ _ _ _ h.2]
  simp [bv, List.map_set]
set_option maxHeartbeats 8000000 in
theorem segName_any (n : Nat) (w : World) (h1 : 1 ≤ n) (h2 : n ≤ 2048) : Calls Tryz.prog 22 #[.int .i64 (n : Int)] w fun e w' => e = .returned (.string ⟨(nm18 n).toArray⟩) ∧ Below w.heap.size w w' := by
  have HK : Hid (∀ W, Calls Tryz.prog 36 #[.int .i64 (n : Int)] W fun e w' => e = .returned (.bool true) ∧ W = w') := Lib.hid (fun W => by
    have := known_any (n : Int) W
    rwa [show knownB (n : Int) = true by unfold knownB; simp; omega] at this)
  obtain ⟨nl, hnl⟩ : ∃ nl, nm18 n = nl := ⟨_, rfl⟩
  rw [hnl]
  have HNL := Lib.hid hnl
  clear hnl
  go_enter Tryz.func22, Tryz.ntmps22
  go_wp2_with fail
  (with_reducible refine (HK.out _).mono ?_)
  rintro e w1 ⟨rfl, rfl⟩
  have kc := fun (w : World) (C : Array Value) (n c : Nat) => Lib.run_convert_bytes_const (P := Tryz.prog) w 22 5 C n c Tryz.underlying22 Tryz.underlying5
  have hO0 : Mk (w.alloc (.cells #[.int .u8 108, .int .u8 111, .int .u8 103, .int .u8 46, .int .u8 48, .int .u8 48, .int .u8 48, .int .u8 48] 5 (8, 9))) w.heap.size (nm18 0) := ⟨rfl, heap_alloc_new w _⟩
  have B0 := bel_alloc (Below.refl w.heap.size w) (.cells #[.int .u8 108, .int .u8 111, .int .u8 103, .int .u8 46, .int .u8 48, .int .u8 48, .int .u8 48, .int .u8 48] 5 (8, 9))
  go_wp2_with fail
  go_loopw [0, 4] (fun f i wr => ∃ z : Nat, f = .int .i64 ((n / 10 ^ z : Nat) : Int) ∧ i = .int .i64 (7 - (z : Int)) ∧ z ≤ 4 ∧ Mk wr w.heap.size (nm18 (n % 10 ^ z)) ∧ Below w.heap.size w wr) (fun _ i _ => (intOf i).toNat)
  case atStart => exact ⟨0, by simp, by simp, by omega, by rw [Nat.pow_zero, Nat.mod_one]; exact hO0, B0⟩
  case round =>
    obtain ⟨z, rfl, rfl, hz, hO, hbw⟩ := hrel
    have hz5 : z = 0 ∨ z = 1 ∨ z = 2 ∨ z = 3 ∨ z = 4 := by omega
    rcases hz5 with rfl | rfl | rfl | rfl | rfl
    · have e0 : 10 ^ 0 = 1 := rfl
      rw [e0] at hO ⊢
      obtain ⟨q, hq⟩ : ∃ q, n / 1 = q := ⟨_, rfl⟩
      rw [hq]
      by_cases hq0 : q = 0
      · have HE : Hid (n % 1 = n) := Lib.hid (by omega)
        rw [HE.out, HNL.out] at hO
        have hB := hO.bs
        have ks := hB.str (P := Tryz.prog) 22 9 5 8 Tryz.underlying22 Tryz.underlying5 Tryz.underlying9
        have d1 : decide ((0 : Int) < (q : Int)) = false := by simp; omega
        have d2 : decide (0 < q) = false := by simp; omega
        clear hB hq0 hq HE e0 hz
        go_wp2_with fail
        go_ret
        exact ⟨rfl, hbw⟩
      · obtain ⟨d, hd⟩ : ∃ d, q % 10 = d := ⟨_, rfl⟩
        obtain ⟨q2, hq2⟩ : ∃ q2, q / 10 = q2 := ⟨_, rfl⟩
        have hd10 : d < 10 := by omega
        have d1 : decide ((0 : Int) < (q : Int)) = true := by simp; omega
        have d2 : decide (0 < q) = true := by simp; omega
        have t1 : (q : Int).tmod 10 = (d : Int) := by rw [Int.tmod_eq_emod_of_nonneg (by omega)]; omega
        have t2 : IntKind.i64.wrap (48 + (d : Int)) = 48 + (d : Int) := IntWalk.i64_in _ (by omega)
        have t3 : IntKind.u8.wrap (48 + (d : Int)) = 48 + (d : Int) := IntWalk.u8_in _ (by omega)
        have t4 : IntKind.i64.wrap ((q : Int) / 10) = (q2 : Int) := by rw [IntWalk.i64_in _ (by omega)]; omega
        have hOn : Mk (wr.setCell ⟨w.heap.size, 7, none⟩ (.int .u8 (48 + (d : Int)))) w.heap.size (nm18 (n % 10 ^ 1)) := by
          have := hO.set 7 (digC d)
          rw [dig_val2 hd10] at this
          rw [show nm18 (n % 10 ^ 1) = (nm18 (n % 1)).set 7 (digC d) from ?_]
          · exact this
          · rw [show 10 ^ 1 = 10 from rfl]
            have hx3 : n % 10 / 1000 = n % 1 / 1000 := by omega
            have hx2 : n % 10 / 100 % 10 = n % 1 / 100 % 10 := by omega
            have hx1 : n % 10 / 10 % 10 = n % 1 / 10 % 10 := by omega
            have hx0 : n % 10 % 10 = d := by omega
            unfold nm18
            rw [hx3, hx2, hx1, hx0]
            rfl
        have Bn := hbw.setCell (p := ⟨w.heap.size, 7, none⟩) (Nat.le_refl _) (.int .u8 (48 + (d : Int)))
        have hq3 : ((n / 10 ^ 1 : Nat) : Int) = (q2 : Int) := by rw [show 10 ^ 1 = 10 from rfl]; omega
        obtain ⟨u, hc, hfz⟩ := hO.cellAt (j := 7) (by omega)
        clear hq hq2 hd e0 hq0
        go_wp2_with fail
        go_roundw
        case rel => exact ⟨1, by rw [hq3], by simp, by omega, hOn, Bn⟩
        case measure => simp [intOf]
    · have e0 : 10 ^ 1 = 10 := rfl
      rw [e0] at hO ⊢
      obtain ⟨q, hq⟩ : ∃ q, n / 10 = q := ⟨_, rfl⟩
      rw [hq]
      by_cases hq0 : q = 0
      · have HE : Hid (n % 10 = n) := Lib.hid (by omega)
        rw [HE.out, HNL.out] at hO
        have hB := hO.bs
        have ks := hB.str (P := Tryz.prog) 22 9 5 8 Tryz.underlying22 Tryz.underlying5 Tryz.underlying9
        have d1 : decide ((0 : Int) < (q : Int)) = false := by simp; omega
        have d2 : decide (0 < q) = false := by simp; omega
        clear hB hq0 hq HE e0 hz
        go_wp2_with fail
        go_ret
        exact ⟨rfl, hbw⟩
      · obtain ⟨d, hd⟩ : ∃ d, q % 10 = d := ⟨_, rfl⟩
        obtain ⟨q2, hq2⟩ : ∃ q2, q / 10 = q2 := ⟨_, rfl⟩
        have hd10 : d < 10 := by omega
        have d1 : decide ((0 : Int) < (q : Int)) = true := by simp; omega
        have d2 : decide (0 < q) = true := by simp; omega
        have t1 : (q : Int).tmod 10 = (d : Int) := by rw [Int.tmod_eq_emod_of_nonneg (by omega)]; omega
        have t2 : IntKind.i64.wrap (48 + (d : Int)) = 48 + (d : Int) := IntWalk.i64_in _ (by omega)
        have t3 : IntKind.u8.wrap (48 + (d : Int)) = 48 + (d : Int) := IntWalk.u8_in _ (by omega)
        have t4 : IntKind.i64.wrap ((q : Int) / 10) = (q2 : Int) := by rw [IntWalk.i64_in _ (by omega)]; omega
        have hOn : Mk (wr.setCell ⟨w.heap.size, 6, none⟩ (.int .u8 (48 + (d : Int)))) w.heap.size (nm18 (n % 10 ^ 2)) := by
          have := hO.set 6 (digC d)
          rw [dig_val2 hd10] at this
          rw [show nm18 (n % 10 ^ 2) = (nm18 (n % 10)).set 6 (digC d) from ?_]
          · exact this
          · rw [show 10 ^ 2 = 100 from rfl]
            have hx3 : n % 100 / 1000 = n % 10 / 1000 := by omega
            have hx2 : n % 100 / 100 % 10 = n % 10 / 100 % 10 := by omega
            have hx1 : n % 100 / 10 % 10 = d := by omega
            have hx0 : n % 100 % 10 = n % 10 % 10 := by omega
            unfold nm18
            rw [hx3, hx2, hx1, hx0]
            rfl
        have Bn := hbw.setCell (p := ⟨w.heap.size, 6, none⟩) (Nat.le_refl _) (.int .u8 (48 + (d : Int)))
        have hq3 : ((n / 10 ^ 2 : Nat) : Int) = (q2 : Int) := by rw [show 10 ^ 2 = 100 from rfl]; omega
        obtain ⟨u, hc, hfz⟩ := hO.cellAt (j := 6) (by omega)
        clear hq hq2 hd e0 hq0
        go_wp2_with fail
        go_roundw
        case rel => exact ⟨2, by rw [hq3], by simp, by omega, hOn, Bn⟩
        case measure => simp [intOf]
    · have e0 : 10 ^ 2 = 100 := rfl
      rw [e0] at hO ⊢
      obtain ⟨q, hq⟩ : ∃ q, n / 100 = q := ⟨_, rfl⟩
      rw [hq]
      by_cases hq0 : q = 0
      · have HE : Hid (n % 100 = n) := Lib.hid (by omega)
        rw [HE.out, HNL.out] at hO
        have hB := hO.bs
        have ks := hB.str (P := Tryz.prog) 22 9 5 8 Tryz.underlying22 Tryz.underlying5 Tryz.underlying9
        have d1 : decide ((0 : Int) < (q : Int)) = false := by simp; omega
        have d2 : decide (0 < q) = false := by simp; omega
        clear hB hq0 hq HE e0 hz
        go_wp2_with fail
        go_ret
        exact ⟨rfl, hbw⟩
      · obtain ⟨d, hd⟩ : ∃ d, q % 10 = d := ⟨_, rfl⟩
        obtain ⟨q2, hq2⟩ : ∃ q2, q / 10 = q2 := ⟨_, rfl⟩
        have hd10 : d < 10 := by omega
        have d1 : decide ((0 : Int) < (q : Int)) = true := by simp; omega
        have d2 : decide (0 < q) = true := by simp; omega
        have t1 : (q : Int).tmod 10 = (d : Int) := by rw [Int.tmod_eq_emod_of_nonneg (by omega)]; omega
        have t2 : IntKind.i64.wrap (48 + (d : Int)) = 48 + (d : Int) := IntWalk.i64_in _ (by omega)
        have t3 : IntKind.u8.wrap (48 + (d : Int)) = 48 + (d : Int) := IntWalk.u8_in _ (by omega)
        have t4 : IntKind.i64.wrap ((q : Int) / 10) = (q2 : Int) := by rw [IntWalk.i64_in _ (by omega)]; omega
        have hOn : Mk (wr.setCell ⟨w.heap.size, 5, none⟩ (.int .u8 (48 + (d : Int)))) w.heap.size (nm18 (n % 10 ^ 3)) := by
          have := hO.set 5 (digC d)
          rw [dig_val2 hd10] at this
          rw [show nm18 (n % 10 ^ 3) = (nm18 (n % 100)).set 5 (digC d) from ?_]
          · exact this
          · rw [show 10 ^ 3 = 1000 from rfl]
            have hx3 : n % 1000 / 1000 = n % 100 / 1000 := by omega
            have hx2 : n % 1000 / 100 % 10 = d := by omega
            have hx1 : n % 1000 / 10 % 10 = n % 100 / 10 % 10 := by omega
            have hx0 : n % 1000 % 10 = n % 100 % 10 := by omega
            unfold nm18
            rw [hx3, hx2, hx1, hx0]
            rfl
        have Bn := hbw.setCell (p := ⟨w.heap.size, 5, none⟩) (Nat.le_refl _) (.int .u8 (48 + (d : Int)))
        have hq3 : ((n / 10 ^ 3 : Nat) : Int) = (q2 : Int) := by rw [show 10 ^ 3 = 1000 from rfl]; omega
        obtain ⟨u, hc, hfz⟩ := hO.cellAt (j := 5) (by omega)
        clear hq hq2 hd e0 hq0
        go_wp2_with fail
        go_roundw
        case rel => exact ⟨3, by rw [hq3], by simp, by omega, hOn, Bn⟩
        case measure => simp [intOf]
    · have e0 : 10 ^ 3 = 1000 := rfl
      rw [e0] at hO ⊢
      obtain ⟨q, hq⟩ : ∃ q, n / 1000 = q := ⟨_, rfl⟩
      rw [hq]
      by_cases hq0 : q = 0
      · have HE : Hid (n % 1000 = n) := Lib.hid (by omega)
        rw [HE.out, HNL.out] at hO
        have hB := hO.bs
        have ks := hB.str (P := Tryz.prog) 22 9 5 8 Tryz.underlying22 Tryz.underlying5 Tryz.underlying9
        have d1 : decide ((0 : Int) < (q : Int)) = false := by simp; omega
        have d2 : decide (0 < q) = false := by simp; omega
        clear hB hq0 hq HE e0 hz
        go_wp2_with fail
        go_ret
        exact ⟨rfl, hbw⟩
      · obtain ⟨d, hd⟩ : ∃ d, q % 10 = d := ⟨_, rfl⟩
        obtain ⟨q2, hq2⟩ : ∃ q2, q / 10 = q2 := ⟨_, rfl⟩
        have hd10 : d < 10 := by omega
        have d1 : decide ((0 : Int) < (q : Int)) = true := by simp; omega
        have d2 : decide (0 < q) = true := by simp; omega
        have t1 : (q : Int).tmod 10 = (d : Int) := by rw [Int.tmod_eq_emod_of_nonneg (by omega)]; omega
        have t2 : IntKind.i64.wrap (48 + (d : Int)) = 48 + (d : Int) := IntWalk.i64_in _ (by omega)
        have t3 : IntKind.u8.wrap (48 + (d : Int)) = 48 + (d : Int) := IntWalk.u8_in _ (by omega)
        have t4 : IntKind.i64.wrap ((q : Int) / 10) = (q2 : Int) := by rw [IntWalk.i64_in _ (by omega)]; omega
        have hOn : Mk (wr.setCell ⟨w.heap.size, 4, none⟩ (.int .u8 (48 + (d : Int)))) w.heap.size (nm18 (n % 10 ^ 4)) := by
          have := hO.set 4 (digC d)
          rw [dig_val2 hd10] at this
          rw [show nm18 (n % 10 ^ 4) = (nm18 (n % 1000)).set 4 (digC d) from ?_]
          · exact this
          · rw [show 10 ^ 4 = 10000 from rfl]
            have hx3 : n % 10000 / 1000 = d := by omega
            have hx2 : n % 10000 / 100 % 10 = n % 1000 / 100 % 10 := by omega
            have hx1 : n % 10000 / 10 % 10 = n % 1000 / 10 % 10 := by omega
            have hx0 : n % 10000 % 10 = n % 1000 % 10 := by omega
            unfold nm18
            rw [hx3, hx2, hx1, hx0]
            rfl
        have Bn := hbw.setCell (p := ⟨w.heap.size, 4, none⟩) (Nat.le_refl _) (.int .u8 (48 + (d : Int)))
        have hq3 : ((n / 10 ^ 4 : Nat) : Int) = (q2 : Int) := by rw [show 10 ^ 4 = 10000 from rfl]; omega
        obtain ⟨u, hc, hfz⟩ := hO.cellAt (j := 4) (by omega)
        clear hq hq2 hd e0 hq0
        go_wp2_with fail
        go_roundw
        case rel => exact ⟨4, by rw [hq3], by simp, by omega, hOn, Bn⟩
        case measure => simp [intOf]
    · have e0 : 10 ^ 4 = 10000 := rfl
      rw [e0] at hO ⊢
      obtain ⟨q, hq⟩ : ∃ q, n / 10000 = q := ⟨_, rfl⟩
      rw [hq]
      by_cases hq0 : q = 0
      · have HE : Hid (n % 10000 = n) := Lib.hid (by omega)
        rw [HE.out, HNL.out] at hO
        have hB := hO.bs
        have ks := hB.str (P := Tryz.prog) 22 9 5 8 Tryz.underlying22 Tryz.underlying5 Tryz.underlying9
        have d1 : decide ((0 : Int) < (q : Int)) = false := by simp; omega
        have d2 : decide (0 < q) = false := by simp; omega
        clear hB hq0 hq HE e0 hz
        go_wp2_with fail
        go_ret
        exact ⟨rfl, hbw⟩
      · exact absurd hq0 (by omega)
set_option maxHeartbeats 4000000 in
theorem segName_no (n : Int) (w : World) (h0 : knownB n = false) : Calls Tryz.prog 22 #[.int .i64 n] w fun e w' => e = .returned (.string ⟨#[]⟩) ∧ Below w.heap.size w w' := by
  have hK := fun W => known_any n W
  rw [h0] at hK
  have HK := Lib.hid hK
  clear hK h0
  go_enter Tryz.func22, Tryz.ntmps22
  go_wp2_with fail
  (with_reducible refine (HK.out _).mono ?_)
  rintro e w1 ⟨rfl, rfl⟩
  go_wp2_with fail
  go_ret
  exact ⟨rfl, Below.refl _ _⟩
set_option maxHeartbeats 4000000 in
theorem same18_any (f1 f2 v1 v2 : Int) (A A2 : Option Addr) (n c n2 c2 : Nat) (ps qs : List Part) (w : World) (hn : n ≤ 1000000) (hP : Reads w w.heap.size 1 A n (ps.map Part.val)) (hQ : Reads w w.heap.size 1 A2 n2 (qs.map Part.val)) (h1 : ∀ p ∈ ps, Bs w p.A p.n p.l) (h2 : ∀ p ∈ qs, Bs w p.A p.n p.l) (hf : f1 = f2) (hv : v1 = v2) (he : ps.map Part.l = qs.map Part.l) :
    Calls Tryz.prog 10 #[.agg #[.int .i64 f1, .slice A n c, .int .i64 v1], .agg #[.int .i64 f2, .slice A2 n2 c2, .int .i64 v2]] w (RetTrue w) := by
  subst hf
  subst hv
  have B0 := bel_alloc (Below.refl w.heap.size w) (.cells #[.int .i64 f1, .slice A n c, .int .i64 v1] 26)
  have B1 := bel_alloc B0 (.cells #[.int .i64 f1, .slice A2 n2 c2, .int .i64 v1] 26)
  have HS := Lib.hid (same17_any A A2 n c n2 c2 ps qs ((w.alloc (.cells #[.int .i64 f1, .slice A n c, .int .i64 v1] 26)).alloc (.cells #[.int .i64 f1, .slice A2 n2 c2, .int .i64 v1] 26)) hn ((hP.below B1).more B1.size) ((hQ.below B1).more B1.size) (fun p hp => (h1 p hp).below B1) (fun p hp => (h2 p hp).below B1) he)
  have x0 := (Blk.new w 26 #[.int .i64 f1, .slice A n c, .int .i64 v1]).alloc (.cells #[.int .i64 f1, .slice A2 n2 c2, .int .i64 v1] 26)
  have x1 := Blk.new (w.alloc (.cells #[.int .i64 f1, .slice A n c, .int .i64 v1] 26)) 26 #[.int .i64 f1, .slice A2 n2 c2, .int .i64 v1]
  have y0 := x0.cell 0
  have y1 := x0.cell 1
  have y2 := x0.cell 2
  have z0 := x1.cell 0
  have z1 := x1.cell 1
  have z2 := x1.cell 2
  simp at y0 y1 y2 z0 z1 z2
  clear x0 x1 B0
  go_enter Tryz.func10, Tryz.ntmps10
  go_wp2_with fail
  (with_reducible refine (HS.out).mono ?_)
  rintro e w1 ⟨rfl, hb1⟩
  go_wp2_with fail
  go_ret
  exact ⟨rfl, bel_step B1 hb1⟩
end Go.Proofs.YtfepinnfhcjopaaGreatDoor
end
