/-
  The document's dates of the mail.
-/
import Derived.Test.YtlmmiaghbommcaaGreatDoorDtF
import Derived.Test.YtlmmiaghbommcaaGreatDoorDtU
import Derived.Test.YtlmmiaghbommcaaGreatDoorTak
import Derived.Deep.DeepCutAuto
import Derived.Deep.CutBlock
namespace Go.Proofs.YtlmmiaghbommcaaGreatDoor
open Go.RowKit Go.Nst
set_option maxRecDepth 100000
set_option linter.unusedVariables false
set_option linter.unusedSimpArgs false

theorem Ss.cell {W : World} {g off n k : Nat} {L : List (List UInt8)} {x : List UInt8} (h : Ss W (some ⟨g, off, none⟩) n L) (hx : L[k]? = some x) : W.cell? ⟨g, off + k, none⟩ = some (.string ⟨x.toArray⟩) := by
  have hk : k < n := by
    have h1 := (List.getElem?_eq_some_iff.1 hx).1
    rw [h.len] at h1
    exact h1
  obtain ⟨y, b, o, e, hy, _, hc⟩ := Ss.at h hk
  injection e with e
  injection e with e1 e2
  subst e1 e2
  have hy := hy.out
  rw [hx] at hy
  injection hy with hy
  rw [hy]
  exact hc
theorem rs_cell {W : World} {B g off n k : Nat} {L : List (List UInt8)} {x : List UInt8} (h : Reads W B 1 (some ⟨g, off, none⟩) n (sv L)) (hx : L[k]? = some x) : W.cell? ⟨g, off + k, none⟩ = some (.string ⟨x.toArray⟩) := by
  have hl : L.length = n := by have := h.1; simpa [sv] using this
  have hk : k < n := by
    have h1 := (List.getElem?_eq_some_iff.1 hx).1
    omega
  obtain ⟨u, b, o, e, hu, _, hc⟩ := Reads.plain h hk
  injection e with e
  injection e with e1 e2
  subst e1 e2
  have hu := hu.out
  rw [sv, List.getElem?_map, hx] at hu
  simp at hu
  rw [← hu] at hc
  exact hc
theorem Ss.cut1 {W : World} {A : Option Addr} {n c : Nat} {L : List (List UInt8)} (h : Ss W A n L) (hn : 1 ≤ n) (hc : n ≤ c) (h1 : c ≠ 1) : Ss W (A.map (·.add 1)) (n - 1) (L.drop 1) := by
  have := Reads.cut h hn hc
  rw [if_neg h1] at this
  unfold Ss sv
  simpa [sv, List.map_drop] using this
theorem mail5R_len {w : List (List UInt8)} (h : w.length ≠ 5) : mail5R w = none := by
  match w with
  | [] => rfl
  | [_] => rfl
  | [_, _] => rfl
  | [_, _, _] => rfl
  | [_, _, _, _] => rfl
  | [_, _, _, _, _] => exact absurd rfl h
  | _ :: _ :: _ :: _ :: _ :: _ :: _ => rfl
theorem two_of {α : Type} {l : List α} (h : l.length = 2) : ∃ a b, l = [a, b] := by
  match l, h with
  | [a, b], _ => exact ⟨a, b, rfl⟩
theorem three_of {α : Type} {l : List α} (h : l.length = 3) : ∃ a b c, l = [a, b, c] := by
  match l, h with
  | [a, b, c], _ => exact ⟨a, b, c, rfl⟩
theorem numR_bd (l : List UInt8) : -1 ≤ numR l ∧ numR l ≤ 1000000000 := by
  unfold numR
  split
  · rename_i h
    have h1 := numL_in h.2.2
    have h2 : (10 : Int) ^ l.length ≤ 10 ^ 9 := by
      have h9 : l.length ≤ 9 := h.2.1
      generalize l.length = k at h9
      rcases (by omega : k = 0 ∨ k = 1 ∨ k = 2 ∨ k = 3 ∨ k = 4 ∨ k = 5 ∨ k = 6 ∨ k = 7 ∨ k = 8 ∨ k = 9) with rfl | rfl | rfl | rfl | rfl | rfl | rfl | rfl | rfl | rfl <;> decide
    have h3 : (10 : Int) ^ 9 = 1000000000 := by decide
    omega
  · omega
theorem Ss.blk {W : World} {g n : Nat} {L : List (List UInt8)} {cs : Array Value} {t : TypeId} (h : Blk W g t cs) (hn : L.length = n) (hcs : cs.toList = sv L) : Ss W (some ⟨g, 0, none⟩) n L := by
  refine ⟨by simp [sv]; omega, fun _ => ⟨_, rfl, h.lt, fun j u hu => ?_⟩⟩
  rw [add_lit, Nat.zero_add, h.cell j]
  rw [← hcs] at hu
  simpa using hu
def secR (P : List (List UInt8)) : Int := if P.length = 3 then numR (P.getD 2 []) else 0
theorem mail5R_at (a b c d e : List UInt8) (h1 : ¬ (2 < a.length ∨ (c.length ≠ 4 ∧ c.length ≠ 2))) : mail5R [a, b, c, d, e] = if ((splitL 58 d).length ≠ 2 ∧ (splitL 58 d).length ≠ 3) ∨ (∃ p ∈ splitL 58 d, p.length ≠ 2) then none
    else match zoneM e with
      | none => none
      | some z => toldR ⟨yearR c, 1 + indexL namesM b, numR a, numR ((splitL 58 d).getD 0 []), numR ((splitL 58 d).getD 1 []), secR (splitL 58 d)⟩ z := by
  simp only [mail5R, secR]
  rw [if_neg h1]
  rfl
set_option maxHeartbeats 8000000 in
theorem mail4_any (S : ByteArray) (w : World) (hS : S.size ≤ 100000) : Calls Tryz.prog 45 #[.string S] w fun e w' => e = .returned (znV (mailR (bl S))) ∧ Below w.heap.size w w' := by
  have HSP : Hid (∀ W, Calls Tryz.prog 63 #[.string S, .int .u8 32] W (RetOs W (splitL 32 (bl S)))) := Lib.hid (fun W => split4_any S 32 W hS)
  have HM : Hid (mailR (bl S) = mail5R (weekW (splitL 32 (bl S)))) := rfl
  have HLN : Hid (∀ p ∈ splitL 32 (bl S), p.length ≤ 100000) := Lib.hid (fun p hp => by have := split_lens 32 (bl S) p hp; rw [bl_len] at this; omega)
  generalize splitL 32 (bl S) = ws at *
  generalize mailR (bl S) = res at *
  go_enter Tryz.func45, Tryz.ntmps45
  go_wp2_with fail
  (with_reducible refine (HSP.out _).mono ?_)
  rintro e w1 ⟨A1, n1, c1, rfl, hO1, B1⟩
  have hn1 := hO1.ss.len
  have hcap := (own_cap hO1).1
  have hQ1 := hO1.ss
  go_upto_if 14 with fail
  go_cut [4] (fun s4 wx => ∃ (A : Option Addr) (n c : Nat) (L : List (List UInt8)), s4 = .slice A n c ∧ n ≤ c ∧ Ss wx A n L ∧ Below w.heap.size w wx ∧ Hid (res = mail5R L) ∧ Hid (∀ p ∈ L, p.length ≤ 100000))
  case first =>
    by_cases h6 : n1 = 6
    · subst h6
      obtain ⟨x0, a, b, c, d, e_, rfl⟩ := six_of hn1
      obtain ⟨g, rfl, _, _, _⟩ := own_where hO1 (by omega)
      have q0 := Ss.cell hQ1 (k := 0) rfl
      simp only [Nat.add_zero] at q0
      have hL := Ss.const w1 namesW (sv namesW).toArray 9 (0, 0) 7 rfl (by simp)
      have hsv : (sv namesW).toArray = #[.string ⟨#[77, 111, 110, 44]⟩, .string ⟨#[84, 117, 101, 44]⟩, .string ⟨#[87, 101, 100, 44]⟩, .string ⟨#[84, 104, 117, 44]⟩, .string ⟨#[70, 114, 105, 44]⟩, .string ⟨#[83, 97, 116, 44]⟩, .string ⟨#[83, 117, 110, 44]⟩] := rfl
      rw [hsv] at hL
      have B2 := bel_alloc B1 (.cells (sv namesW).toArray 9)
      have q0' := (bel_alloc (Below.refl w1.heap.size w1) (.cells (sv namesW).toArray 9)).cell (p := ⟨g, 0, none⟩) (World.block_lt_of_cell? w1 _ q0)
      rw [hsv] at B2 q0'
      rw [q0] at q0'
      have HIX := Lib.hid (index4_any _ 7 7 namesW x0 _ hL (by omega))
      have hQ2 := Ss.cut1 (hQ1.below (bel_alloc (Below.refl _ _) (.cells (sv namesW).toArray 9))) (by omega) hcap (by omega)
      rw [hsv] at hQ2
      clear hL hsv hO1
      by_cases hw : 0 ≤ indexL namesW x0
      · have HM2 : Hid (res = mail5R [a, b, c, d, e_]) := Lib.hid (HM.out.trans (by unfold weekW; rw [if_pos ⟨rfl, hw⟩]; rfl))
        have t1 : decide (indexL namesW x0 < 0) = false := by simp; omega
        have hc1 : c1 ≠ 1 := by omega
        have hc6 : (1 : Int) ≤ c1 := by omega
        generalize indexL namesW x0 = ix at *
        go_wp2_with fail
        (with_reducible refine (HIX.out).mono ?_)
        rintro e w2 ⟨rfl, rfl⟩
        go_wp2_with fail
        go_meet
        refine ⟨_, _, _, [a, b, c, d, e_], rfl, ?_, hQ2, B2, HM2, Lib.hid (fun p hp => HLN.out p (List.mem_cons_of_mem _ hp))⟩
        omega
      · have HM2 : Hid (res = none) := Lib.hid (HM.out.trans (by unfold weekW; rw [if_neg (by simp; omega)]; rfl))
        have t1 : decide (indexL namesW x0 < 0) = true := by simp; omega
        generalize indexL namesW x0 = ix at *
        go_wp2_with fail
        (with_reducible refine (HIX.out).mono ?_)
        rintro e w2 ⟨rfl, rfl⟩
        go_wp2_with fail
        go_ret2
        rw [HM2.out]
        exact ⟨rfl, B2⟩
    · have HM2 : Hid (res = mail5R ws) := Lib.hid (HM.out.trans (by unfold weekW; rw [if_neg (by omega)]))
      have t6 : ((n1 : Int) == 6) = false := by simp; omega
      go_wp2_with fail
      go_meet
      exact ⟨A1, n1, c1, ws, rfl, hcap, hQ1, B1, HM2, HLN⟩
  case rest =>
    obtain ⟨A, n, cp, L, rfl, hncp, hQ, B2, HM2, HL2⟩ := hcut
    have hn := hQ.len
    clear HM HLN hQ1 hcap hn1 hO1 B1 HSP
    generalize wc = w2 at *
    by_cases h5 : n = 5
    case neg =>
      have HV : Hid (res = none) := Lib.hid (HM2.out.trans (mail5R_len (by omega)))
      have t5 : ((n : Int) != 5) = true := by simp; omega
      go_wp2_with fail
      go_ret2
      rw [HV.out]
      exact ⟨rfl, B2⟩
    subst h5
    obtain ⟨a, b, c, d, e_, rfl⟩ := five_of hn
    obtain ⟨x_, g, off, rfl, _, hgl, _⟩ := Ss.at hQ (show 0 < 5 by omega)
    have q0 := Ss.cell hQ (k := 0) rfl
    have q1 := Ss.cell hQ (k := 1) rfl
    have q2 := Ss.cell hQ (k := 2) rfl
    have q3 := Ss.cell hQ (k := 3) rfl
    have q4 := Ss.cell hQ (k := 4) rfl
    simp only [Nat.add_zero] at q0
    have la := HL2.out a (by simp)
    have lb := HL2.out b (by simp)
    have lc := HL2.out c (by simp)
    have ld := HL2.out d (by simp)
    have le := HL2.out e_ (by simp)
    by_cases hA : 2 < a.length ∨ (c.length ≠ 4 ∧ c.length ≠ 2)
    · have HV : Hid (res = none) := Lib.hid (HM2.out.trans (by simp only [mail5R]; rw [if_pos hA]))
      clear HM2 HL2
      by_cases ha : 2 < a.length
      · have t1 : decide (2 < a.length) = true := by simpa using ha
        go_wp2_with fail
        go_ret2
        rw [HV.out]
        exact ⟨rfl, B2⟩
      · have t1 : decide (2 < a.length) = false := by simpa using ha
        have t2 : ((c.length : Int) != 4) = true := by simp; omega
        have t3 : ((c.length : Int) != 2) = true := by simp; omega
        go_wp2_with fail
        go_ret2
        rw [HV.out]
        exact ⟨rfl, B2⟩
    have HM3 := Lib.hid (HM2.out.trans (mail5R_at a b c d e_ hA))
    have ha : a.length ≤ 2 := by omega
    have hc : c.length = 4 ∨ c.length = 2 := by omega
    clear HM2 HL2 hA
    have t1 : decide (2 < a.length) = false := by simp; omega
    have t1b : decide ((2 : Int) < (a.length : Int)) = false := by simp; omega
    go_upto_region 6 with fail
    go_cut [46] (fun v wx => v = .bool false ∧ wx = w2)
    case first =>
      rcases hc with hc | hc
      · have t2 : ((c.length : Int) != 4) = false := by simp; omega
        go_wp2_with fail
        go_meet
        exact ⟨rfl, rfl⟩
      · have t2 : ((c.length : Int) != 4) = true := by simp; omega
        have t3 : ((c.length : Int) != 2) = false := by simp; omega
        go_wp2_with fail
        go_meet
        exact ⟨rfl, rfl⟩
    case rest =>
    obtain ⟨rfl, rfl⟩ := hcut
    clear t1 t1b
    have HNa := Lib.hid (fun W => num4_any ⟨a.toArray⟩ W (by rw [size_of]; omega))
    have HNc := Lib.hid (fun W => num4_any ⟨c.toArray⟩ W (by rw [size_of]; omega))
    rw [bl_of] at HNa HNc
    have hyr : yearR c = if c.length = 2 ∧ 50 ≤ numR c then numR c + 1900 else if c.length = 2 ∧ 0 ≤ numR c then numR c + 2000 else numR c := rfl
    have HYR := Lib.hid hyr
    have hcb : -1 ≤ numR c ∧ numR c ≤ 1000000000 := numR_bd c
    clear hyr
    have hil := indexL_le namesM b
    have hig := indexL_ge namesM b
    have kix : IntKind.i64.wrap (1 + indexL namesM b) = 1 + indexL namesM b := IntWalk.i64_in _ (by omega)
    have HIXm := Lib.hid (fun A W (h : Ss W A 12 namesM) => index4_any A 12 12 namesM b W h (by omega))
    generalize numR a = va at *
    generalize numR c = vc at *
    generalize indexL namesM b = ib at *
    generalize yearR c = vy at *
    have hBw : w.heap.size ≤ wc.heap.size := B2.size
    obtain ⟨Bq, hBq⟩ : ∃ Bq, Bq = wc.heap.size := ⟨_, rfl⟩
    have HBq := Lib.hid hBq
    clear hBq
    go_upto_region 8 with fail
    go_cut [5] (fun s5 wx => ∃ gd, s5 = .pointer (some ⟨gd, 0, none⟩) ∧ w.heap.size ≤ gd ∧ Blk wx gd 93 #[.int .i64 vc, .int .i64 (1 + ib), .int .i64 va, .int .i64 0, .int .i64 0, .int .i64 0] ∧ Bq ≤ gd ∧ Reads wx Bq 1 (some ⟨g, off, none⟩) 5 (sv [a, b, c, d, e_]) ∧ Below w.heap.size w wx)
    case first =>
      refine wp_region_ordR (Kep wc.heap.size 93) (Kep.refl _ _) Kep.trans (by kernel_rfl) (.take 0 (.take 1 (.take 2 (.take 3 (.take 4 (.take 5 (.take 6 (.take 7 (.take 9 (.take 10 (.take 11 (.two 8 (.take 12 (.take 13 (.take 14 (.exec 15 (.exec 16 (.nil)))))) 15 (.exec 8 (.take 12 (.take 13 (.take 14 (.exec 16 (.nil)))))))))))))))))) (by kernel_rfl) (by kernel_rfl) (by kernel_rfl) ?_
      obtain ⟨w3, hw3⟩ : ∃ w3, w3 = wc.drew := ⟨_, rfl⟩
      have B3 : Below w.heap.size w w3 := by rw [hw3]; exact B2.drew
      have hQ3 : Ss w3 (some ⟨g, off, none⟩) 5 [a, b, c, d, e_] := by rw [hw3]; exact hQ
      have hsz : Hid (w3.heap.size = wc.heap.size) := Lib.hid (by rw [hw3]; rfl)
      have c0 := fun W (hW : Kep wc.heap.size 93 w3 W) => (show W.cell? ⟨g, off, none⟩ = some (.string ⟨a.toArray⟩) from (hW.1.cell (p := ⟨g, off, none⟩) hgl).trans (by rw [hw3]; exact q0))
      have c1 := fun W (hW : Kep wc.heap.size 93 w3 W) => (show W.cell? ⟨g, off + 1, none⟩ = some (.string ⟨b.toArray⟩) from (hW.1.cell (p := ⟨g, off + 1, none⟩) hgl).trans (by rw [hw3]; exact q1))
      have c2 := fun W (hW : Kep wc.heap.size 93 w3 W) => (show W.cell? ⟨g, off + 2, none⟩ = some (.string ⟨c.toArray⟩) from (hW.1.cell (p := ⟨g, off + 2, none⟩) hgl).trans (by rw [hw3]; exact q2))
      rw [← hw3]
      clear hw3 q0 q1 q2 q3 q4
      generalize wc.heap.size = B0 at *
      iterate 3 (refine wpOrd_take (o := ⟨_, _, _, _, _, _⟩) (v := ?_) rfl rfl ?_ ?_; rotate_left; (focus (intro W hW; go_simp; first | done | with_reducible rfl)); simp only [Act.put, List.setIfInBounds_toArray, List.set_cons_zero, List.set_cons_succ])
      (refine wpOrd_call (o := ⟨_, _, _, _, _, _⟩) rfl rfl (fun W hW => HNa.out W) ?_ ?_; (focus (intro W hW; go_simp; first | done | with_reducible rfl)); simp only [Act.put, List.setIfInBounds_toArray, List.set_cons_zero, List.set_cons_succ])
      iterate 3 (refine wpOrd_take (o := ⟨_, _, _, _, _, _⟩) (v := ?_) rfl rfl ?_ ?_; rotate_left; (focus (intro W hW; go_simp; first | done | with_reducible rfl)); simp only [Act.put, List.setIfInBounds_toArray, List.set_cons_zero, List.set_cons_succ])
      (refine wpOrd_call (o := ⟨_, _, _, _, _, _⟩) rfl rfl (fun W hW => HNc.out W) ?_ ?_; (focus (intro W hW; go_simp; first | done | with_reducible rfl)); simp only [Act.put, List.setIfInBounds_toArray, List.set_cons_zero, List.set_cons_succ])
      iterate 3 (refine wpOrd_take (o := ⟨_, _, _, _, _, _⟩) (v := ?_) rfl rfl ?_ ?_; rotate_left; (focus (intro W hW; go_simp; first | done | with_reducible rfl)); simp only [Act.put, List.setIfInBounds_toArray, List.set_cons_zero, List.set_cons_succ])
      clear c0 c1 c2
      refine wpOrd_two ?_ ?_
      case refine_1 =>
        refine wpOrd_exec (o := ⟨_, _, _, _, _, _⟩) rfl rfl (fun K hK => ?_)
        go_simp
        refine hK _ _ (Kep.alloc (Nat.le_of_eq hsz.out.symm) _) ?_
        clear hK K
        have hN := Blk.new w3 9 #[.string ⟨#[74, 97, 110]⟩, .string ⟨#[70, 101, 98]⟩, .string ⟨#[77, 97, 114]⟩, .string ⟨#[65, 112, 114]⟩, .string ⟨#[77, 97, 121]⟩, .string ⟨#[74, 117, 110]⟩, .string ⟨#[74, 117, 108]⟩, .string ⟨#[65, 117, 103]⟩, .string ⟨#[83, 101, 112]⟩, .string ⟨#[79, 99, 116]⟩, .string ⟨#[78, 111, 118]⟩, .string ⟨#[68, 101, 99]⟩]
        have hK4 : Kep B0 93 w3 (w3.alloc (.cells #[.string ⟨#[74, 97, 110]⟩, .string ⟨#[70, 101, 98]⟩, .string ⟨#[77, 97, 114]⟩, .string ⟨#[65, 112, 114]⟩, .string ⟨#[77, 97, 121]⟩, .string ⟨#[74, 117, 110]⟩, .string ⟨#[74, 117, 108]⟩, .string ⟨#[65, 117, 103]⟩, .string ⟨#[83, 101, 112]⟩, .string ⟨#[79, 99, 116]⟩, .string ⟨#[78, 111, 118]⟩, .string ⟨#[68, 101, 99]⟩] 9)) := Kep.alloc (Nat.le_of_eq hsz.out.symm) _
        have hs4 : B0 ≤ (w3.alloc (.cells #[.string ⟨#[74, 97, 110]⟩, .string ⟨#[70, 101, 98]⟩, .string ⟨#[77, 97, 114]⟩, .string ⟨#[65, 112, 114]⟩, .string ⟨#[77, 97, 121]⟩, .string ⟨#[74, 117, 110]⟩, .string ⟨#[74, 117, 108]⟩, .string ⟨#[65, 117, 103]⟩, .string ⟨#[83, 101, 112]⟩, .string ⟨#[79, 99, 116]⟩, .string ⟨#[78, 111, 118]⟩, .string ⟨#[68, 101, 99]⟩] 9)).heap.size := by simp; have := hsz.out; omega
        obtain ⟨gn, hgn⟩ : ∃ gn, gn = w3.heap.size := ⟨_, rfl⟩
        rw [← hgn] at hN
        simp only [← hgn]
        generalize w3.alloc (.cells #[.string ⟨#[74, 97, 110]⟩, .string ⟨#[70, 101, 98]⟩, .string ⟨#[77, 97, 114]⟩, .string ⟨#[65, 112, 114]⟩, .string ⟨#[77, 97, 121]⟩, .string ⟨#[74, 117, 110]⟩, .string ⟨#[74, 117, 108]⟩, .string ⟨#[65, 117, 103]⟩, .string ⟨#[83, 101, 112]⟩, .string ⟨#[79, 99, 116]⟩, .string ⟨#[78, 111, 118]⟩, .string ⟨#[68, 101, 99]⟩] 9) = w4 at *
        clear hgn
        (refine wpOrd_call (o := ⟨_, _, _, _, _, _⟩) rfl rfl (fun W hW => HIXm.out _ W (Ss.blk (hW.blk hN (by decide)) rfl rfl)) ?_ ?_; (focus (intro W hW; go_simp; first | done | with_reducible rfl)); simp only [Act.put, List.setIfInBounds_toArray, List.set_cons_zero, List.set_cons_succ])
        iterate 2 (refine wpOrd_take (o := ⟨_, _, _, _, _, _⟩) (v := ?_) rfl rfl ?_ ?_; rotate_left; (focus (intro W hW; go_simp; first | done | with_reducible rfl)); simp only [Act.put, List.setIfInBounds_toArray, List.set_cons_zero, List.set_cons_succ])
        refine wpOrd_exec (o := ⟨_, _, _, _, _, _⟩) rfl rfl (fun K hK => ?_)
        go_simp
        refine hK _ _ (Kep.alloc hs4 _) ?_
        clear hK K
        have hD := Blk.new w4 93 #[.int .i64 0, .int .i64 0, .int .i64 0, .int .i64 0, .int .i64 0, .int .i64 0]
        have hK5 : Kep B0 93 w4 (w4.alloc (.cells #[.int .i64 0, .int .i64 0, .int .i64 0, .int .i64 0, .int .i64 0, .int .i64 0] 93)) := Kep.alloc hs4 _
        obtain ⟨gd, hgd⟩ : ∃ gd, gd = w4.heap.size := ⟨_, rfl⟩
        have hB : B0 ≤ gd := by omega
        rw [← hgd] at hD
        simp only [← hgd]
        generalize w4.alloc (.cells #[.int .i64 0, .int .i64 0, .int .i64 0, .int .i64 0, .int .i64 0, .int .i64 0] 93) = w5 at *
        clear hgd
        have hKK := Kep.trans _ _ _ hK4 hK5
        have d0 := hD.cell 0
        have d1 := hD.cell 1
        have d2 := hD.cell 2
        have d3 := hD.cell 3
        have d4 := hD.cell 4
        have d5 := hD.cell 5
        simp at d0 d1 d2 d3 d4 d5
        have hfz := hD.frozen
        refine wpOrd_exec (o := ⟨_, _, _, _, _, _⟩) rfl rfl (fun K hK => ?_)
        go_simp
        refine hK _ _ (Kep.put6 hD hB _ _ _ _ _ _) ?_
        clear hK K
        refine wpOrd_nil ?_
        have hE := blk_put6 hD (.int .i64 vc) (.int .i64 (1 + ib)) (.int .i64 va) (.int .i64 0) (.int .i64 0) (.int .i64 0)
        have hKE := Kep.trans _ _ _ hKK (Kep.put6 hD hB (.int .i64 vc) (.int .i64 (1 + ib)) (.int .i64 va) (.int .i64 0) (.int .i64 0) (.int .i64 0))
        clear d0 d1 d2 d3 d4 d5 hfz hD
        generalize ((((((w5.setCell ⟨gd, 0, none⟩ (.int .i64 vc)).setCell ⟨gd, 1, none⟩ (.int .i64 (1 + ib))).setCell ⟨gd, 2, none⟩ (.int .i64 va)).setCell ⟨gd, 3, none⟩ (.int .i64 0)).setCell ⟨gd, 4, none⟩ (.int .i64 0)).setCell ⟨gd, 5, none⟩ (.int .i64 0)) = w6 at *
        go_wp2_with fail
        go_meet
        exact ⟨gd, rfl, by omega, hE, by rw [HBq.out]; exact hB, by rw [HBq.out]; have h9 := (Reads.below hQ3 (hKE.1.mono (Nat.le_of_eq hsz.out))); rw [hsz.out] at h9; exact h9, B3.trans (hKE.1.mono hBw)⟩
      case refine_2 =>
        refine wpOrd_exec (o := ⟨_, _, _, _, _, _⟩) rfl rfl (fun K hK => ?_)
        go_simp
        refine hK _ _ (Kep.alloc (Nat.le_of_eq hsz.out.symm) _) ?_
        clear hK K
        have hD := Blk.new w3 93 #[.int .i64 0, .int .i64 0, .int .i64 0, .int .i64 0, .int .i64 0, .int .i64 0]
        have hK4 : Kep B0 93 w3 (w3.alloc (.cells #[.int .i64 0, .int .i64 0, .int .i64 0, .int .i64 0, .int .i64 0, .int .i64 0] 93)) := Kep.alloc (Nat.le_of_eq hsz.out.symm) _
        have hs4 : B0 ≤ (w3.alloc (.cells #[.int .i64 0, .int .i64 0, .int .i64 0, .int .i64 0, .int .i64 0, .int .i64 0] 93)).heap.size := by simp; have := hsz.out; omega
        obtain ⟨gd, hgd⟩ : ∃ gd, gd = w3.heap.size := ⟨_, rfl⟩
        have hB : B0 ≤ gd := by rw [hgd]; exact Nat.le_of_eq hsz.out.symm
        rw [← hgd] at hD
        simp only [← hgd]
        generalize w3.alloc (.cells #[.int .i64 0, .int .i64 0, .int .i64 0, .int .i64 0, .int .i64 0, .int .i64 0] 93) = w4 at *
        clear hgd
        refine wpOrd_exec (o := ⟨_, _, _, _, _, _⟩) rfl rfl (fun K hK => ?_)
        go_simp
        refine hK _ _ (Kep.alloc hs4 _) ?_
        clear hK K
        have hN := Blk.new w4 9 #[.string ⟨#[74, 97, 110]⟩, .string ⟨#[70, 101, 98]⟩, .string ⟨#[77, 97, 114]⟩, .string ⟨#[65, 112, 114]⟩, .string ⟨#[77, 97, 121]⟩, .string ⟨#[74, 117, 110]⟩, .string ⟨#[74, 117, 108]⟩, .string ⟨#[65, 117, 103]⟩, .string ⟨#[83, 101, 112]⟩, .string ⟨#[79, 99, 116]⟩, .string ⟨#[78, 111, 118]⟩, .string ⟨#[68, 101, 99]⟩]
        have hK5 : Kep B0 93 w4 (w4.alloc (.cells #[.string ⟨#[74, 97, 110]⟩, .string ⟨#[70, 101, 98]⟩, .string ⟨#[77, 97, 114]⟩, .string ⟨#[65, 112, 114]⟩, .string ⟨#[77, 97, 121]⟩, .string ⟨#[74, 117, 110]⟩, .string ⟨#[74, 117, 108]⟩, .string ⟨#[65, 117, 103]⟩, .string ⟨#[83, 101, 112]⟩, .string ⟨#[79, 99, 116]⟩, .string ⟨#[78, 111, 118]⟩, .string ⟨#[68, 101, 99]⟩] 9)) := Kep.alloc hs4 _
        have hD := hD.alloc (.cells #[.string ⟨#[74, 97, 110]⟩, .string ⟨#[70, 101, 98]⟩, .string ⟨#[77, 97, 114]⟩, .string ⟨#[65, 112, 114]⟩, .string ⟨#[77, 97, 121]⟩, .string ⟨#[74, 117, 110]⟩, .string ⟨#[74, 117, 108]⟩, .string ⟨#[65, 117, 103]⟩, .string ⟨#[83, 101, 112]⟩, .string ⟨#[79, 99, 116]⟩, .string ⟨#[78, 111, 118]⟩, .string ⟨#[68, 101, 99]⟩] 9)
        obtain ⟨gn, hgn⟩ : ∃ gn, gn = w4.heap.size := ⟨_, rfl⟩
        rw [← hgn] at hN
        simp only [← hgn]
        generalize w4.alloc (.cells #[.string ⟨#[74, 97, 110]⟩, .string ⟨#[70, 101, 98]⟩, .string ⟨#[77, 97, 114]⟩, .string ⟨#[65, 112, 114]⟩, .string ⟨#[77, 97, 121]⟩, .string ⟨#[74, 117, 110]⟩, .string ⟨#[74, 117, 108]⟩, .string ⟨#[65, 117, 103]⟩, .string ⟨#[83, 101, 112]⟩, .string ⟨#[79, 99, 116]⟩, .string ⟨#[78, 111, 118]⟩, .string ⟨#[68, 101, 99]⟩] 9) = w5 at *
        clear hgn
        (refine wpOrd_call (o := ⟨_, _, _, _, _, _⟩) rfl rfl (fun W hW => HIXm.out _ W (Ss.blk (hW.blk hN (by decide)) rfl rfl)) ?_ ?_; (focus (intro W hW; go_simp; first | done | with_reducible rfl)); simp only [Act.put, List.setIfInBounds_toArray, List.set_cons_zero, List.set_cons_succ])
        iterate 2 (refine wpOrd_take (o := ⟨_, _, _, _, _, _⟩) (v := ?_) rfl rfl ?_ ?_; rotate_left; (focus (intro W hW; go_simp; first | done | with_reducible rfl)); simp only [Act.put, List.setIfInBounds_toArray, List.set_cons_zero, List.set_cons_succ])
        have hKK := Kep.trans _ _ _ hK4 hK5
        have d0 := hD.cell 0
        have d1 := hD.cell 1
        have d2 := hD.cell 2
        have d3 := hD.cell 3
        have d4 := hD.cell 4
        have d5 := hD.cell 5
        simp at d0 d1 d2 d3 d4 d5
        have hfz := hD.frozen
        refine wpOrd_exec (o := ⟨_, _, _, _, _, _⟩) rfl rfl (fun K hK => ?_)
        go_simp
        refine hK _ _ (Kep.put6 hD hB _ _ _ _ _ _) ?_
        clear hK K
        refine wpOrd_nil ?_
        have hE := blk_put6 hD (.int .i64 vc) (.int .i64 (1 + ib)) (.int .i64 va) (.int .i64 0) (.int .i64 0) (.int .i64 0)
        have hKE := Kep.trans _ _ _ hKK (Kep.put6 hD hB (.int .i64 vc) (.int .i64 (1 + ib)) (.int .i64 va) (.int .i64 0) (.int .i64 0) (.int .i64 0))
        clear d0 d1 d2 d3 d4 d5 hfz hD
        generalize ((((((w5.setCell ⟨gd, 0, none⟩ (.int .i64 vc)).setCell ⟨gd, 1, none⟩ (.int .i64 (1 + ib))).setCell ⟨gd, 2, none⟩ (.int .i64 va)).setCell ⟨gd, 3, none⟩ (.int .i64 0)).setCell ⟨gd, 4, none⟩ (.int .i64 0)).setCell ⟨gd, 5, none⟩ (.int .i64 0)) = w6 at *
        go_wp2_with fail
        go_meet
        exact ⟨gd, rfl, by omega, hE, by rw [HBq.out]; exact hB, by rw [HBq.out]; have h9 := (Reads.below hQ3 (hKE.1.mono (Nat.le_of_eq hsz.out))); rw [hsz.out] at h9; exact h9, B3.trans (hKE.1.mono hBw)⟩
    case rest =>
    obtain ⟨gd, rfl, hgd, hD, hqd, hR, B3⟩ := hcut
    have hgB : g < Bq := by rw [HBq.out]; exact hgl
    clear hgl hBw HBq q0 q1 q2 q3 q4 hQ HNa HNc HIXm kix B2
    have k1 : IntKind.i64.wrap (vc + 1900) = vc + 1900 := IntWalk.i64_in _ (by omega)
    have k2 : IntKind.i64.wrap (vc + 2000) = vc + 2000 := IntWalk.i64_in _ (by omega)
    have d0 := hD.cell 0
    simp at d0
    have hfz := hD.frozen
    have q2 := rs_cell hR (k := 2) rfl
    go_upto_region 9 with fail
    obtain ⟨tb, htb⟩ : ∃ tb : Bool, tb = decide (c.length = 2 ∧ 50 ≤ vc) := ⟨_, rfl⟩
    have HTB := Lib.hid htb
    clear htb
    go_cut [71] (fun v wx => v = .bool tb ∧ wx = wc)
    case first =>
      by_cases h2 : c.length = 2
      · have t2 : ((c.length : Int) == 2) = true := by simp; omega
        go_wp2_with fail
        go_meet
        exact ⟨by rw [HTB.out]; simp [h2], rfl⟩
      · have t2 : ((c.length : Int) == 2) = false := by simp; omega
        go_wp2_with fail
        go_meet
        exact ⟨by rw [HTB.out]; simp [h2], rfl⟩
    case rest =>
    obtain ⟨rfl, hwc⟩ := hcut
    rw [hwc] at *
    clear hwc
    go_upto_if 71 with fail
    go_cut [] (fun wx => Blk wx gd 93 #[.int .i64 vy, .int .i64 (1 + ib), .int .i64 va, .int .i64 0, .int .i64 0, .int .i64 0] ∧ Reads wx Bq 1 (some ⟨g, off, none⟩) 5 (sv [a, b, c, d, e_]) ∧ Below w.heap.size w wx)
    case first =>
      by_cases h50 : c.length = 2 ∧ 50 ≤ vc
      · have hy : Hid (vy = vc + 1900) := Lib.hid (HYR.out.trans (if_pos h50))
        have t50 : tb = true := by rw [HTB.out]; simpa using h50
        subst t50
        have hE := hD.set_ 0 (.int .i64 (vc + 1900))
        clear HYR h50
        go_wp2_with fail
        go_meet
        rw [hy.out]
        exact ⟨hE, hR.setCell (p := ⟨gd, 0, none⟩) hqd _, B3.setCell (p := ⟨gd, 0, none⟩) hgd _⟩
      · have t50 : tb = false := by rw [HTB.out]; simpa using h50
        subst t50
        by_cases h2 : c.length = 2
        · have t2 : ((c.length : Int) == 2) = true := by simp; omega
          by_cases h0 : 0 ≤ vc
          · have hy : Hid (vy = vc + 2000) := Lib.hid (HYR.out.trans ((if_neg h50).trans (if_pos ⟨h2, h0⟩)))
            have t0 : decide (0 ≤ vc) = true := by simpa using h0
            have hE := hD.set_ 0 (.int .i64 (vc + 2000))
            clear HYR h50
            go_wp2_with fail
            go_meet
            rw [hy.out]
            exact ⟨hE, hR.setCell (p := ⟨gd, 0, none⟩) hqd _, B3.setCell (p := ⟨gd, 0, none⟩) hgd _⟩
          · have hy : Hid (vy = vc) := Lib.hid (HYR.out.trans ((if_neg h50).trans (if_neg (fun h => h0 h.2))))
            have t0 : decide (0 ≤ vc) = false := by simpa using h0
            clear HYR h50
            go_wp2_with fail
            go_meet
            rw [hy.out]
            exact ⟨hD, hR, B3⟩
        · have t2 : ((c.length : Int) == 2) = false := by simp; omega
          have hy : Hid (vy = vc) := Lib.hid (HYR.out.trans ((if_neg h50).trans (if_neg (fun h => h2 h.1))))
          clear HYR h50
          go_wp2_with fail
          go_meet
          rw [hy.out]
          exact ⟨hD, hR, B3⟩
    case rest =>
    obtain ⟨hE, hR2, B4⟩ := hcut
    clear hD hR B3 d0 hfz q2 HYR k1 k2 hcb hc
    have hSz := B4.size
    have hEl := hE.lt
    have HSP : Hid (∀ W, Calls Tryz.prog 63 #[.string ⟨d.toArray⟩, .int .u8 58] W (RetOs W (splitL 58 d))) := Lib.hid (fun W => by have := split4_any ⟨d.toArray⟩ 58 W (by rw [size_of]; omega); rw [bl_of] at this; exact this)
    have HPL : Hid (∀ p ∈ splitL 58 d, p.length ≤ 100000) := Lib.hid (fun p hp => by have := split_lens 58 d p hp; omega)
    generalize splitL 58 d = P at *
    have q3 := rs_cell hR2 (k := 3) rfl
    go_wp2_with fail
    (with_reducible refine (HSP.out _).mono ?_)
    rintro e w5 ⟨A5, nt, ct, rfl, hO5, hb5⟩
    have B5 := bel_step B4 hb5
    have hE5 := hE.below hb5 hEl
    have hR5 := hR2.below (hb5.mono (show Bq ≤ wc.heap.size by omega))
    obtain ⟨Bt, hBt, hgdBt⟩ : ∃ Bt, Bt ≤ wc.heap.size ∧ gd < Bt := ⟨_, Nat.le_refl _, hEl⟩
    have hO5 : Os w5 Bt A5 nt ct P := own_mono hO5 hBt
    have hnt := hO5.ss.len
    clear hE hR2 B4 q3 HSP hb5
    by_cases hn23 : nt = 2 ∨ nt = 3
    case neg =>
      have HV : Hid (res = none) := Lib.hid (HM3.out.trans (if_pos (.inl (by omega))))
      have t2 : ((nt : Int) != 2) = true := by simp; omega
      have t3 : ((nt : Int) != 3) = true := by simp; omega
      go_wp2_with fail
      go_ret2
      rw [HV.out]
      exact ⟨rfl, B5⟩
    go_upto_region 14 with fail
    go_cut [101] (fun v wx => v = .bool false ∧ wx = w5)
    case first =>
      rcases hn23 with h2 | h3
      · have t2 : ((nt : Int) != 2) = false := by simp; omega
        go_wp2_with fail
        go_meet
        exact ⟨rfl, rfl⟩
      · have t2 : ((nt : Int) != 2) = true := by simp; omega
        have t3 : ((nt : Int) != 3) = false := by simp; omega
        go_wp2_with fail
        go_meet
        exact ⟨rfl, rfl⟩
    case rest =>
    obtain ⟨rfl, hwc⟩ := hcut
    rw [hwc] at *
    clear hwc
    go_wp2_with fail
    go_loop [7] (fun i => ∃ k : Nat, i = .int .i64 (k : Int) ∧ k ≤ nt ∧ Hid (∀ p ∈ P.take k, p.length = 2)) (fun i => nt - (intOf i).toNat)
    case atStart => exact ⟨0, rfl, by omega, Lib.hid (by simp)⟩
    case round =>
      obtain ⟨k, rfl, hk, HP⟩ := hrel
      by_cases hlt : k < nt
      · obtain ⟨x, xb, xo, rfl, hx, _, hxc⟩ := Ss.at hO5.ss hlt
        have hxl := HPL.out x (List.mem_of_getElem? hx.out)
        by_cases h2 : x.length = 2
        · have HN : Hid (∀ p ∈ P.take (k + 1), p.length = 2) := Lib.hid (by
            intro z hz
            rw [List.take_add_one, hx.out] at hz
            rcases List.mem_append.1 hz with hz | hz
            · exact HP.out z hz
            · simp at hz
              rw [hz]
              exact h2)
          have t2 : ((x.length : Int) != 2) = false := by simp; omega
          clear hx HP
          go_wp2_with fail
          go_round
          case rel => exact ⟨k + 1, by go_num, by omega, HN⟩
          case measure => simp [intOf]; omega
        · have HV : Hid (res = none) := Lib.hid (HM3.out.trans (if_pos (.inr ⟨x, List.mem_of_getElem? hx.out, h2⟩)))
          have t2 : ((x.length : Int) != 2) = true := by simp; omega
          clear hx HP
          go_wp2_with fail
          go_ret2
          rw [HV.out]
          exact ⟨rfl, B5⟩
      · obtain rfl : k = nt := by omega
        have hall := HP.out
        rw [List.take_of_length_le (by omega)] at hall
        have HM4 := Lib.hid (HM3.out.trans (if_neg (by
          rintro (h | ⟨p, hp, h⟩)
          · omega
          · exact h (hall p hp))))
        clear HM3 HP hall
        obtain ⟨g5, rfl, hg5, hg5b, hg5f⟩ := own_where hO5 (by omega)
        have hnegd : ∀ j, (Value.slice (some ⟨g5, 0, none⟩) k ct).ownBlock = some j → some j ≠ some gd := by
          intro j hj e
          injection e with e
          have := (World.ownsRow.lt hO5 j hj).1
          omega
        obtain ⟨p, q, rr, hPq⟩ : ∃ p q rr, P = p :: q :: rr := by
          match P, hnt with
          | [], h => exfalso; simp at h; omega
          | [_], h => exfalso; simp at h; omega
          | p :: q :: rr, _ => exact ⟨p, q, rr, rfl⟩
        have hp0 : P[0]? = some p := by rw [hPq]; rfl
        have hp1 : P[1]? = some q := by rw [hPq]; rfl
        have hd0 : P.getD 0 [] = p := by rw [hPq]; rfl
        have hd1 : P.getD 1 [] = q := by rw [hPq]; rfl
        rw [hd0, hd1] at HM4
        have lp := HPL.out p (List.mem_of_getElem? hp0)
        have lq := HPL.out q (List.mem_of_getElem? hp1)
        have HP0 := Lib.hid hp0
        have HP1 := Lib.hid hp1
        clear hPq hp0 hp1 hd0 hd1
        have HNp := Lib.hid (fun W => num4_any ⟨p.toArray⟩ W (by rw [size_of]; omega))
        have HNq := Lib.hid (fun W => num4_any ⟨q.toArray⟩ W (by rw [size_of]; omega))
        rw [bl_of] at HNp HNq
        generalize numR p = vp at *
        generalize numR q = vq at *
        have hk2 : (2 : Int) ≤ (k : Int) := by omega
        have hk2n : 1 < k := by omega
        have hk1 : (1 : Int) < (k : Int) := by omega
        have hk0 : (0 : Int) < (k : Int) := by omega
        have hk0n : 0 < k := by omega
        go_upto_region 21 with fail
        go_cut [] (fun wx => Blk wx gd 93 #[.int .i64 vy, .int .i64 (1 + ib), .int .i64 va, .int .i64 vp, .int .i64 vq, .int .i64 0] ∧ Reads wx Bq 1 (some ⟨g, off, none⟩) 5 (sv [a, b, c, d, e_]) ∧ Os wx Bt (some ⟨g5, 0, none⟩) k ct P ∧ Below w.heap.size w wx)
        case first =>
          refine wp_region_ordR (Onl gd) (Onl.refl gd) (Onl.trans) (by kernel_rfl) (.take 0 (.take 1 (.take 2 (.take 3 (.take 4 (.take 5 (.take 6 (.take 7 (.take 8 (.exec 9 (.take 10 (.exec 11 (.nil))))))))))))) (by kernel_rfl) (by kernel_rfl) (by kernel_rfl) ?_
          obtain ⟨w6, hw6⟩ : ∃ w6, w6 = w5.drew := ⟨_, rfl⟩
          have B6 : Below w.heap.size w w6 := by rw [hw6]; exact B5.drew
          have hE6 : Blk w6 gd 93 #[.int .i64 vy, .int .i64 (1 + ib), .int .i64 va, .int .i64 0, .int .i64 0, .int .i64 0] := by rw [hw6]; exact hE5
          have hR6 : Reads w6 Bq 1 (some ⟨g, off, none⟩) 5 (sv [a, b, c, d, e_]) := by rw [hw6]; exact hR5
          have hO6 : Os w6 Bt (some ⟨g5, 0, none⟩) k ct P := own_below hO5 (by rw [hw6]; exact (Below.refl _ _).drew)
          have c0 := fun W (hW : Onl gd w6 W) => (show W.cell? ⟨g5, 0, none⟩ = some (.string ⟨p.toArray⟩) from Ss.cell (k := 0) (own_only hO6 hW hnegd |> Os.ss) HP0.out)
          have c1 := fun W (hW : Onl gd w6 W) => (show W.cell? ⟨g5, 1, none⟩ = some (.string ⟨q.toArray⟩) from Ss.cell (k := 1) (own_only hO6 hW hnegd |> Os.ss) HP1.out)
          rw [← hw6]
          clear hw6
          iterate 3 (refine wpOrd_take (o := ⟨_, _, _, _, _, _⟩) (v := ?_) rfl rfl ?_ ?_; rotate_left; (focus (intro W hW; go_simp; first | done | with_reducible rfl)); simp only [Act.put, List.setIfInBounds_toArray, List.set_cons_zero, List.set_cons_succ])
          (refine wpOrd_call (o := ⟨_, _, _, _, _, _⟩) rfl rfl (fun W hW => HNp.out W) ?_ ?_; (focus (intro W hW; go_simp; first | done | with_reducible rfl)); simp only [Act.put, List.setIfInBounds_toArray, List.set_cons_zero, List.set_cons_succ])
          iterate 3 (refine wpOrd_take (o := ⟨_, _, _, _, _, _⟩) (v := ?_) rfl rfl ?_ ?_; rotate_left; (focus (intro W hW; go_simp; first | done | with_reducible rfl)); simp only [Act.put, List.setIfInBounds_toArray, List.set_cons_zero, List.set_cons_succ])
          (refine wpOrd_call (o := ⟨_, _, _, _, _, _⟩) rfl rfl (fun W hW => HNq.out W) ?_ ?_; (focus (intro W hW; go_simp; first | done | with_reducible rfl)); simp only [Act.put, List.setIfInBounds_toArray, List.set_cons_zero, List.set_cons_succ])
          iterate 1 (refine wpOrd_take (o := ⟨_, _, _, _, _, _⟩) (v := ?_) rfl rfl ?_ ?_; rotate_left; (focus (intro W hW; go_simp; first | done | with_reducible rfl)); simp only [Act.put, List.setIfInBounds_toArray, List.set_cons_zero, List.set_cons_succ])
          clear c0 c1
          have d3 := hE6.cell 3
          have d4 := hE6.cell 4
          simp at d3 d4
          have hfz := hE6.frozen
          refine wpOrd_exec (o := ⟨_, _, _, _, _, _⟩) rfl rfl (fun K hK => ?_)
          go_simp
          refine hK _ _ (only_setCell (World.grownBy.refl _ _) (.inl rfl) _) ?_
          clear hK K
          have hE7 := hE6.set_ 3 (.int .i64 vp)
          have hR7 := hR6.setCell (p := ⟨gd, 3, none⟩) hqd (.int .i64 vp)
          have hO7 := own_only hO6 (only_setCell (World.grownBy.refl w6 (some gd)) (p := ⟨gd, 3, none⟩) (.inl rfl) (.int .i64 vp)) hnegd
          have B7 := B6.setCell (p := ⟨gd, 3, none⟩) hgd (.int .i64 vp)
          generalize w6.setCell ⟨gd, 3, none⟩ (.int .i64 vp) = w7 at *
          clear d3 d4 hfz hE6 hR6 hO6 B6
          have d4 := hE7.cell 4
          simp at d4
          have hfz := hE7.frozen
          iterate 1 (refine wpOrd_take (o := ⟨_, _, _, _, _, _⟩) (v := ?_) rfl rfl ?_ ?_; rotate_left; (focus (intro W hW; go_simp; first | done | with_reducible rfl)); simp only [Act.put, List.setIfInBounds_toArray, List.set_cons_zero, List.set_cons_succ])
          refine wpOrd_exec (o := ⟨_, _, _, _, _, _⟩) rfl rfl (fun K hK => ?_)
          go_simp
          refine hK _ _ (only_setCell (World.grownBy.refl _ _) (.inl rfl) _) ?_
          clear hK K
          refine wpOrd_nil ?_
          go_wp2_with fail
          go_meet
          exact ⟨hE7.set_ 4 (.int .i64 vq), hR7.setCell (p := ⟨gd, 4, none⟩) hqd _, own_only hO7 (only_setCell (World.grownBy.refl w7 (some gd)) (p := ⟨gd, 4, none⟩) (.inl rfl) (.int .i64 vq)) hnegd, B7.setCell (p := ⟨gd, 4, none⟩) hgd _⟩
        case rest =>
        obtain ⟨hE8, hR8, hO8, B8⟩ := hcut
        clear hE5 hR5 hO5 B5 HNp HNq
        go_upto_if 126 with fail
        go_cut [] (fun wx => Blk wx gd 93 #[.int .i64 vy, .int .i64 (1 + ib), .int .i64 va, .int .i64 vp, .int .i64 vq, .int .i64 (secR P)] ∧ Reads wx Bq 1 (some ⟨g, off, none⟩) 5 (sv [a, b, c, d, e_]) ∧ Below w.heap.size w wx)
        case first =>
          rcases hn23 with rfl | rfl
          · have HSC : Hid (secR P = 0) := Lib.hid (by unfold secR; rw [if_neg (by omega)])
            go_wp2_with fail
            go_meet
            rw [HSC.out]
            exact ⟨hE8, hR8, B8⟩
          · obtain ⟨x, xb, xo, ex, hx, _, hxc⟩ := Ss.at hO8.ss (show 2 < 3 by omega)
            injection ex with ex
            injection ex with ex1 ex2
            subst ex1 ex2
            rw [Nat.zero_add] at hxc
            have HSC : Hid (secR P = numR x) := Lib.hid (by
              unfold secR
              rw [if_pos hnt]
              have hx2 := hx.out
              rw [List.getD_eq_getElem?_getD, hx2]
              rfl)
            have lx := HPL.out x (List.mem_of_getElem? hx.out)
            have HNx := Lib.hid (fun W => num4_any ⟨x.toArray⟩ W (by rw [size_of]; omega))
            rw [bl_of] at HNx
            have d5 := hE8.cell 5
            simp at d5
            have hfz := hE8.frozen
            have hE9 := hE8.set_ 5 (.int .i64 (numR x))
            generalize numR x = vx at *
            clear hx hnt
            go_wp2_with fail
            (with_reducible refine (HNx.out _).mono ?_)
            rintro e w9 ⟨rfl, rfl⟩
            go_wp2_with fail
            go_meet
            rw [HSC.out]
            exact ⟨hE9, hR8.setCell (p := ⟨gd, 5, none⟩) hqd _, B8.setCell (p := ⟨gd, 5, none⟩) hgd _⟩
        case rest =>
        obtain ⟨hE9, hR9, B9⟩ := hcut
        clear hE8 hR8 hO8 B8
        have hs9 := B9.size
        have hEl9 := hE9.lt
        have q4 := rs_cell hR9 (k := 4) rfl
        have HNM := Lib.hid (fun W => named4_any ⟨e_.toArray⟩ W (by rw [size_of]; omega))
        rw [bl_of] at HNM
        have hzb := fun z => zoneM_bd (l := e_) (z := z)
        have HT := Lib.hid (fun z W => told4_any ⟨vy, 1 + ib, va, vp, vq, secR P⟩ z W)
        simp only [Dt.val, Dt.cells, znV] at HT
        generalize secR P = vs at *
        generalize zoneM e_ = zz at *
        cases zz with
        | none =>
          have HV : Hid (res = none) := HM4
          simp only [znV, Option.getD_none, Option.isSome_none] at HNM
          clear HM4 hzb HT
          go_wp2_with fail
          (with_reducible refine (HNM.out _).mono ?_)
          rintro e wa ⟨rfl, hba⟩
          have Ba := bel_step B9 hba
          go_wp2_with fail
          go_ret2
          rw [HV.out]
          exact ⟨rfl, Ba⟩
        | some z =>
          have hz := hzb z rfl
          have HV : Hid (res = toldR ⟨vy, 1 + ib, va, vp, vq, vs⟩ z) := HM4
          simp only [znV, Option.getD_some, Option.isSome_some] at HNM
          clear HM4 hzb
          go_wp2_with fail
          (with_reducible refine (HNM.out _).mono ?_)
          rintro e wa ⟨rfl, hba⟩
          have Ba := bel_step B9 hba
          have hEa := hE9.below hba hEl9
          have e0 := Blk.cell hEa 0
          have e1 := Blk.cell hEa 1
          have e2 := Blk.cell hEa 2
          have e3 := Blk.cell hEa 3
          have e4 := Blk.cell hEa 4
          have e5 := Blk.cell hEa 5
          simp at e0 e1 e2 e3 e4 e5
          go_wp2_with fail
          (with_reducible refine (HT.out z _ hz.1 hz.2).mono ?_)
          rintro e wb ⟨rfl, hbb⟩
          have Bb := bel_step Ba hbb
          clear e0 e1 e2 e3 e4 e5
          go_wp2_with fail
          go_ret2
          rw [HV.out]
          exact ⟨rfl, Bb⟩
def any4R (l : List UInt8) : Option Int := match webR l with
  | some n => some n
  | none => mailR l
theorem any_same (l : List UInt8) : anyC l = any4R l := by
  unfold anyC any4R
  rw [web_same, mail_same]
  rfl
set_option maxHeartbeats 4000000 in
theorem refAny4_any (S : ByteArray) (w : World) (hS : S.size ≤ 100000)
    (HW : ∀ W, Calls Tryz.prog 44 #[.string S] W fun e w' => e = .returned (znV (webR (bl S))) ∧ Below W.heap.size W w') :
    Calls Tryz.prog 34 #[.string S] w fun e w' => e = .returned (znV (any4R (bl S))) ∧ Below w.heap.size w w' := by
  have HM := Lib.hid (fun W => mail4_any S W hS)
  have HW := Lib.hid HW
  have HV : Hid (any4R (bl S) = match webR (bl S) with
    | some n => some n
    | none => mailR (bl S)) := rfl
  generalize webR (bl S) = a at *
  generalize mailR (bl S) = b at *
  generalize any4R (bl S) = res at *
  cases a with
  | some n =>
    have HV : Hid (res = some n) := HV
    simp only [znV, Option.getD_some, Option.isSome_some] at HW
    go_enter Tryz.func34, Tryz.ntmps34
    go_wp2_with fail
    (with_reducible refine (HW.out _).mono ?_)
    rintro e w1 ⟨rfl, hb1⟩
    go_wp2_with fail
    go_ret2
    rw [HV.out]
    exact ⟨rfl, hb1⟩
  | none =>
    have HV : Hid (res = b) := HV
    simp only [znV, Option.getD_none, Option.isSome_none] at HW
    simp only [znV] at HM
    go_enter Tryz.func34, Tryz.ntmps34
    go_wp2_with fail
    (with_reducible refine (HW.out _).mono ?_)
    rintro e w1 ⟨rfl, hb1⟩
    go_wp2_with fail
    (with_reducible refine (HM.out _).mono ?_)
    rintro e w2 ⟨rfl, hb2⟩
    go_wp2_with fail
    go_ret2
    rw [HV.out]
    exact ⟨rfl, bel_step hb1 hb2⟩
end Go.Proofs.YtlmmiaghbommcaaGreatDoor
