/-
  The document's Tokens.
-/
import Derived.Test.YtjmmgekildlckaaXmY
namespace Go.Proofs.Ytjmmgekildlckaa
open Go.RowKit Go.Nst
set_option maxRecDepth 100000
set_option linter.unusedVariables false
set_option linter.unusedSimpArgs false

/-- what holds at each round: the row of tokens -/
def RkF (w wr : World) (A : Option Addr) (n c : Nat) (L : List Xtk) : Prop := XtO wr w.heap.size (fun b => w.heap.size ≤ b) A n c L ∧ Below w.heap.size w wr
theorem RkF.bel {w wr w1 : World} {A : Option Addr} {n c : Nat} {L : List Xtk} (h : RkF w wr A n c L) (hb : Below wr.heap.size wr w1) : RkF w w1 A n c L := ⟨h.1.bel xtP hb, bel_step h.2 hb⟩
theorem RkF.part {w wr w1 : World} {A : Option Addr} {n c : Nat} {L : List Xtk} {ts : List Xtk} {At : Option Addr} {m : Nat} (h : RkF w wr A n c L) (hb : Below wr.heap.size wr w1) (hA : XtA w1 (fun b => wr.heap.size ≤ b) At m ts) :
    RkF w w1 A n c L ∧ TkP w1 w.heap.size (Value.slice A n c).ownBlock At m ts := by
  have hlt := h.1.lt
  have hz := h.2.size
  exact ⟨h.bel hb, hA.wide xtP (fun b hb _ => ⟨by omega, fun e => by have := hlt b e.symm; omega⟩)⟩
theorem RkF.add {w wr w1 : World} {A A' : Option Addr} {n c n' c' : Nat} {L L' : List Xtk} {At : Option Addr} {m : Nat} {ts : List Xtk} (h : RkF w wr A n c L) (hp : TkP wr w.heap.size (Value.slice A n c).ownBlock At m ts)
    (hO : XtO w1 w.heap.size (fun b => w.heap.size ≤ b) A' n' c' L') (hB : Below w.heap.size wr w1) (hg : wr.grownBy w1 (Value.slice A n c).ownBlock) (hown : ∀ b, some b = (Value.slice A' n' c').ownBlock → some b = (Value.slice A n c).ownBlock ∨ wr.heap.size ≤ b) :
    RkF w w1 A' n' c' L' ∧ TkP w1 w.heap.size (Value.slice A' n' c').ownBlock At m ts := by
  refine ⟨⟨hO, h.2.trans hB⟩, RwA.keep xtP (fun b hb hlt => hg.block b hlt hb.2) hg.size (fun b hb hlt => ⟨hb.1, fun e => ?_⟩) hp⟩
  rcases hown b e with e2 | e2
  · exact hb.2 e2
  · omega
/-- a text behind a text -/
theorem RkF.more {w wr : World} {g c j : Nat} {L : List Xtk} {x t : Xtk} {At : Option Addr} {m : Nat} {ts : List Xtk} (h : RkF w wr (some ⟨g, 0, none⟩) (j + 1) c L) (hp : TkP wr w.heap.size (Value.slice (some ⟨g, 0, none⟩) (j + 1) c).ownBlock At m ts)
    (h3 : t.kd = 3) (h4 : t.tx ≠ []) (hu : L[j]? = some x) (hk : x.kd = 3) (hg : w.heap.size ≤ g) (hl : x.tx.length ≤ 1000000000000) (hl2 : t.tx.length ≤ 1000000) :
    RkF w ((wr.setCell ⟨g, j * 4 + 3, none⟩ (.string ((⟨x.tx.toArray⟩ : ByteArray) ++ ⟨t.tx.toArray⟩))).drew) (some ⟨g, 0, none⟩) (j + 1) c (addT L t) ∧ TkP ((wr.setCell ⟨g, j * 4 + 3, none⟩ (.string ((⟨x.tx.toArray⟩ : ByteArray) ++ ⟨t.tx.toArray⟩))).drew) w.heap.size (Value.slice (some ⟨g, 0, none⟩) (j + 1) c).ownBlock At m ts := by
  have hcat : (⟨x.tx.toArray⟩ : ByteArray) ++ ⟨t.tx.toArray⟩ = ⟨(x.tx ++ t.tx).toArray⟩ := by
    apply ByteArray.ext
    simp
  rw [hcat, addT_set h3 h4 h.1.len hu hk]
  have hg1 : wr.grownBy (wr.setCell ⟨g, j * 4 + 3, none⟩ (.string ⟨(x.tx ++ t.tx).toArray⟩)) (some g) := only_setCell (World.grownBy.refl _ _) (.inl rfl) _
  have hD := (Below.refl (wr.setCell ⟨g, j * 4 + 3, none⟩ (.string ⟨(x.tx ++ t.tx).toArray⟩)).heap.size (wr.setCell ⟨g, j * 4 + 3, none⟩ (.string ⟨(x.tx ++ t.tx).toArray⟩))).drew
  refine h.add hp ((h.1.put xtP rfl (by omega) (by omega) _ _ (fun w2 v y hy hP => ?_)).bel xtP hD) ((below_only (Below.refl _ _) hg1 hg h.2.size).trans (hD.mono (Nat.le_trans h.2.size hg1.size))) (grown_two hg1 (only_of_below hD _)) (fun b h => .inl h)
  rw [hu] at hy
  injection hy with hy
  subst hy
  exact xtP_set hP (by rw [List.length_append]; omega)
set_option maxHeartbeats 8000000 in
theorem refTokens8_any (s : List UInt8) (w : World) (hs : s.length ≤ 1000000) :
    Calls Try.prog 18 #[.string ⟨s.toArray⟩] w (RetTok w (tokD s)) := by
  by_cases hlong : 65536 < s.length
  · have hd : decide ((65536 : Int) < (s.length : Int)) = true := by simp; omega
    have hv : tokD s = ([], 0, 3) := by unfold tokD; rw [if_pos hlong]
    rw [hv]
    clear hv
    go_enter Try.func18, Try.ntmps18
    go_wp2_with fail
    go_ret3
    exact ⟨none, 0, 0, rfl, RwA.nil _, Nat.le_refl _, by omega, Below.refl _ _⟩
  · have hd : decide ((65536 : Int) < (s.length : Int)) = false := by simp; omega
    have HT : Hid (tokD s = tokF s.length s.length [] s) := Lib.hid (by unfold tokD; rw [if_neg hlong])
    generalize tokD s = tot at *
    have F0 : Hid (RkF w w none 0 0 []) := Lib.hid ⟨RwO.nil, Below.refl _ _⟩
    go_enter Try.func18, Try.ntmps18
    go_wp2_with fail
    go_loopw [5, 6] (fun v q wr => ∃ (A : Option Addr) (n c : Nat) (L : List Xtk) (l : List UInt8) (f : Nat), v = .slice A n c ∧ q = .string ⟨l.toArray⟩ ∧ Hid (RkF w wr A n c L) ∧ n ≤ 8192 ∧ l.length ≤ s.length ∧ Hid (txB (2000000 * (s.length - l.length)) L) ∧ Hid (l.length ≤ f ∧ tot = tokF s.length f L l)) (fun _ q _ => strL (some q))
    case atStart => exact ⟨none, 0, 0, [], s, s.length, rfl, rfl, F0, by omega, by omega, Lib.hid (fun u hu => by cases hu), Lib.hid ⟨Nat.le_refl _, HT.out⟩⟩
    case round =>
      obtain ⟨A, n, c, L, l, f, rfl, rfl, HF, hn8, hls, HX, HV⟩ := hrel
      clear HT F0
      have hcap := HF.out.1.cap
      have hc1 := hcap.1
      have hc2 := hcap.2
      clear hcap
      by_cases hdl : 0 < l.length
      · have hd0 : decide ((0 : Int) < (l.length : Int)) = true := by simp; omega
        have hd0' : decide (0 < l.length) = true := by simpa using hdl
        have HP := Lib.hid (refPart8_any l wr (by omega) hdl)
        have HLN := Lib.hid HF.out.1.len
        cases hp : partD l with
        | none =>
          have HV3 : Hid (tot = ([], (s.length : Int) - (l.length : Int), 80)) := Lib.hid (HV.out.2.trans (tokF_none hdl HV.out.1 hp))
          rw [hp] at HP
          clear hp HV
          go_wp2_with fail
          (with_reducible refine (HP.out).mono ?_)
          rintro e w1 ⟨hb, At, m, ct, x, rfl⟩
          go_wp2_with fail
          go_ret3
          rw [HV3.out]
          exact ⟨none, 0, 0, rfl, RwA.nil _, Nat.le_refl _, by omega, bel_step HF.out.2 hb⟩
        | some tb =>
          obtain ⟨ts, l2⟩ := tb
          have hlen := part_len hdl hp
          have htx := partD_tx (by omega) hp
          have HV2 := Lib.hid (HV.out.2.trans (tokF_some hdl HV.out.1 hp))
          have HVf := Lib.hid HV.out.1
          have HTX := Lib.hid htx.2
          have hl2 : l2.length < l.length := hlen.2
          have hts : ts.length ≤ 2 := htx.1
          rw [hp] at HP
          clear hp HV hlen htx
          go_wp2_with fail
          (with_reducible refine (HP.out).mono ?_)
          rintro e w1 ⟨hb, At, m, ct, rfl, hA, hmct, hct⟩
          have hm := hA.len
          obtain ⟨F1, P1⟩ := HF.out.part hb hA
          have HF1 := Lib.hid F1
          have HP1 := Lib.hid P1
          have HM := Lib.hid hm
          have hm2 : m ≤ 2 := by omega
          clear hb hA F1 P1 hm HP HF hts
          go_wp2_with fail
          obtain ⟨wo, rfl⟩ : ∃ wo : World, wo = wr := ⟨_, rfl⟩
          go_loopw [5, 11] (fun v i wv => ∃ (k : Nat) (A' : Option Addr) (n' c' : Nat), k ≤ m ∧ i = .int .i64 (k : Int) ∧ v = .slice A' n' c' ∧ Hid (RkF w wv A' n' c' ((ts.take k).foldl addT L)) ∧ Hid (TkP wv w.heap.size (Value.slice A' n' c').ownBlock At m ts)) (fun _ i _ => m - (intOf i).toNat)
          case atStart => exact ⟨0, A, n, c, Nat.zero_le _, rfl, rfl, HF1, HP1⟩
          case round =>
            obtain ⟨k, A', n', c', hkm, rfl, rfl, HF2, HP2⟩ := hrel
            clear HF1 HP1
            have hcap2 := HF2.out.1.cap
            have hc1' := hcap2.1
            have hc2' := hcap2.2
            have hLn := HF2.out.1.len
            have hLn0 := adds_len (ts.take k) L
            have hLnn : L.length ≤ 8192 := by have := HLN.out; omega
            have hn' : n' ≤ 8194 := by rw [List.length_take] at hLn0; omega
            have HLN2 := Lib.hid hLn
            clear hcap2 hLn hLn0 hLnn
            by_cases hlt : k < m
            · have hltb : decide (k < m) = true := by simpa using hlt
              have hltI : (k : Int) < (m : Int) := by omega
              obtain ⟨t, B, dd, b, off, hg, rfl, hS, hblt, hP, hkd, hnm, htx1, hat, hdd, -, y0, y1, y2, y3⟩ := xt_at HP2.out hlt
              have hmem := List.mem_of_getElem? hg.out
              have HNX : Hid ((ts.take (k + 1)).foldl addT L = addT ((ts.take k).foldl addT L) t) := Lib.hid (by rw [List.take_add_one, hg.out, List.foldl_append]; rfl)
              have hb12 : ∀ u ∈ (ts.take k).foldl addT L, u.tx.length ≤ 1000000000000 := fun u hu => by
                have h1 := txB.adds (ts := ts.take k) HX.out (fun t ht => HTX.out t (List.mem_of_mem_take ht)) u hu
                rw [List.length_take] at h1
                omega
              have htl := HTX.out t hmem
              have HB12 := Lib.hid hb12
              clear hmem hb12
              by_cases h3 : t.kd = 3
              · have hk2 : (t.kd == 3) = true := by simp [h3]
                by_cases h4 : t.tx = []
                · have e : addT ((ts.take k).foldl addT L) t = (ts.take k).foldl addT L := by unfold addT; rw [if_pos h3, if_pos h4]
                  rw [e] at HNX
                  rw [h4] at y3
                  clear e h3 h4
                  go_wp2_with fail
                  go_roundw
                  case rel => exact ⟨k + 1, A', n', c', by omega, by go_num, rfl, by rw [HNX.out]; exact HF2, HP2⟩
                  case measure => simp [intOf]; omega
                · have hx1 : ((⟨t.tx.toArray⟩ : ByteArray) == ⟨#[]⟩) = false := by
                    cases htx : t.tx with
                    | nil => exact absurd htx h4
                    | cons a b => rfl
                  have hx2 : t.tx.isEmpty = false := by simpa using h4
                  cases n' with
                  | zero =>
                    have hL0 : (ts.take k).foldl addT L = [] := List.eq_nil_of_length_eq_zero HLN2.out
                    have HE := Lib.hid (addT_app (L := (ts.take k).foldl addT L) (t := t) (.inr ⟨h4, by rw [hL0]; simp⟩))
                    have H34 := Lib.hid (And.intro h3 h4)
                    clear h3 h4 hL0
                    have D1 := bel_alloc (Below.refl wr.heap.size wr) (.cells (xtV t B t.ats.length dd) 68)
                    have ho := HF2.out.1.bel xtP D1
                    have hr : XtR (wr.alloc (.cells (xtV t B t.ats.length dd) 68)) (fun b => w.heap.size ≤ b ∧ some b ≠ (Value.slice A' 0 c').ownBlock) (some ⟨wr.heap.size, 0, none⟩) 1 [t] := RwR.blk1 (Blk.new wr 68 (xtV t B t.ats.length dd)) (xtP.bel hP.out D1)
                    have hzw := HF2.out.2.size
                    have hba : w.heap.size ≤ (wr.alloc (.cells (xtV t B t.ats.length dd) 68)).heap.size := by simp; omega
                    have HD1 := Lib.hid D1
                    have HZ1 : Hid ((wr.alloc (.cells (xtV t B t.ats.length dd) 68)).heap.size = wr.heap.size + 1) := Lib.hid (by simp)
                    clear D1
                    simp only [xtV] at ho hr hba HD1 HZ1
                    go_wp2_with (at_builtin; go_loud (refine wpList_appY xtP iXts rfl rfl rfl ho rfl hr (by omega) (by omega) hba ?_; intro A'' c'' w7 ho7 hb7 hgr7 hk7))
                    obtain ⟨F7, P7⟩ := HF2.out.add HP2.out ho7 ((HD1.out.mono hzw).trans hb7) (grown_two (only_of_below HD1.out _) hgr7) (fun b hb' => by
                      rcases hk7 with h | h
                      · rw [h] at hb'; exact .inl hb'
                      · right
                        rw [h] at hb'
                        injection hb' with hb'
                        have := HZ1.out
                        omega)
                    have HF7 := Lib.hid F7
                    have HP7 := Lib.hid P7
                    clear F7 P7
                    go_roundw
                    case rel => exact ⟨k + 1, A'', 0 + 1, c'', by omega, by go_num, rfl, by rw [HNX.out, HE.out]; exact HF7, HP7⟩
                    case measure => simp [intOf]; omega
                  | succ j =>
                    obtain ⟨x, v, g, hxx, rfl, hgb, hgl, hfz, h6, h7⟩ := HF2.out.1.get (show j < j + 1 by omega)
                    obtain ⟨B', d', rfl, _⟩ := h6
                    have z0 : wr.cell? ⟨g, j * 4, none⟩ = some (.int .i64 x.kd) := h7 0 _ rfl
                    have z3 : wr.cell? ⟨g, j * 4 + 3, none⟩ = some (.string ⟨x.tx.toArray⟩) := h7 3 _ rfl
                    have hf0 := hfz (j * 4 + 3)
                    have hjp : decide ((0 : Int) < ((j + 1 : Nat) : Int)) = true := by rw [decide_eq_true_eq]; omega
                    have hxl := HB12.out x (List.mem_of_getElem? hxx)
                    by_cases hk : x.kd = 3
                    · rw [hk] at z0
                      obtain ⟨F5, P5⟩ := HF2.out.more HP2.out h3 h4 hxx hk hgb hxl htl
                      have HF5 := Lib.hid F5
                      have HP5 := Lib.hid P5
                      rw [h3] at y0
                      have H34 := Lib.hid (And.intro h3 h4)
                      clear h3 h4 hk h7 hfz HF2 HP2 F5 P5 hP hxx hk2
                      go_wp2_with fail
                      go_region
                      go_wp2_with fail
                      go_roundw
                      case rel => exact ⟨k + 1, _, j + 1, c', by omega, by go_num, rfl, by rw [HNX.out]; exact HF5, HP5⟩
                      case measure => simp [intOf]; omega
                    · have hkk : (x.kd == 3) = false := by simpa using hk
                      have HE := Lib.hid (addT_app (L := (ts.take k).foldl addT L) (t := t) (.inr ⟨h4, fun u hu => by
                        rw [List.getLast?_eq_getElem?, HLN2.out, Nat.add_sub_cancel, hxx] at hu
                        injection hu with hu
                        exact hu ▸ hk⟩))
                      have H34 := Lib.hid (And.intro h3 (And.intro h4 (And.intro hk hxx)))
                      clear h3 h4 hk h7 hfz hxx
                      have D1 := bel_alloc (Below.refl wr.heap.size wr) (.cells (xtV t B t.ats.length dd) 68)
                      have ho := HF2.out.1.bel xtP D1
                      have hr : XtR (wr.alloc (.cells (xtV t B t.ats.length dd) 68)) (fun b => w.heap.size ≤ b ∧ some b ≠ (Value.slice (some ⟨g, 0, none⟩) (j + 1) c').ownBlock) (some ⟨wr.heap.size, 0, none⟩) 1 [t] := RwR.blk1 (Blk.new wr 68 (xtV t B t.ats.length dd)) (xtP.bel hP.out D1)
                      have hzw := HF2.out.2.size
                      have hba : w.heap.size ≤ (wr.alloc (.cells (xtV t B t.ats.length dd) 68)).heap.size := by simp; omega
                      have HD1 := Lib.hid D1
                      have HZ1 : Hid ((wr.alloc (.cells (xtV t B t.ats.length dd) 68)).heap.size = wr.heap.size + 1) := Lib.hid (by simp)
                      clear D1
                      simp only [xtV] at ho hr hba HD1 HZ1
                      go_wp2_with (at_builtin; go_loud (refine wpList_appY xtP iXts rfl rfl rfl ho rfl hr (by omega) (by omega) hba ?_; intro A'' c'' w7 ho7 hb7 hgr7 hk7))
                      obtain ⟨F7, P7⟩ := HF2.out.add HP2.out ho7 ((HD1.out.mono hzw).trans hb7) (grown_two (only_of_below HD1.out _) hgr7) (fun b hb' => by
                        rcases hk7 with h | h
                        · rw [h] at hb'; exact .inl hb'
                        · right
                          rw [h] at hb'
                          injection hb' with hb'
                          have := HZ1.out
                          omega)
                      have HF7 := Lib.hid F7
                      have HP7 := Lib.hid P7
                      clear F7 P7
                      go_roundw
                      case rel => exact ⟨k + 1, A'', (j + 1) + 1, c'', by omega, by go_num, rfl, by rw [HNX.out, HE.out]; exact HF7, HP7⟩
                      case measure => simp [intOf]; omega
              · have hk2 : (t.kd == 3) = false := by simpa using h3
                have HE := Lib.hid (addT_app (L := (ts.take k).foldl addT L) (t := t) (.inl h3))
                have H34 := Lib.hid h3
                clear h3
                have D1 := bel_alloc (Below.refl wr.heap.size wr) (.cells (xtV t B t.ats.length dd) 68)
                have ho := HF2.out.1.bel xtP D1
                have hr : XtR (wr.alloc (.cells (xtV t B t.ats.length dd) 68)) (fun b => w.heap.size ≤ b ∧ some b ≠ (Value.slice A' n' c').ownBlock) (some ⟨wr.heap.size, 0, none⟩) 1 [t] := RwR.blk1 (Blk.new wr 68 (xtV t B t.ats.length dd)) (xtP.bel hP.out D1)
                have hzw := HF2.out.2.size
                have hba : w.heap.size ≤ (wr.alloc (.cells (xtV t B t.ats.length dd) 68)).heap.size := by simp; omega
                have HD1 := Lib.hid D1
                have HZ1 : Hid ((wr.alloc (.cells (xtV t B t.ats.length dd) 68)).heap.size = wr.heap.size + 1) := Lib.hid (by simp)
                clear D1
                simp only [xtV] at ho hr hba HD1 HZ1
                go_wp2_with (at_builtin; go_loud (refine wpList_appY xtP iXts rfl rfl rfl ho rfl hr (by omega) (by omega) hba ?_; intro A'' c'' w7 ho7 hb7 hgr7 hk7))
                obtain ⟨F7, P7⟩ := HF2.out.add HP2.out ho7 ((HD1.out.mono hzw).trans hb7) (grown_two (only_of_below HD1.out _) hgr7) (fun b hb' => by
                  rcases hk7 with h | h
                  · rw [h] at hb'; exact .inl hb'
                  · right
                    rw [h] at hb'
                    injection hb' with hb'
                    have := HZ1.out
                    omega)
                have HF7 := Lib.hid F7
                have HP7 := Lib.hid P7
                clear F7 P7
                go_roundw
                case rel => exact ⟨k + 1, A'', n' + 1, c'', by omega, by go_num, rfl, by rw [HNX.out, HE.out]; exact HF7, HP7⟩
                case measure => simp [intOf]; omega
            · obtain rfl : k = m := by omega
              have hltb : decide (k < k) = false := by simp
              have hta : ts.take k = ts := List.take_of_length_le (by have := HM.out; omega)
              rw [hta] at HF2 HLN2
              have HTX2 := txB.adds HX.out HTX.out
              have hts : ts.length ≤ 2 := by have := HM.out; omega
              clear hta HP2
              by_cases h81 : 8192 < n'
              · have d81 : decide ((8192 : Int) < (n' : Int)) = true := by simp; omega
                have d81' : decide (8192 < n') = true := by simpa using h81
                have HV3 : Hid (tot = ([], (s.length : Int) - (l.length : Int), 3)) := Lib.hid (by rw [HV2.out, if_pos (by rw [HLN2.out]; exact h81)])
                clear HV2 HTX2 hts
                go_wp2_with fail
                go_ret3
                rw [HV3.out]
                exact ⟨none, 0, 0, rfl, RwA.nil _, Nat.le_refl _, by omega, HF2.out.2⟩
              · have d81 : decide ((8192 : Int) < (n' : Int)) = false := by simp; omega
                have d81' : decide (8192 < n') = false := by simpa using h81
                have HV3 : Hid (l2.length ≤ f - 1 ∧ tot = tokF s.length (f - 1) (ts.foldl addT L) l2) := Lib.hid ⟨by have := HVf.out; omega, by rw [HV2.out, if_neg (by rw [HLN2.out]; exact h81)]⟩
                have HTX3 : Hid (txB (2000000 * (s.length - l2.length)) (ts.foldl addT L)) := Lib.hid (fun u hu => by have := HTX2 u hu; omega)
                clear HV2 HTX2
                go_wp2_with fail
                go_roundw
                case rel => exact ⟨A', n', c', ts.foldl addT L, l2, f - 1, rfl, rfl, HF2, by omega, by omega, HTX3, HV3⟩
                case measure =>
                  simp only [strL, size_of]
                  exact hl2
      · have hl0 : l = [] := List.eq_nil_of_length_eq_zero (by omega)
        subst hl0
        have HE : Hid (tot = (L, (s.length : Int), 0)) := Lib.hid (by rw [HV.out.2]; cases f <;> rfl)
        go_wp2_with fail
        go_ret3
        rw [HE.out]
        exact ⟨A, n, c, rfl, HF.out.1.qs xtP (fun b hb _ => hb) (fun b hb _ => hb), hc1, hc2, HF.out.2⟩
end Go.Proofs.Ytjmmgekildlckaa
