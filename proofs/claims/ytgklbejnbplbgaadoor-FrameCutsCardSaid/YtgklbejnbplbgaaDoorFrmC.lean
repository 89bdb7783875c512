/-
  Rows of slices of bytes; Scan, the reference's Scan, Same.
-/
import Derived.Test.YtgklbejnbplbgaaDoorFrmB
namespace Go.Proofs.YtgklbejnbplbgaaDoor
open Go.RowKit Go.Nst
set_option maxRecDepth 100000
set_option linter.unusedVariables false
set_option linter.unusedSimpArgs false

theorem iParts : Info Tryd.prog 41 22 (.slice none 0 0) 1 24 := Info.mk_ Tryd.underlying41 (by kernel_rfl) rfl (by omega)
/-- a row of the call's own, of slices of bytes; each reads as its bytes and lies elsewhere -/
structure Pr (w : World) (base : Nat) (A : Option Addr) (n c : Nat) (ps : List Part) : Prop where
  own : w.ownsRow base 22 1 (.slice A n c) n (ps.map Part.val)
  bs : ∀ p ∈ ps, Bs w p.A p.n p.l
  apart : ∀ p ∈ ps, ∀ ad, p.A = some ad → 0 < p.n → (Value.slice A n c).ownBlock ≠ some ad.block
theorem Pr.nil {w : World} {base : Nat} : Pr w base none 0 0 [] := ⟨World.ownsRow_nil _ _ _ _, by simp, by simp⟩
theorem Pr.below {w w' : World} {base n c : Nat} {A : Option Addr} {ps : List Part} (h : Pr w base A n c ps) (hb : Below w.heap.size w w') : Pr w' base A n c ps := by
  refine ⟨⟨h.own.1, ?_⟩, fun p hp => (h.bs p hp).below hb, h.apart⟩
  rcases h.own.2 with h2 | ⟨g, cap, cur, hv, hg, hh, r⟩
  · exact .inl h2
  · exact .inr ⟨g, cap, cur, hv, hg, (hb.block g (Array.getElem?_eq_some_iff.1 hh).1).trans hh, r⟩
theorem Pr.reads {w : World} {base n c : Nat} {A : Option Addr} {ps : List Part} (h : Pr w base A n c ps) : Reads w w.heap.size 1 A n (ps.map Part.val) := Reads.of_own h.own
theorem Pr.len {w : World} {base n c : Nat} {A : Option Addr} {ps : List Part} (h : Pr w base A n c ps) : ps.length = n := by have := h.reads.1; simpa using this
theorem one_part (w : World) (t : TypeId) (p : Part) : Reads (w.alloc (.cells #[.slice p.A p.n p.c] t)) (w.alloc (.cells #[.slice p.A p.n p.c] t)).heap.size 1 (some ⟨w.heap.size, 0, none⟩) 1 ([p].map Part.val) := by
  refine ⟨rfl, fun _ => ⟨_, rfl, by simp, fun j u hu => ?_⟩⟩
  rw [add_lit, Nat.zero_add, (Blk.new w t _).cell]
  match j, hu with
  | 0, hu => simpa [Part.val] using hu
  | k + 1, hu => simp at hu
theorem val_one (ps : List Part) : ∀ u ∈ ps.map Part.val, u.oneCell' = true := by
  intro u hu
  simp only [List.mem_map] at hu
  obtain ⟨x, _, rfl⟩ := hu
  rfl
/-- append of one slice of bytes -/
theorem wpList_appP (w : World) {ops : Array Oper} {rest : List Oper} {o : Oper} {a : Act} {Q : Exit → Act → World → Prop} {s x : Operand} (hgd : o.guard = none)
    (ho : o.op = .call { callee := .builtin .append, args := #[s, x], argTypes := #[41, 41] })
    {base : Nat} {A0 : Option Addr} {n c0 : Nat} {ps : List Part} (hs : a.eval s = .slice A0 n c0) (hown : Pr w base A0 n c0 ps)
    {A : Option Addr} {c : Nat} (p : Part) (hx : a.eval x = .slice A 1 c) (hr : Reads w w.heap.size 1 A 1 ([p].map Part.val)) (hp : Bs w p.A p.n p.l)
    (hpa : ∀ ad, p.A = some ad → 0 < p.n → (Value.slice A0 n c0).ownBlock ≠ some ad.block)
    (hbytes : n ≤ 1000000000) (hbase : base ≤ w.heap.size)
    (h : ∀ A' c' w', Pr w' base A' (n + 1) c' (ps ++ [p]) → Below base w w' → w.grownBy w' (Value.slice A0 n c0).ownBlock → wpList Tryd.prog ops Q rest (a.put o.dst (.slice A' (n + 1) c')) w') : wpList Tryd.prog ops Q (o :: rest) a w := by
  refine wpList_app w iParts hgd ho hs hown.own hx hr (val_one _) (by unfold maxLen; omega) (by omega) hbase fun A' c' w' h2 h3 h4 => h A' c' w' ⟨?_, ?_, ?_⟩ ((Below.refl _ _).grown h3 hbase (fun k hk => (World.ownsRow.lt hown.own k hk).1)) h3
  · rw [List.map_append]; exact h2
  · intro q hq
    simp only [List.mem_append, List.mem_singleton] at hq
    rcases hq with hq | rfl
    · exact (hown.bs q hq).only h3 (fun ad e hn e2 => hown.apart q hq ad e hn e2.symm)
    · exact hp.only h3 (fun ad e hn e2 => hpa ad e hn e2.symm)
  · intro q hq ad e hn
    have hb : Bs w q.A q.n q.l ∧ (Value.slice A0 n c0).ownBlock ≠ some ad.block := by
      simp only [List.mem_append, List.mem_singleton] at hq
      rcases hq with hq | rfl
      · exact ⟨hown.bs q hq, hown.apart q hq ad e hn⟩
      · exact ⟨hp, hpa ad e hn⟩
    have hlt := bs_place hb.1 e hn
    rcases h4 with h4 | h4
    · rw [h4]; exact hb.2
    · rw [h4]
      intro e2
      injection e2 with e2
      omega

/-- what comes of Scan -/
def RetScan (w : World) (r : List (List UInt8) × Nat × Int) (e : Ending) (w' : World) : Prop := ∃ A n c ps, e = .returned (.tuple #[.slice A n c, .int .i64 (r.2.1 : Int), .int .i64 r.2.2]) ∧ Pr w' w.heap.size A n c ps ∧ ps.map Part.l = r.1 ∧ Below w.heap.size w w'
theorem scan_round {l : List UInt8} {at_ : Nat} {acc : List (List UInt8)} {tot : List (List UInt8) × Nat × Int} (h : tot = (acc ++ (scanL (l.drop at_)).1, at_ + (scanL (l.drop at_)).2.1, (scanL (l.drop at_)).2.2)) (hl : at_ < l.length) (hw : (nextL (l.drop at_)).2.2 = 1) :
    tot = ((acc ++ [(nextL (l.drop at_)).1]) ++ (scanL (l.drop (at_ + (nextL (l.drop at_)).2.1))).1, (at_ + (nextL (l.drop at_)).2.1) + (scanL (l.drop (at_ + (nextL (l.drop at_)).2.1))).2.1, (scanL (l.drop (at_ + (nextL (l.drop at_)).2.1))).2.2) := by
  rw [h, scanL_step (l.drop at_) (by intro e; have := congrArg List.length e; simp at this; omega), if_pos hw, List.drop_drop]
  simp [Nat.add_assoc]
theorem scan_stop {l : List UInt8} {at_ : Nat} {acc : List (List UInt8)} {tot : List (List UInt8) × Nat × Int} (h : tot = (acc ++ (scanL (l.drop at_)).1, at_ + (scanL (l.drop at_)).2.1, (scanL (l.drop at_)).2.2)) (hl : at_ < l.length) (hw : (nextL (l.drop at_)).2.2 ≠ 1) :
    tot = (acc, at_, (nextL (l.drop at_)).2.2) := by
  rw [h, scanL_step (l.drop at_) (by intro e; have := congrArg List.length e; simp at this; omega), if_neg hw]
  simp
theorem scan_end {l : List UInt8} {at_ : Nat} {acc : List (List UInt8)} {tot : List (List UInt8) × Nat × Int} (h : tot = (acc ++ (scanL (l.drop at_)).1, at_ + (scanL (l.drop at_)).2.1, (scanL (l.drop at_)).2.2)) (hl : ¬ at_ < l.length) :
    tot = (acc, at_, 1) := by
  rw [h, List.drop_of_length_le (by omega), scanL_nil]
  simp

set_option maxHeartbeats 4000000 in
theorem scan17_any (A : Option Addr) (n c : Nat) (l : List UInt8) (w : World) (hn : n ≤ 1000000) (hnc : n ≤ c) (hc63 : c ≤ 9223372036854775807) (hB : Bs w A n l) (ht : Tab w) :
    Calls Tryd.prog 27 #[.slice A n c] w (RetScan w (scanL l)) := by
  have hl := hB.len
  obtain ⟨tot, htot⟩ : ∃ tot, scanL l = tot := ⟨_, rfl⟩
  have HT : Hid (tot = (([] : List Part).map Part.l ++ (scanL (l.drop 0)).1, 0 + (scanL (l.drop 0)).2.1, (scanL (l.drop 0)).2.2)) := Lib.hid (by rw [List.drop_zero, htot]; simp)
  rw [htot]
  clear htot
  go_enter Tryd.func27, Tryd.ntmps27
  go_wp2_with fail
  go_loopw [5, 6] (fun v i wr => ∃ (k m : Nat) (A2 : Option Addr) (c2 : Nat) (ps : List Part), v = .slice A2 m c2 ∧ i = .int .i64 (k : Int) ∧ k ≤ n ∧ m ≤ k ∧ Pr wr w.heap.size A2 m c2 ps ∧ Below w.heap.size w wr ∧ Hid (tot = (ps.map Part.l ++ (scanL (l.drop k)).1, k + (scanL (l.drop k)).2.1, (scanL (l.drop k)).2.2))) (fun _ i _ => n - (intOf i).toNat)
  case atStart => exact ⟨0, 0, none, 0, [], rfl, rfl, by omega, by omega, Pr.nil, Below.refl _ _, HT⟩
  case round =>
    obtain ⟨k, m, A2, c2, ps, rfl, rfl, hk, hmk, hO, hbw, HR⟩ := hrel
    have hbs := hbw.size
    by_cases hlt : k < n
    · have hck : ¬ c = k := by omega
      have hcut := (hB.below hbw).cut (k := k) (cap := c) (by omega) hnc
      rw [if_neg hck] at hcut
      obtain ⟨u, b, off, rfl, _⟩ := hB.at (k := 0) (by omega)
      simp only [Option.map_some, add_lit] at hcut
      have HX := Lib.hid (next17_any (some ⟨b, off + k, none⟩) (n - k) (c - k) (l.drop k) wr (by omega) (by omega) (by omega) hcut (ht.below hbw))
      have HW := Lib.hid (fun h => next_whole (l := l.drop k) h)
      have HS1 := Lib.hid (scan_round HR.out (by omega))
      have HS2 := Lib.hid (scan_stop HR.out (by omega))
      generalize nextL (l.drop k) = r at *
      obtain ⟨rl, ru, rs⟩ := r
      simp only at HW HS1 HS2
      by_cases hs1 : rs = 1
      · subst hs1
        have HW2 := HW.out rfl
        have HN := Lib.hid (HS1.out rfl)
        rw [List.length_drop] at HW2
        clear HW HS1 HS2
        go_wp2_with fail
        refine HX.out.mono ?_
        rintro e w1 ⟨A1, n1, c1, rfl, ho1, hb1⟩
        have hO1 := hO.below (bel_alloc hb1 (.cells #[.slice A1 n1 c1] 22))
        have hs1 := hb1.size
        have hB1 := ho1.bs.alloc (.cells #[.slice A1 n1 c1] 22)
        have hR1 := one_part w1 22 ⟨A1, n1, c1, rl⟩
        have hap : ∀ ad, A1 = some ad → 0 < n1 → (Value.slice A2 m c2).ownBlock ≠ some ad.block := by
          intro ad e hn0 e2
          have h1 := (World.ownsRow.lt hO.own ad.block e2).2
          subst e
          have hz : (Value.slice (some ad) n1 c1).ownBlock = some ad.block := rfl
          have h2 := (ho1.blk ad.block hz).1
          omega
        go_wp2_with (at_builtin; refine wpList_appP _ rfl rfl rfl hO1 ⟨A1, n1, c1, rl⟩ rfl hR1 hB1 hap (by omega) (by simp; omega) ?_; intro A' c' w' ho hb _)
        go_roundw
        case rel =>
          refine ⟨k + ru, m + 1, A', c', ps ++ [⟨A1, n1, c1, rl⟩], rfl, by go_num, by omega, by omega, ho, ((bel_step hbw hb1).alloc (by omega) _).trans hb, ?_⟩
          rw [List.map_append]
          exact HN
        case measure => simp [intOf]; omega
      · have HN := Lib.hid (HS2.out hs1)
        have d1 : (rs != 1) = true := by simpa using hs1
        clear HW HS1 HS2
        go_wp2_with fail
        refine HX.out.mono ?_
        rintro e w1 ⟨A1, n1, c1, rfl, ho1, hb1⟩
        go_wp2_with fail
        go_ret3
        rw [HN.out]
        exact ⟨A2, m, c2, ps, rfl, hO.below hb1, rfl, bel_step hbw hb1⟩
    · have HN := Lib.hid (scan_end HR.out (by omega))
      go_wp2_with fail
      go_ret3
      rw [HN.out]
      exact ⟨A2, m, c2, ps, rfl, hO, rfl, hbw⟩

set_option maxHeartbeats 4000000 in
theorem refScan17_any (A : Option Addr) (n c : Nat) (l : List UInt8) (w : World) (hn : n ≤ 100000) (hnc : n ≤ c) (hc63 : c ≤ 9223372036854775807) (hB : Bs w A n l) :
    Calls Tryd.prog 28 #[.slice A n c] w (RetScan w (scanL l)) := by
  have hl := hB.len
  obtain ⟨tot, htot⟩ : ∃ tot, scanL l = tot := ⟨_, rfl⟩
  have HT : Hid (tot = (([] : List Part).map Part.l ++ (scanL (l.drop 0)).1, 0 + (scanL (l.drop 0)).2.1, (scanL (l.drop 0)).2.2)) := Lib.hid (by rw [List.drop_zero, htot]; simp)
  rw [htot]
  clear htot
  go_enter Tryd.func28, Tryd.ntmps28
  go_wp2_with fail
  go_loopw [5, 6] (fun v i wr => ∃ (k m : Nat) (A2 : Option Addr) (c2 : Nat) (ps : List Part), v = .slice A2 m c2 ∧ i = .int .i64 (k : Int) ∧ k ≤ n ∧ m ≤ k ∧ Pr wr w.heap.size A2 m c2 ps ∧ Below w.heap.size w wr ∧ Hid (tot = (ps.map Part.l ++ (scanL (l.drop k)).1, k + (scanL (l.drop k)).2.1, (scanL (l.drop k)).2.2))) (fun _ i _ => n - (intOf i).toNat)
  case atStart => exact ⟨0, 0, none, 0, [], rfl, rfl, by omega, by omega, Pr.nil, Below.refl _ _, HT⟩
  case round =>
    obtain ⟨k, m, A2, c2, ps, rfl, rfl, hk, hmk, hO, hbw, HR⟩ := hrel
    have hbs := hbw.size
    by_cases hlt : k < n
    · have hck : ¬ c = k := by omega
      have hcut := (hB.below hbw).cut (k := k) (cap := c) (by omega) hnc
      rw [if_neg hck] at hcut
      obtain ⟨u, b, off, rfl, _, hbl, _⟩ := hB.at (k := 0) (by omega)
      simp only [Option.map_some, add_lit] at hcut
      have HX := Lib.hid (refNext17_any (some ⟨b, off + k, none⟩) (n - k) (c - k) (l.drop k) wr (by omega) (by omega) (by omega) hcut)
      have HW := Lib.hid (fun h => next_whole (l := l.drop k) h)
      have HS1 := Lib.hid (scan_round HR.out (by omega))
      have HS2 := Lib.hid (scan_stop HR.out (by omega))
      generalize nextL (l.drop k) = r at *
      obtain ⟨rl, ru, rs⟩ := r
      simp only at HW HS1 HS2
      by_cases hs1 : rs = 1
      · subst hs1
        have HW2 := HW.out rfl
        have HN := Lib.hid (HS1.out rfl)
        rw [List.length_drop] at HW2
        clear HW HS1 HS2
        go_wp2_with fail
        refine HX.out.mono ?_
        rintro e w1 ⟨A1, n1, c1, rfl, ho1, hb1, hnc1, hpl⟩
        have hO1 := hO.below (bel_alloc hb1 (.cells #[.slice A1 n1 c1] 22))
        have hs1 := hb1.size
        have hB1 := ho1.alloc (.cells #[.slice A1 n1 c1] 22)
        have hR1 := one_part w1 22 ⟨A1, n1, c1, rl⟩
        have hap : ∀ ad, A1 = some ad → 0 < n1 → (Value.slice A2 m c2).ownBlock ≠ some ad.block := by
          intro ad e hn0 e2
          have h1 := (World.ownsRow.lt hO.own ad.block e2).1
          obtain ⟨a0, e3, e4⟩ := hpl ad e hn0
          injection e3 with e3
          subst e3
          simp only at e4
          omega
        have HPL := Lib.hid hpl
        clear hpl
        go_wp2_with (at_builtin; refine wpList_appP _ rfl rfl rfl hO1 ⟨A1, n1, c1, rl⟩ rfl hR1 hB1 hap (by omega) (by simp; omega) ?_; intro A' c' w' ho hb _)
        go_roundw
        case rel =>
          refine ⟨k + ru, m + 1, A', c', ps ++ [⟨A1, n1, c1, rl⟩], rfl, by go_num, by omega, by omega, ho, ((bel_step hbw hb1).alloc (by omega) _).trans hb, ?_⟩
          rw [List.map_append]
          exact HN
        case measure => simp [intOf]; omega
      · have HN := Lib.hid (HS2.out hs1)
        have d1 : (rs != 1) = true := by simpa using hs1
        clear HW HS1 HS2
        go_wp2_with fail
        refine HX.out.mono ?_
        rintro e w1 ⟨A1, n1, c1, rfl, ho1, hb1, hnc1, hpl⟩
        have HPL := Lib.hid hpl
        clear hpl
        go_wp2_with fail
        go_ret3
        rw [HN.out]
        exact ⟨A2, m, c2, ps, rfl, hO.below hb1, rfl, bel_step hbw hb1⟩
    · have HN := Lib.hid (scan_end HR.out (by omega))
      go_wp2_with fail
      go_ret3
      rw [HN.out]
      exact ⟨A2, m, c2, ps, rfl, hO, rfl, hbw⟩

/-- two lists of bytes that are the same -/
theorem same17_any (A A2 : Option Addr) (n c n2 c2 : Nat) (ps qs : List Part) (w : World) (hn : n ≤ 1000000) (hP : Reads w w.heap.size 1 A n (ps.map Part.val)) (hQ : Reads w w.heap.size 1 A2 n2 (qs.map Part.val)) (h1 : ∀ p ∈ ps, Bs w p.A p.n p.l) (h2 : ∀ p ∈ qs, Bs w p.A p.n p.l) (he : ps.map Part.l = qs.map Part.l) :
    Calls Tryd.prog 29 #[.slice A n c, .slice A2 n2 c2] w (RetTrue w) := by
  have l1 : ps.length = n := by have := hP.1; simpa using this
  have l2 : qs.length = n2 := by have := hQ.1; simpa using this
  have hnn : n = n2 := by have := congrArg List.length he; simp at this; omega
  subst hnn
  have HE := Lib.hid he
  have H1 := Lib.hid h1
  have H2 := Lib.hid h2
  have HL1 := Lib.hid l1
  have HL2 := Lib.hid l2
  clear he h1 h2 l1 l2
  go_enter Tryd.func29, Tryd.ntmps29
  go_wp2_with fail
  go_loopw [5] (fun i wr => ∃ k : Nat, i = .int .i64 (k : Int) ∧ k ≤ n ∧ Below w.heap.size w wr) (fun i _ => n - (intOf i).toNat)
  case atStart => exact ⟨0, rfl, by omega, Below.refl _ _⟩
  case round =>
    obtain ⟨k, rfl, hk, hbw⟩ := hrel
    by_cases hlt : k < n
    · obtain ⟨p, b, off, rfl, hp, hb, hc⟩ := part_at (hP.below hbw) hlt
      obtain ⟨q, b2, off2, rfl, hq, hb2, hc2⟩ := part_at (hQ.below hbw) hlt
      have Bp := (H1.out p (List.mem_of_getElem? hp.out)).below hbw
      have Bq := (H2.out q (List.mem_of_getElem? hq.out)).below hbw
      have hpq : p.l = q.l := by
        have h1 : (ps.map Part.l)[k]? = some p.l := by rw [List.getElem?_map, hp.out]; rfl
        have h2 : (qs.map Part.l)[k]? = some q.l := by rw [List.getElem?_map, hq.out]; rfl
        rw [HE.out, h2] at h1
        injection h1 with h1
        exact h1.symm
      rw [← hpq] at Bq
      have hcW := fun W (h : Below wr.heap.size wr W) => (h.cell (p := ⟨b, off + k, none⟩) (by have := hbw.size; simp; omega)).trans hc
      have hcW2 := fun W (h : Below wr.heap.size wr W) => (h.cell (p := ⟨b2, off2 + k, none⟩) (by have := hbw.size; simp; omega)).trans hc2
      clear hpq hc hc2 hp hq
      obtain ⟨pA, pn, pc, pl⟩ := p
      obtain ⟨qA, qn, qc, ql⟩ := q
      simp only at Bp Bq hcW hcW2
      have ks1 := fun W (hb : Below wr.heap.size wr W) => (Bp.below hb).str (P := Tryd.prog) 22 9 5 pc Tryd.underlying22 Tryd.underlying5 Tryd.underlying9
      have ks2 := fun W (hb : Below wr.heap.size wr W) => (Bq.below hb).str (P := Tryd.prog) 22 9 5 qc Tryd.underlying22 Tryd.underlying5 Tryd.underlying9
      go_wp2_with fail
      refine wp_region_seq (by kernel_rfl) [(0, true), (1, true), (2, true), (3, true), (4, true), (5, true), (6, true), (7, true), (8, true), (9, true), (10, true)] (by kernel_rfl) rfl (by kernel_rfl) ?_
      intro w2 hb2
      have tr2 : ∀ W, Below w2.heap.size w2 W → Below wr.heap.size wr W := fun W h => bel_step hb2 h
      iterate 11 (refine wpSeq_take (o := ⟨_, _, _, _, _, _⟩) (v := ?_) rfl rfl ?_ ?_; rotate_left; (focus (intro W hW; go_simp; first | done | with_reducible rfl)); simp only [Act.put, List.setIfInBounds_toArray, List.set_cons_zero, List.set_cons_succ])
      refine wpSeq_nil ?_
      go_wp2_with fail
      go_roundw
      case rel => exact ⟨k + 1, by go_num, by omega, bel_step hbw hb2⟩
      case measure => simp [intOf]; omega
    · go_wp2_with fail
      go_ret
      exact ⟨rfl, hbw⟩
end Go.Proofs.YtgklbejnbplbgaaDoor
