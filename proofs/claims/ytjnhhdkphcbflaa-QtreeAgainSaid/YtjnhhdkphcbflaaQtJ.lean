/-
  What kids in a normal form make (printed by gen_qtj.py).
-/
import Derived.Test.YtjnhhdkphcbflaaQtI
namespace Go.Proofs.Ytjnhhdkphcbflaa
open Go.RowKit Go.Nst
set_option maxRecDepth 100000
set_option linter.unusedVariables false
set_option linter.unusedSimpArgs false

theorem flat_append (o : Int) : ∀ (a b acc : List Qy), flatL o (a ++ b) acc = (flatL o a acc).bind fun r => flatL o b r
  | [], b, acc => rfl
  | x :: xs, b, acc => by
    simp only [List.cons_append, flatL]
    split
    · exact flat_append o xs b _
    · split
      · exact flat_append o xs b _
      · split
        · rfl
        · exact flat_append o xs b _
theorem flat_gone {o : Int} {l : List Qy} {k : Nat} (h : flatL o (l.take k) [] = none) : flatL o l [] = none := by
  have := flat_append o (l.take k) (l.drop k) []
  rw [List.take_append_drop, h] at this
  exact this
theorem flat_len (o : Int) : ∀ (l acc r : List Qy), flatL o l acc = some r → r.length ≤ acc.length + nodL l 0
  | [], acc, r, h => by simp only [flatL, Option.some.injEq] at h; subst h; simp [nodL]
  | x :: xs, acc, r, h => by
    have hx : x.kids.length + 1 ≤ nodQ x := by
      obtain ⟨o, n, s, ks⟩ := x
      have := nodL_length ks 1
      simp only [Qy.kids, nodQ]; omega
    simp only [flatL] at h
    simp only [nodL]
    rw [nodL_add]
    split at h
    · have := flat_len o xs _ r h; simp at this; omega
    · split at h
      · have := flat_len o xs _ r h; omega
      · split at h
        · cases h
        · have := flat_len o xs _ r h; simp at this; omega
theorem qV_inj {o n o' n' : Int} {s s' : List UInt8} {A A' : Option Addr} {k c k' c' : Nat} (h : qV o n s A k c = qV o' n' s' A' k' c') : A = A' ∧ k = k' ∧ c = c' := by
  simp only [qV, Array.mk.injEq, List.cons.injEq, Value.slice.injEq] at h
  exact ⟨h.2.2.2.1.1, h.2.2.2.1.2.1, h.2.2.2.1.2.2⟩
theorem QAt.kidsAt {w : World} {S : Nat → Prop} {o n : Int} {s : List UInt8} {A : Option Addr} {k c : Nat} {q : Qy} (h : QAt w S (qV o n s A k c) q) : QsAt w S A k q.kids := by
  obtain ⟨A', c', e, _, _, _, _, _, hk⟩ := h.open_
  obtain ⟨rfl, rfl, rfl⟩ := qV_inj e
  exact hk
theorem join1_any (x y : Qy) (g : Nat) (vx vs : Array Value) (W : World) (S S2 : Nat → Prop) (h1 : Blk W g 24 vx) (hx : QAt W S vx x) (h5 : x.op = 5 → x.kids ≠ []) (hy : QAt W S2 vs y) :
    Calls Try.prog 53 #[.agg vs, .pointer (some ⟨g, 0, none⟩)] W fun e w' => e = .returned (.bool (samQ y (oppQ x) 1)) ∧ Below W.heap.size W w' := by
  have B0 := bel_alloc (Below.refl W.heap.size W) (.cells vs 24)
  have XB := Lib.hid (Blk.new W 24 vs)
  have HO := Lib.hid (fun W' hW' => opposite25_any x vx W' S hW' h5)
  have HQX := Lib.hid (hx.bel B0)
  have HQY := Lib.hid (hy.bel B0)
  obtain ⟨A, c, rfl, -, -, -, -, -, -⟩ := hx.open_
  obtain ⟨A2, c2, rfl, -, -, -, -, -, -⟩ := hy.open_
  have HS := Lib.hid (fun W' vo So hW1 hW2 => Same25_any y (oppQ x) (qV y.op y.n y.s A2 y.kids.length c2) vo W' S2 So hW1 hW2)
  have l1 := h1.lt
  have X1 := Lib.hid ((h1.alloc (.cells (qV y.op y.n y.s A2 y.kids.length c2) 24)))
  clear h1 hx hy h5
  simp only [qV] at *
  generalize samQ y (oppQ x) 1 = b at *
  go_enter Try.func53, Try.ntmps53
  go_wp2_with fail
  refine wp_region_seq (by kernel_rfl) [(0, true), (1, true), (2, false), (3, false), (4, true)] (by kernel_rfl) rfl (by kernel_rfl) ?_
  intro w0 hb0
  obtain ⟨p0, p1, p2, p3⟩ := box_facts (X1.out.below hb0 X1.out.lt)
  obtain ⟨r0, r1, r2, r3⟩ := box_facts (XB.out.below hb0 XB.out.lt)
  have P0 := later p0
  have P1 := later p1
  have P2 := later p2
  have P3 := later p3
  have R0 := later r0
  have R1 := later r1
  have R2 := later r2
  have R3 := later r3
  clear p0 p1 p2 p3 r0 r1 r2 r3
  have HQX0 := Lib.hid (HQX.out.bel hb0)
  have HQY0 := Lib.hid (HQY.out.bel hb0)
  iterate 2 (refine wpSeq_take (o := ⟨_, _, _, _, _, _⟩) (v := ?_) rfl rfl ?_ ?_; rotate_left; (focus (intro W hW; go_simp; first | done | with_reducible rfl)); simp only [Act.put, List.setIfInBounds_toArray, List.set_cons_zero, List.set_cons_succ])
  clear P0 P1 P2 P3 R0 R1 R2 R3
  refine wpSeq_exec (o := ⟨_, _, _, _, _, _⟩) rfl rfl (fun K hK => ?_)
  go_simp
  (with_reducible refine (HO.out w0 HQX0.out).mono ?_)
  rintro e w2 ⟨vo, rfl, hqo, hb2⟩
  have HQO := Lib.hid hqo
  obtain ⟨Ao, co, rfl, -, -, -, -, -, -⟩ := hqo.open_
  clear hqo
  simp only [qV] at *
  go_wp2_with fail
  refine hK _ _ hb2 ?_
  clear hK K
  refine wpSeq_exec (o := ⟨_, _, _, _, _, _⟩) rfl rfl (fun K hK => ?_)
  go_simp
  (with_reducible refine (HS.out w2 _ _ (HQY0.out.bel hb2) HQO.out).mono ?_)
  rintro e w3 ⟨rfl, hb3⟩
  go_wp2_with fail
  refine hK _ _ hb3 ?_
  clear hK K
  iterate 1 (refine wpSeq_take (o := ⟨_, _, _, _, _, _⟩) (v := ?_) rfl rfl ?_ ?_; rotate_left; (focus (intro W hW; go_simp; first | done | with_reducible rfl)); simp only [Act.put, List.setIfInBounds_toArray, List.set_cons_zero, List.set_cons_succ])
  refine wpSeq_nil ?_
  go_wp2_with fail
  go_ret
  exact ⟨rfl, bel_step (bel_step (bel_step B0 hb0) hb2) hb3⟩
def clashU (f : List Qy) (k : Nat) : Bool := (f.take k).any fun x => decide (x.kids.length < 2) && f.any fun y => samQ y (oppQ x) 1
theorem clashU_succ {f : List Qy} {k : Nat} {x : Qy} (h : f[k]? = some x) (h0 : clashU f k = false) : clashU f (k + 1) = (decide (x.kids.length < 2) && f.any fun y => samQ y (oppQ x) 1) := by
  unfold clashU at *
  rw [List.take_add_one, h, List.any_append, h0]
  simp
theorem clashU_all {f : List Qy} {k : Nat} (h : f.length ≤ k) : clashU f k = clashB f := by
  unfold clashU clashB
  rw [List.take_of_length_le h]
theorem clashU_yes {f : List Qy} {k : Nat} (h : clashU f k = true) : clashB f = true := by
  unfold clashU at h
  unfold clashB
  rw [List.any_eq_true] at h ⊢
  obtain ⟨x, hx, hp⟩ := h
  exact ⟨x, List.mem_of_mem_take hx, hp⟩
/-- an element has kids, if it is a not -/
def Nk (x : Qy) : Prop := x.op = 5 → x.kids ≠ []
theorem NF_nk {q : Qy} (h : NF q) : Nk q := by
  intro h5
  cases h with
  | one => simp [leafO, Qy.op] at h5
  | two => simp [leafO, Qy.op] at h5
  | lf h => cases h with
    | leaf _ _ _ _ h => exact absurd h5 h
    | nt => simp [notQ, Qy.kids]
  | many h => simp only [Qy.op] at h5; omega
theorem flat_nk {o : Int} (ho : o = 3 ∨ o = 4) {l f : List Qy} (h : ∀ k ∈ l, NF k) (hf : flatL o l [] = some f) : ∀ x ∈ onceL f [], Nk x := by
  intro x hx
  have hm : x ∈ f := by
    have : ∀ (l acc : List Qy), x ∈ onceL l acc → x ∈ l ∨ x ∈ acc := by
      intro l
      induction l with
      | nil => intro acc h; exact .inr h
      | cons y ys ih =>
        intro acc h
        simp only [onceL] at h
        rcases ih _ h with h | h
        · exact .inl (List.mem_cons_of_mem _ h)
        · split at h
          · exact .inr h
          · rcases List.mem_append.1 h with h | h
            · exact .inr h
            · simp only [List.mem_cons, List.not_mem_nil, or_false] at h; subst h; exact .inl (by simp)
    rcases this f [] hx with h | h
    · exact h
    · cases h
  have hw : ∀ k ∈ l, k.op ≠ otherO (neuO o) := fun k hk he => by rw [flat_none o ho l [] ⟨k, hk, he⟩] at hf; cases hf
  rw [flat_some o l [] hw, List.nil_append] at hf
  injection hf with hf
  subst hf
  exact ((flatF_in ho h hw) x hm).1 |> NF_nk
theorem res_facts {w : World} {g : Nat} {v0 v1 v2 v3 : Value} (h : Blk w g 24 #[v0, v1, v2, v3]) : w.cell? ⟨g, 0, none⟩ = some v0 ∧ w.cell? ⟨g, 1, none⟩ = some v1 ∧ w.cell? ⟨g, 2, none⟩ = some v2 ∧ w.cell? ⟨g, 3, none⟩ = some v3 ∧ g < w.heap.size ∧ ∀ i, w.frozen? ⟨g, i, none⟩ = false := ⟨h.cell 0, h.cell 1, h.cell 2, h.cell 3, h.lt, h.frozen⟩
theorem set4 {w : World} {g : Nat} {cs : Array Value} (h : Blk w g 24 cs) (v0 v1 v2 v3 : Value) : Blk ((((w.setCell ⟨g, 0, none⟩ v0).setCell ⟨g, 1, none⟩ v1).setCell ⟨g, 2, none⟩ v2).setCell ⟨g, 3, none⟩ v3) g 24 ((((cs.setIfInBounds 0 v0).setIfInBounds 1 v1).setIfInBounds 2 v2).setIfInBounds 3 v3) := (((h.set_ 0 v0).set_ 1 v1).set_ 2 v2).set_ 3 v3
theorem bel4 {B : Nat} {a w : World} (h : Below B a w) {g : Nat} (hg : B ≤ g) (v0 v1 v2 v3 : Value) : Below B a ((((w.setCell ⟨g, 0, none⟩ v0).setCell ⟨g, 1, none⟩ v1).setCell ⟨g, 2, none⟩ v2).setCell ⟨g, 3, none⟩ v3) := (((h.setCell (p := ⟨g, 0, none⟩) hg v0).setCell (p := ⟨g, 1, none⟩) hg v1).setCell (p := ⟨g, 2, none⟩) hg v2).setCell (p := ⟨g, 3, none⟩) hg v3
theorem heap_set4 {w : World} {g b : Nat} (h : b ≠ g) (v0 v1 v2 v3 : Value) : ((((w.setCell ⟨g, 0, none⟩ v0).setCell ⟨g, 1, none⟩ v1).setCell ⟨g, 2, none⟩ v2).setCell ⟨g, 3, none⟩ v3).heap[b]? = w.heap[b]? :=
  (Below.heap_setCell _ ⟨g, 3, none⟩ v3 b h).trans ((Below.heap_setCell _ ⟨g, 2, none⟩ v2 b h).trans ((Below.heap_setCell _ ⟨g, 1, none⟩ v1 b h).trans (Below.heap_setCell w ⟨g, 0, none⟩ v0 b h)))
theorem QAt.set4 {w : World} {S : Nat → Prop} {v : Array Value} {q : Qy} {g : Nat} (h : QAt w S v q) (hg : ¬ S g) (v0 v1 v2 v3 : Value) : QAt ((((w.setCell ⟨g, 0, none⟩ v0).setCell ⟨g, 1, none⟩ v1).setCell ⟨g, 2, none⟩ v2).setCell ⟨g, 3, none⟩ v3) S v q :=
  h.keep (fun b hb _ => heap_set4 (g := g) (b := b) (fun e => hg (by rw [← e]; exact hb)) v0 v1 v2 v3) (by simp [World.setCell]) (fun _ h _ => h)
theorem QsAt.set4 {w : World} {S : Nat → Prop} {A : Option Addr} {k : Nat} {l : List Qy} {g : Nat} (h : QsAt w S A k l) (hg : ¬ S g) (v0 v1 v2 v3 : Value) : QsAt ((((w.setCell ⟨g, 0, none⟩ v0).setCell ⟨g, 1, none⟩ v1).setCell ⟨g, 2, none⟩ v2).setCell ⟨g, 3, none⟩ v3) S A k l :=
  h.keep (fun b hb _ => heap_set4 (g := g) (b := b) (fun e => hg (by rw [← e]; exact hb)) v0 v1 v2 v3) (by simp [World.setCell]) (fun _ h _ => h)

set_option maxHeartbeats 8000000 in
theorem join25_3 (l : List Qy) (A : Option Addr) (n c : Nat) (w : World) (S : Nat → Prop) (hc : n ≤ c ∧ c ≤ 9223372036854775807) (hk : QsAt w S A n l) (hNF : ∀ k ∈ l, NF k) (hnod : nodL l 0 ≤ 100000) :
    Calls Try.prog 41 #[.int .i64 3, .slice A n c] w (RetQ w S (joinQ 3 l)) := by
  have B0 := bel_alloc (Below.refl w.heap.size w) (.cells #[.int .i64 0, .int .i64 0, .string ⟨#[]⟩, .slice none 0 0] 24)
  have X0 := Blk.new w 24 #[.int .i64 0, .int .i64 0, .string ⟨#[]⟩, .slice none 0 0]
  have HLN := Lib.hid hk.1
  have HK := Lib.hid (show QsAt w (fun b => S b ∧ b < w.heap.size) A n l from hk.wide fun b h hlt => ⟨h, hlt⟩)
  have HNF := Lib.hid hNF
  have HNOD := Lib.hid hnod
  have HO := Lib.hid (fun W => other25_any 1 W)
  rw [show otherO 1 = 2 from rfl] at HO
  have HJ0 : Hid (flatL 3 l [] = none → joinQ 3 l = leafO 2) := Lib.hid (fun h => by unfold joinQ; rw [h]; rfl)
  have HJ1 : Hid (∀ f, flatL 3 l [] = some f → joinQ 3 l = if clashB (onceL f []) then leafO 2 else endQ 3 (onceL f [])) := Lib.hid (fun f h => by unfold joinQ; rw [h]; rfl)
  obtain ⟨hc1, hc2⟩ := hc
  clear hk hNF hnod
  generalize joinQ 3 l = R at *
  go_enter Try.func41, Try.ntmps41
  go_wp2_with fail
  go_loopw [6, 15] (fun v i wr => ∃ (k : Nat) (A' : Option Addr) (m c' : Nat) (acc : List Qy), k ≤ n ∧ i = .int .i64 k ∧ v = .slice A' m c' ∧ Hid (flatL 3 (l.take k) [] = some acc) ∧ Oq wr (w.heap.size + 1) (fun b => S b ∧ b < w.heap.size) A' m c' acc ∧ Hid (Blk wr w.heap.size 24 #[.int .i64 0, .int .i64 0, .string ⟨#[]⟩, .slice none 0 0]) ∧ Below w.heap.size w wr) (fun _ i _ => n - (intOf i).toNat)
  case atStart => exact ⟨0, none, 0, 0, [], Nat.zero_le _, rfl, rfl, Lib.hid rfl, Oq.nil, Lib.hid X0, B0⟩
  case round =>
    obtain ⟨k, A', m, c', acc, hkn, rfl, rfl, hfl, ho, hx, hb⟩ := hrel
    have hcap := ho.cap
    have HM := Lib.hid ho.len
    by_cases hlt : k < n
    · have hlt' : decide (k < n) = true := by simpa using hlt
      obtain ⟨q, B, cq, b, off, hg, rfl, -, hbs, hq', g1, g2, g3, g4, g5, f0, f1, f2, f3⟩ := (HK.out.bel hb).at hlt
      have hsn : flatL 3 (l.take (k + 1)) [] = if q.op = 3 then some (acc ++ q.kids) else if q.op = 1 then some acc else if q.op = 2 then none else some (acc ++ [q]) := by
        rw [List.take_add_one, hg.out]
        show flatL 3 (l.take k ++ [q]) [] = _
        rw [flat_append, hfl.out]
        rfl
      have hlen : ∀ r, flatL 3 (l.take (k + 1)) [] = some r → r.length ≤ 100000 := fun r hr => by
        have h1 := flat_len 3 _ _ r hr
        have h2 := nodL_take l 0 (k + 1)
        have := HNOD.out
        simp at h1
        omega
      have HS := Lib.hid hsn
      have HLE := Lib.hid hlen
      have E0 := bel_alloc (Below.refl wr.heap.size wr) (.cells (qV q.op q.n q.s B q.kids.length cq) 24)
      have HO1 := Lib.hid (ho.bel E0)
      have HX1 := Lib.hid (hx.out.below E0 hx.out.lt)
      have hxq := Blk.new wr 24 (qV q.op q.n q.s B q.kids.length cq)
      have HQ1 := Lib.hid (hq'.out.bel E0)
      have B1 := bel_step hb E0
      have hbs2 := hb.size
      obtain ⟨hcap1, hcap2⟩ := hcap
      have hsrc := Lib.hid (HQ1.out.wide (S' := fun b => (S b ∧ b < w.heap.size) ∧ some b ≠ (Value.slice A' m c').ownBlock) (fun b hb _ => ⟨hb, fun e => by have := (HO1.out.lt b e.symm).1; omega⟩))
      clear hsn hlen ho hx hq'
      simp only [qV] at E0 B1
      by_cases e1 : q.op = 3
      · have t1 : (q.op == 3) = true := by simpa using e1
        have hkr := hsrc.out.kidsAt.r (S' := fun b => (S b ∧ b < w.heap.size) ∧ some b ≠ (Value.slice A' m c').ownBlock) (fun b h _ => h)
        have hfn : flatL 3 (l.take (k + 1)) [] = some (acc ++ q.kids) := by rw [HS.out, if_pos e1]
        have hle := HLE.out _ hfn
        rw [List.length_append, HM.out] at hle
        have ho3 := HO1.out
        have HFN := Lib.hid hfn
        have hbase : w.heap.size + 1 ≤ (wr.alloc (.cells (qV q.op q.n q.s B q.kids.length cq) 24)).heap.size := by simp; omega
        clear hfn e1
        simp only [qV] at ho3 hkr hbase
        go_wp2_with (at_builtin; refine wpList_appQ rfl rfl rfl ho3 rfl hkr (by omega) hbase ?_; intro A'' c'' w3 ho4 hb4)
        have B4 := B1.trans (hb4.mono (by omega))
        have hx3 := Lib.hid (HX1.out.below hb4 (by omega))
        go_roundw
        case rel => exact ⟨k + 1, A'', m + q.kids.length, c'', acc ++ q.kids, by omega, by go_num, rfl, HFN, ho4, hx3, B4⟩
        case measure => simp [intOf]; omega
      have t1 : (q.op == 3) = false := by simpa using e1
      by_cases e2 : q.op = 1
      · have t2 : (q.op == 1) = true := by simpa using e2
        have hfn : flatL 3 (l.take (k + 1)) [] = some acc := by rw [HS.out, if_neg e1, if_pos e2]
        have HFN := Lib.hid hfn
        clear hfn e1 e2 hxq
        go_wp2_with fail
        go_roundw
        case rel => exact ⟨k + 1, A', m, c', acc, by omega, by go_num, rfl, HFN, HO1.out, HX1, B1⟩
        case measure => simp [intOf]; omega
      have t2 : (q.op == 1) = false := by simpa using e2
      by_cases e3 : q.op = 2
      · have t3 : (q.op == 2) = true := by simpa using e3
        have hfn : flatL 3 l [] = none := flat_gone (k := k + 1) (by rw [HS.out, if_neg e1, if_neg e2, if_pos e3])
        have HR := Lib.hid (HJ0.out hfn)
        have HE3 := Lib.hid e3
        obtain ⟨r0, r1, r2, r3, r4, r5⟩ := res_facts HX1.out
        obtain ⟨z0, z1, z2, z3⟩ := box_facts hxq
        have hz := set4 HX1.out (.int .i64 q.op) (.int .i64 0) (.string ⟨#[]⟩) (.slice none 0 0)
        have HZ := Lib.hid (res_facts hz)
        simp only [qV] at r0 r1 r2 r3 r4 r5 z0 z1 z2 z3 HZ
        clear hfn e1 e2 e3 hxq hz
        go_wp2_with fail
        (with_reducible refine (HO.out _).mono ?_)
        rintro e w2 ⟨rfl, rfl⟩
        go_wp2_with fail
        obtain ⟨y0, y1, y2, y3, -, -⟩ := HZ.out
        exact bodyPost_ret (v := .agg #[.int .i64 q.op, .int .i64 0, .string ⟨#[]⟩, .slice none 0 0]) (by simp [results, Try.results41, go_sem, y0, y1, y2, y3]) rfl ⟨_, rfl, by rw [HR.out, HE3.out]; exact QAt.leaf (s := []) (i64P_lit (by omega)) (i64P_lit (by omega)) (by simp), bel4 B1 (Nat.le_refl _) _ _ _ _⟩
      have t3 : (q.op == 2) = false := by simpa using e3
      have hfn : flatL 3 (l.take (k + 1)) [] = some (acc ++ [q]) := by rw [HS.out, if_neg e1, if_neg e2, if_neg e3]
      have hle := HLE.out _ hfn
      rw [List.length_append, HM.out] at hle
      simp at hle
      have HFN := Lib.hid hfn
      have hlit := hsrc.out.lit' (g := wr.heap.size + 1) (by simp)
      have ho3 := HO1.out.bel (bel_alloc (Below.refl _ _) (.cells (qV q.op q.n q.s B q.kids.length cq) 24))
      have hbase : w.heap.size + 1 ≤ ((wr.alloc (.cells (qV q.op q.n q.s B q.kids.length cq) 24)).alloc (.cells (qV q.op q.n q.s B q.kids.length cq) 24)).heap.size := by simp; omega
      obtain ⟨z0, z1, z2, z3⟩ := box_facts hxq
      clear hfn e1 e2 e3 hxq
      simp only [qV] at ho3 hlit hbase z0 z1 z2 z3
      go_wp2_with (first | (go_at_call 42; refine (HO.out _).mono ?_; rintro e w2 ⟨rfl, rfl⟩) | (at_builtin; go_loud (refine wpList_appQ rfl rfl rfl ho3 rfl hlit (by omega) hbase ?_; intro A'' c'' w3 ho4 hb4)))
      have B4 := (bel_alloc B1 (.cells (qV q.op q.n q.s B q.kids.length cq) 24)).trans (hb4.mono (by omega))
      have hx3 := Lib.hid ((HX1.out.alloc (.cells (qV q.op q.n q.s B q.kids.length cq) 24)).below hb4 (by omega))
      go_roundw
      case rel => exact ⟨k + 1, A'', m + 1, c'', acc ++ [q], by omega, by go_num, rfl, HFN, ho4, hx3, B4⟩
      case measure => simp [intOf]; omega
    · obtain rfl : k = n := by omega
      have hlt' : decide (k < k) = false := by simp
      have hfl2 : flatL 3 l [] = some acc := by have := hfl.out; rwa [List.take_of_length_le (by have := HLN.out; omega)] at this
      have hR := HJ1.out acc hfl2
      have hm := flat_len 3 l [] acc hfl2
      have HNK := Lib.hid (flat_nk (by omega) HNF.out hfl2)
      have hml : (onceL acc []).length ≤ acc.length := by have := once_len acc []; simpa using this
      have hm9 : m ≤ 100000 := by have := HNOD.out; have := HM.out; simp at hm; omega
      have HON := Lib.hid (once25_any acc A' m c' wr (fun b => (S b ∧ b < w.heap.size) ∨ w.heap.size + 1 ≤ b) (by omega) hcap (ho.qs (fun b h _ => .inl h) (fun b h _ => .inr (by omega))))
      have hfl9 : (onceL acc []).length ≤ 100000 := by have := HM.out; omega
      generalize onceL acc [] = f at *
      have HR := Lib.hid hR
      have HF9 := Lib.hid hfl9
      have hsb := hb.size
      have hwo := hx.out.lt
      obtain ⟨hcap1, hcap2⟩ := hcap
      clear hfl2 hR hm hml hfl9 ho hfl
      go_wp2_with fail
      (with_reducible refine (HON.out).mono ?_)
      rintro e w1 ⟨A2, m2, c2, rfl, ho2, hb2⟩
      have B2 := bel_step hb hb2
      have hx2 := Lib.hid (hx.out.below hb2 hx.out.lt)
      have HL2 := Lib.hid ho2.len
      have hm2 : m2 ≤ 100000 := by have := HF9.out; have := HL2.out; omega
      have hcap2' := ho2.cap
      obtain ⟨hcc1, hcc2⟩ := hcap2'
      clear hx
      go_wp2_with fail
      obtain ⟨wo, rfl⟩ : ∃ wo : World, wo = wr := ⟨_, rfl⟩
      go_loopw [47] (fun i wv => ∃ (k : Nat), k ≤ m2 ∧ i = .int .i64 k ∧ Hid (clashU f k = false) ∧ Oq wv wo.heap.size (fun b => ((S b ∧ b < w.heap.size) ∨ w.heap.size + 1 ≤ b) ∧ b < wo.heap.size) A2 m2 c2 f ∧ Hid (Blk wv w.heap.size 24 #[.int .i64 0, .int .i64 0, .string ⟨#[]⟩, .slice none 0 0]) ∧ Below w.heap.size w wv) (fun i _ => m2 - (intOf i).toNat)
      case atStart => exact ⟨0, Nat.zero_le _, rfl, Lib.hid (by simp [clashU]), ho2, hx2, B2⟩
      case round =>
        obtain ⟨k, hkm, rfl, hcl, ho3, hx3, hb3⟩ := hrel
        have hqs := ho3.qs (S' := fun b => (S b ∧ b < w.heap.size) ∨ w.heap.size + 1 ≤ b) (fun b h _ => h.1) (fun b h _ => .inr (by omega))
        by_cases hlt : k < m2
        · have hlt' : decide (k < m2) = true := by simpa using hlt
          obtain ⟨q, B, cq, b, off, hg, rfl, -, hbs, hq', g1, g2, g3, g4, g5, f0, f1, f2, f3⟩ := hqs.at hlt
          have HC1 := Lib.hid (clashU_succ hg.out hcl.out)
          have HNQ := Lib.hid (HNK.out q (List.mem_of_getElem? hg.out))
          have E0 := bel_alloc (Below.refl wr.heap.size wr) (.cells (qV q.op q.n q.s B q.kids.length cq) 24)
          have B1 := bel_step hb3 E0
          have HO3 := Lib.hid (ho3.bel E0)
          have HX3 := Lib.hid (hx3.out.below E0 hx3.out.lt)
          have hxq := Blk.new wr 24 (qV q.op q.n q.s B q.kids.length cq)
          have HQ1 := Lib.hid (hq'.out.bel E0)
          have HQS := Lib.hid (hqs.bel E0)
          have HXQ := Lib.hid hxq
          obtain ⟨z0, z1, z2, z3⟩ := box_facts hxq
          clear ho3 hx3 hxq hq' hqs
          simp only [qV] at E0 B1 z0 z1 z2 z3
          by_cases h2 : q.kids.length < 2
          case neg =>
            have d2 : decide (q.kids.length < 2) = false := by simpa using h2
            have d3 : decide ((q.kids.length : Int) < 2) = false := by simp; omega
            have HCF : Hid (clashU f (k + 1) = false) := Lib.hid (by rw [HC1.out, decide_eq_false h2, Bool.false_and])
            clear h2
            go_wp2_with fail
            go_roundw
            case rel => exact ⟨k + 1, by omega, by go_num, HCF, HO3.out, HX3, B1⟩
            case measure => simp [intOf]; omega
          have d2 : decide (q.kids.length < 2) = true := by simpa using h2
          have d3 : decide ((q.kids.length : Int) < 2) = true := by simp; omega
          have HCF : Hid (clashU f (k + 1) = f.any fun y => samQ y (oppQ q) 1) := Lib.hid (by rw [HC1.out, decide_eq_true h2, Bool.true_and])
          have HC := Lib.hid (contains_join (fun y => samQ y (oppQ q) 1) (fun W => Blk W wr.heap.size 24 (qV q.op q.n q.s B q.kids.length cq) ∧ QAt W (fun b => (S b ∧ b < w.heap.size) ∨ w.heap.size + 1 ≤ b) (qV q.op q.n q.s B q.kids.length cq) q) wr.heap.size
            (fun W W' ⟨i1, i2⟩ hb => ⟨i1.below hb i1.lt, i2.bel hb⟩) f (fun y _ vs W S2 ⟨i1, i2⟩ hy => join1_any q y _ _ vs W _ S2 i1 i2 HNQ.out hy) (some ⟨b, off, none⟩) m2 c2 _ (fun b => (S b ∧ b < w.heap.size) ∨ w.heap.size + 1 ≤ b) ⟨hcc1, hcc2⟩ HQS.out ⟨HXQ.out, HQ1.out⟩)
          have HCY := Lib.hid (fun h => clashU_yes (f := f) (k := k + 1) h)
          clear h2 HC1
          simp only [qV] at HC
          generalize (f.any fun y => samQ y (oppQ q) 1) = bb at *
          go_wp2_with fail
          (with_reducible refine (HC.out).mono ?_)
          rintro e w5 ⟨rfl, hb5⟩
          have B5 := bel_step B1 hb5
          have HO5 := Lib.hid (HO3.out.bel hb5)
          have HX5 := Lib.hid (HX3.out.below hb5 HX3.out.lt)
          cases bb with
          | false =>
            clear z0 z1 z2 z3
            go_wp2_with fail
            go_roundw
            case rel => exact ⟨k + 1, by omega, by go_num, HCF, HO5.out, HX5, B5⟩
            case measure => simp [intOf]; omega
          | true =>
            have HRR : Hid (R = leafO 2) := Lib.hid (by rw [HR.out, if_pos (HCY.out HCF.out)])
            obtain ⟨r0, r1, r2, r3, r4, r5⟩ := res_facts HX5.out
            have hz := set4 HX5.out (.int .i64 2) (.int .i64 0) (.string ⟨#[]⟩) (.slice none 0 0)
            have HZ := Lib.hid (res_facts hz)
            clear hz z0 z1 z2 z3
            go_wp2_with fail
            (with_reducible refine (HO.out _).mono ?_)
            rintro e w6 ⟨rfl, rfl⟩
            go_wp2_with fail
            obtain ⟨y0, y1, y2, y3, -, -⟩ := HZ.out
            exact bodyPost_ret (v := .agg #[.int .i64 2, .int .i64 0, .string ⟨#[]⟩, .slice none 0 0]) (by simp [results, Try.results41, go_sem, y0, y1, y2, y3]) rfl ⟨_, rfl, by rw [HRR.out]; exact QAt.leaf (s := []) (i64P_lit (by omega)) (i64P_lit (by omega)) (by simp), bel4 B5 (Nat.le_refl _) _ _ _ _⟩
        · obtain rfl : k = m2 := by omega
          have hlt' : decide (k < k) = false := by simp
          have hnc : clashB f = false := by have := hcl.out; rwa [clashU_all (by have := HL2.out; omega)] at this
          have HRE : Hid (R = endQ 3 f) := Lib.hid (by rw [HR.out, hnc]; rfl)
          obtain ⟨r0, r1, r2, r3, r4, r5⟩ := res_facts hx3.out
          have HX3 := Lib.hid hx3.out
          have HQS := Lib.hid hqs
          have HO3 := Lib.hid ho3
          clear hnc hqs hcl ho3 ho2
          by_cases hk0 : k = 0
          · subst hk0
            have hf : f = [] := List.eq_nil_of_length_eq_zero HL2.out
            have HRR : Hid (R = leafO 1) := Lib.hid (by rw [HRE.out, hf]; rfl)
            have hz := set4 HX3.out (.int .i64 1) (.int .i64 0) (.string ⟨#[]⟩) (.slice none 0 0)
            have HZ := Lib.hid (res_facts hz)
            clear hz hf
            go_wp2_with fail
            obtain ⟨y0, y1, y2, y3, -, -⟩ := HZ.out
            exact bodyPost_ret (v := .agg #[.int .i64 1, .int .i64 0, .string ⟨#[]⟩, .slice none 0 0]) (by simp [results, Try.results41, go_sem, y0, y1, y2, y3]) rfl ⟨_, rfl, by rw [HRR.out]; exact QAt.leaf (s := []) (i64P_lit (by omega)) (i64P_lit (by omega)) (by simp), bel4 hb3 (Nat.le_refl _) _ _ _ _⟩
          have hk0' : (k == 0) = false := by simpa using hk0
          by_cases hk1 : k = 1
          · subst hk1
            obtain ⟨q, B, cq, b, off, hg, rfl, -, hbs, hq', g1, g2, g3, g4, g5, f0, f1, f2, f3⟩ := HQS.out.at (show 0 < 1 by omega)
            have hf : f = [q] := by
              have := HL2.out
              match f, this with
              | [x], _ => simpa using hg.out
            have HRR : Hid (R = q) := Lib.hid (by rw [HRE.out, hf]; rfl)
            rw [Nat.zero_mul, Nat.add_zero] at f0 f1 f2 f3
            have hz := set4 HX3.out (.int .i64 q.op) (.int .i64 q.n) (.string ⟨q.s.toArray⟩) (.slice B q.kids.length cq)
            have HZ := Lib.hid (res_facts hz)
            have HQ1 := Lib.hid hq'.out
            clear hz hf hq'
            go_wp2_with fail
            obtain ⟨y0, y1, y2, y3, -, -⟩ := HZ.out
            refine bodyPost_ret (v := .agg #[.int .i64 q.op, .int .i64 q.n, .string ⟨q.s.toArray⟩, .slice B q.kids.length cq]) (by simp [results, Try.results41, go_sem, y0, y1, y2, y3]) rfl ⟨_, rfl, ?_, bel4 hb3 (Nat.le_refl _) _ _ _ _⟩
            rw [HRR.out]
            exact (HQ1.out.set4 (by omega) _ _ _ _).wide (fun b h _ => h.elim (fun h => .inl h.1) (fun h => .inr (by omega)))
          have hk1' : (k == 1) = false := by simpa using hk1
          have HRR : Hid (R = ⟨3, 0, [], f⟩) := Lib.hid (by rw [HRE.out]; exact end_many (by have := HL2.out; omega))
          have hz := set4 HX3.out (.int .i64 3) (.int .i64 0) (.string ⟨#[]⟩) (.slice A2 k c2)
          have HZ := Lib.hid (res_facts hz)
          clear hz
          go_wp2_with fail
          obtain ⟨y0, y1, y2, y3, -, -⟩ := HZ.out
          refine bodyPost_ret (v := .agg #[.int .i64 3, .int .i64 0, .string ⟨#[]⟩, .slice A2 k c2]) (by simp [results, Try.results41, go_sem, y0, y1, y2, y3]) rfl ⟨_, rfl, ?_, bel4 hb3 (Nat.le_refl _) _ _ _ _⟩
          rw [HRR.out]
          refine QAt.make (s := []) (i64P_lit (by omega)) (i64P_lit (by omega)) (by simp) ⟨hcc1, hcc2⟩ ?_
          exact (HQS.out.set4 (by omega) _ _ _ _).wide (fun b h _ => h.elim (fun h => .inl h.1) (fun h => .inr (by omega)))

set_option maxHeartbeats 8000000 in
theorem join25_4 (l : List Qy) (A : Option Addr) (n c : Nat) (w : World) (S : Nat → Prop) (hc : n ≤ c ∧ c ≤ 9223372036854775807) (hk : QsAt w S A n l) (hNF : ∀ k ∈ l, NF k) (hnod : nodL l 0 ≤ 100000) :
    Calls Try.prog 41 #[.int .i64 4, .slice A n c] w (RetQ w S (joinQ 4 l)) := by
  have B0 := bel_alloc (Below.refl w.heap.size w) (.cells #[.int .i64 0, .int .i64 0, .string ⟨#[]⟩, .slice none 0 0] 24)
  have X0 := Blk.new w 24 #[.int .i64 0, .int .i64 0, .string ⟨#[]⟩, .slice none 0 0]
  have HLN := Lib.hid hk.1
  have HK := Lib.hid (show QsAt w (fun b => S b ∧ b < w.heap.size) A n l from hk.wide fun b h hlt => ⟨h, hlt⟩)
  have HNF := Lib.hid hNF
  have HNOD := Lib.hid hnod
  have HO := Lib.hid (fun W => other25_any 2 W)
  rw [show otherO 2 = 1 from rfl] at HO
  have HJ0 : Hid (flatL 4 l [] = none → joinQ 4 l = leafO 1) := Lib.hid (fun h => by unfold joinQ; rw [h]; rfl)
  have HJ1 : Hid (∀ f, flatL 4 l [] = some f → joinQ 4 l = if clashB (onceL f []) then leafO 1 else endQ 4 (onceL f [])) := Lib.hid (fun f h => by unfold joinQ; rw [h]; rfl)
  obtain ⟨hc1, hc2⟩ := hc
  clear hk hNF hnod
  generalize joinQ 4 l = R at *
  go_enter Try.func41, Try.ntmps41
  go_wp2_with fail
  go_loopw [6, 15] (fun v i wr => ∃ (k : Nat) (A' : Option Addr) (m c' : Nat) (acc : List Qy), k ≤ n ∧ i = .int .i64 k ∧ v = .slice A' m c' ∧ Hid (flatL 4 (l.take k) [] = some acc) ∧ Oq wr (w.heap.size + 1) (fun b => S b ∧ b < w.heap.size) A' m c' acc ∧ Hid (Blk wr w.heap.size 24 #[.int .i64 0, .int .i64 0, .string ⟨#[]⟩, .slice none 0 0]) ∧ Below w.heap.size w wr) (fun _ i _ => n - (intOf i).toNat)
  case atStart => exact ⟨0, none, 0, 0, [], Nat.zero_le _, rfl, rfl, Lib.hid rfl, Oq.nil, Lib.hid X0, B0⟩
  case round =>
    obtain ⟨k, A', m, c', acc, hkn, rfl, rfl, hfl, ho, hx, hb⟩ := hrel
    have hcap := ho.cap
    have HM := Lib.hid ho.len
    by_cases hlt : k < n
    · have hlt' : decide (k < n) = true := by simpa using hlt
      obtain ⟨q, B, cq, b, off, hg, rfl, -, hbs, hq', g1, g2, g3, g4, g5, f0, f1, f2, f3⟩ := (HK.out.bel hb).at hlt
      have hsn : flatL 4 (l.take (k + 1)) [] = if q.op = 4 then some (acc ++ q.kids) else if q.op = 2 then some acc else if q.op = 1 then none else some (acc ++ [q]) := by
        rw [List.take_add_one, hg.out]
        show flatL 4 (l.take k ++ [q]) [] = _
        rw [flat_append, hfl.out]
        rfl
      have hlen : ∀ r, flatL 4 (l.take (k + 1)) [] = some r → r.length ≤ 100000 := fun r hr => by
        have h1 := flat_len 4 _ _ r hr
        have h2 := nodL_take l 0 (k + 1)
        have := HNOD.out
        simp at h1
        omega
      have HS := Lib.hid hsn
      have HLE := Lib.hid hlen
      have E0 := bel_alloc (Below.refl wr.heap.size wr) (.cells (qV q.op q.n q.s B q.kids.length cq) 24)
      have HO1 := Lib.hid (ho.bel E0)
      have HX1 := Lib.hid (hx.out.below E0 hx.out.lt)
      have hxq := Blk.new wr 24 (qV q.op q.n q.s B q.kids.length cq)
      have HQ1 := Lib.hid (hq'.out.bel E0)
      have B1 := bel_step hb E0
      have hbs2 := hb.size
      obtain ⟨hcap1, hcap2⟩ := hcap
      have hsrc := Lib.hid (HQ1.out.wide (S' := fun b => (S b ∧ b < w.heap.size) ∧ some b ≠ (Value.slice A' m c').ownBlock) (fun b hb _ => ⟨hb, fun e => by have := (HO1.out.lt b e.symm).1; omega⟩))
      clear hsn hlen ho hx hq'
      simp only [qV] at E0 B1
      by_cases e1 : q.op = 4
      · have t1 : (q.op == 4) = true := by simpa using e1
        have hkr := hsrc.out.kidsAt.r (S' := fun b => (S b ∧ b < w.heap.size) ∧ some b ≠ (Value.slice A' m c').ownBlock) (fun b h _ => h)
        have hfn : flatL 4 (l.take (k + 1)) [] = some (acc ++ q.kids) := by rw [HS.out, if_pos e1]
        have hle := HLE.out _ hfn
        rw [List.length_append, HM.out] at hle
        have ho3 := HO1.out
        have HFN := Lib.hid hfn
        have hbase : w.heap.size + 1 ≤ (wr.alloc (.cells (qV q.op q.n q.s B q.kids.length cq) 24)).heap.size := by simp; omega
        clear hfn e1
        simp only [qV] at ho3 hkr hbase
        go_wp2_with (at_builtin; refine wpList_appQ rfl rfl rfl ho3 rfl hkr (by omega) hbase ?_; intro A'' c'' w3 ho4 hb4)
        have B4 := B1.trans (hb4.mono (by omega))
        have hx3 := Lib.hid (HX1.out.below hb4 (by omega))
        go_roundw
        case rel => exact ⟨k + 1, A'', m + q.kids.length, c'', acc ++ q.kids, by omega, by go_num, rfl, HFN, ho4, hx3, B4⟩
        case measure => simp [intOf]; omega
      have t1 : (q.op == 4) = false := by simpa using e1
      by_cases e2 : q.op = 2
      · have t2 : (q.op == 2) = true := by simpa using e2
        have hfn : flatL 4 (l.take (k + 1)) [] = some acc := by rw [HS.out, if_neg e1, if_pos e2]
        have HFN := Lib.hid hfn
        clear hfn e1 e2 hxq
        go_wp2_with fail
        go_roundw
        case rel => exact ⟨k + 1, A', m, c', acc, by omega, by go_num, rfl, HFN, HO1.out, HX1, B1⟩
        case measure => simp [intOf]; omega
      have t2 : (q.op == 2) = false := by simpa using e2
      by_cases e3 : q.op = 1
      · have t3 : (q.op == 1) = true := by simpa using e3
        have hfn : flatL 4 l [] = none := flat_gone (k := k + 1) (by rw [HS.out, if_neg e1, if_neg e2, if_pos e3])
        have HR := Lib.hid (HJ0.out hfn)
        have HE3 := Lib.hid e3
        obtain ⟨r0, r1, r2, r3, r4, r5⟩ := res_facts HX1.out
        obtain ⟨z0, z1, z2, z3⟩ := box_facts hxq
        have hz := set4 HX1.out (.int .i64 q.op) (.int .i64 0) (.string ⟨#[]⟩) (.slice none 0 0)
        have HZ := Lib.hid (res_facts hz)
        simp only [qV] at r0 r1 r2 r3 r4 r5 z0 z1 z2 z3 HZ
        clear hfn e1 e2 e3 hxq hz
        go_wp2_with fail
        (with_reducible refine (HO.out _).mono ?_)
        rintro e w2 ⟨rfl, rfl⟩
        go_wp2_with fail
        obtain ⟨y0, y1, y2, y3, -, -⟩ := HZ.out
        exact bodyPost_ret (v := .agg #[.int .i64 q.op, .int .i64 0, .string ⟨#[]⟩, .slice none 0 0]) (by simp [results, Try.results41, go_sem, y0, y1, y2, y3]) rfl ⟨_, rfl, by rw [HR.out, HE3.out]; exact QAt.leaf (s := []) (i64P_lit (by omega)) (i64P_lit (by omega)) (by simp), bel4 B1 (Nat.le_refl _) _ _ _ _⟩
      have t3 : (q.op == 1) = false := by simpa using e3
      have hfn : flatL 4 (l.take (k + 1)) [] = some (acc ++ [q]) := by rw [HS.out, if_neg e1, if_neg e2, if_neg e3]
      have hle := HLE.out _ hfn
      rw [List.length_append, HM.out] at hle
      simp at hle
      have HFN := Lib.hid hfn
      have hlit := hsrc.out.lit' (g := wr.heap.size + 1) (by simp)
      have ho3 := HO1.out.bel (bel_alloc (Below.refl _ _) (.cells (qV q.op q.n q.s B q.kids.length cq) 24))
      have hbase : w.heap.size + 1 ≤ ((wr.alloc (.cells (qV q.op q.n q.s B q.kids.length cq) 24)).alloc (.cells (qV q.op q.n q.s B q.kids.length cq) 24)).heap.size := by simp; omega
      obtain ⟨z0, z1, z2, z3⟩ := box_facts hxq
      clear hfn e1 e2 e3 hxq
      simp only [qV] at ho3 hlit hbase z0 z1 z2 z3
      go_wp2_with (first | (go_at_call 42; refine (HO.out _).mono ?_; rintro e w2 ⟨rfl, rfl⟩) | (at_builtin; go_loud (refine wpList_appQ rfl rfl rfl ho3 rfl hlit (by omega) hbase ?_; intro A'' c'' w3 ho4 hb4)))
      have B4 := (bel_alloc B1 (.cells (qV q.op q.n q.s B q.kids.length cq) 24)).trans (hb4.mono (by omega))
      have hx3 := Lib.hid ((HX1.out.alloc (.cells (qV q.op q.n q.s B q.kids.length cq) 24)).below hb4 (by omega))
      go_roundw
      case rel => exact ⟨k + 1, A'', m + 1, c'', acc ++ [q], by omega, by go_num, rfl, HFN, ho4, hx3, B4⟩
      case measure => simp [intOf]; omega
    · obtain rfl : k = n := by omega
      have hlt' : decide (k < k) = false := by simp
      have hfl2 : flatL 4 l [] = some acc := by have := hfl.out; rwa [List.take_of_length_le (by have := HLN.out; omega)] at this
      have hR := HJ1.out acc hfl2
      have hm := flat_len 4 l [] acc hfl2
      have HNK := Lib.hid (flat_nk (by omega) HNF.out hfl2)
      have hml : (onceL acc []).length ≤ acc.length := by have := once_len acc []; simpa using this
      have hm9 : m ≤ 100000 := by have := HNOD.out; have := HM.out; simp at hm; omega
      have HON := Lib.hid (once25_any acc A' m c' wr (fun b => (S b ∧ b < w.heap.size) ∨ w.heap.size + 1 ≤ b) (by omega) hcap (ho.qs (fun b h _ => .inl h) (fun b h _ => .inr (by omega))))
      have hfl9 : (onceL acc []).length ≤ 100000 := by have := HM.out; omega
      generalize onceL acc [] = f at *
      have HR := Lib.hid hR
      have HF9 := Lib.hid hfl9
      have hsb := hb.size
      have hwo := hx.out.lt
      obtain ⟨hcap1, hcap2⟩ := hcap
      clear hfl2 hR hm hml hfl9 ho hfl
      go_wp2_with fail
      (with_reducible refine (HON.out).mono ?_)
      rintro e w1 ⟨A2, m2, c2, rfl, ho2, hb2⟩
      have B2 := bel_step hb hb2
      have hx2 := Lib.hid (hx.out.below hb2 hx.out.lt)
      have HL2 := Lib.hid ho2.len
      have hm2 : m2 ≤ 100000 := by have := HF9.out; have := HL2.out; omega
      have hcap2' := ho2.cap
      obtain ⟨hcc1, hcc2⟩ := hcap2'
      clear hx
      go_wp2_with fail
      obtain ⟨wo, rfl⟩ : ∃ wo : World, wo = wr := ⟨_, rfl⟩
      go_loopw [47] (fun i wv => ∃ (k : Nat), k ≤ m2 ∧ i = .int .i64 k ∧ Hid (clashU f k = false) ∧ Oq wv wo.heap.size (fun b => ((S b ∧ b < w.heap.size) ∨ w.heap.size + 1 ≤ b) ∧ b < wo.heap.size) A2 m2 c2 f ∧ Hid (Blk wv w.heap.size 24 #[.int .i64 0, .int .i64 0, .string ⟨#[]⟩, .slice none 0 0]) ∧ Below w.heap.size w wv) (fun i _ => m2 - (intOf i).toNat)
      case atStart => exact ⟨0, Nat.zero_le _, rfl, Lib.hid (by simp [clashU]), ho2, hx2, B2⟩
      case round =>
        obtain ⟨k, hkm, rfl, hcl, ho3, hx3, hb3⟩ := hrel
        have hqs := ho3.qs (S' := fun b => (S b ∧ b < w.heap.size) ∨ w.heap.size + 1 ≤ b) (fun b h _ => h.1) (fun b h _ => .inr (by omega))
        by_cases hlt : k < m2
        · have hlt' : decide (k < m2) = true := by simpa using hlt
          obtain ⟨q, B, cq, b, off, hg, rfl, -, hbs, hq', g1, g2, g3, g4, g5, f0, f1, f2, f3⟩ := hqs.at hlt
          have HC1 := Lib.hid (clashU_succ hg.out hcl.out)
          have HNQ := Lib.hid (HNK.out q (List.mem_of_getElem? hg.out))
          have E0 := bel_alloc (Below.refl wr.heap.size wr) (.cells (qV q.op q.n q.s B q.kids.length cq) 24)
          have B1 := bel_step hb3 E0
          have HO3 := Lib.hid (ho3.bel E0)
          have HX3 := Lib.hid (hx3.out.below E0 hx3.out.lt)
          have hxq := Blk.new wr 24 (qV q.op q.n q.s B q.kids.length cq)
          have HQ1 := Lib.hid (hq'.out.bel E0)
          have HQS := Lib.hid (hqs.bel E0)
          have HXQ := Lib.hid hxq
          obtain ⟨z0, z1, z2, z3⟩ := box_facts hxq
          clear ho3 hx3 hxq hq' hqs
          simp only [qV] at E0 B1 z0 z1 z2 z3
          by_cases h2 : q.kids.length < 2
          case neg =>
            have d2 : decide (q.kids.length < 2) = false := by simpa using h2
            have d3 : decide ((q.kids.length : Int) < 2) = false := by simp; omega
            have HCF : Hid (clashU f (k + 1) = false) := Lib.hid (by rw [HC1.out, decide_eq_false h2, Bool.false_and])
            clear h2
            go_wp2_with fail
            go_roundw
            case rel => exact ⟨k + 1, by omega, by go_num, HCF, HO3.out, HX3, B1⟩
            case measure => simp [intOf]; omega
          have d2 : decide (q.kids.length < 2) = true := by simpa using h2
          have d3 : decide ((q.kids.length : Int) < 2) = true := by simp; omega
          have HCF : Hid (clashU f (k + 1) = f.any fun y => samQ y (oppQ q) 1) := Lib.hid (by rw [HC1.out, decide_eq_true h2, Bool.true_and])
          have HC := Lib.hid (contains_join (fun y => samQ y (oppQ q) 1) (fun W => Blk W wr.heap.size 24 (qV q.op q.n q.s B q.kids.length cq) ∧ QAt W (fun b => (S b ∧ b < w.heap.size) ∨ w.heap.size + 1 ≤ b) (qV q.op q.n q.s B q.kids.length cq) q) wr.heap.size
            (fun W W' ⟨i1, i2⟩ hb => ⟨i1.below hb i1.lt, i2.bel hb⟩) f (fun y _ vs W S2 ⟨i1, i2⟩ hy => join1_any q y _ _ vs W _ S2 i1 i2 HNQ.out hy) (some ⟨b, off, none⟩) m2 c2 _ (fun b => (S b ∧ b < w.heap.size) ∨ w.heap.size + 1 ≤ b) ⟨hcc1, hcc2⟩ HQS.out ⟨HXQ.out, HQ1.out⟩)
          have HCY := Lib.hid (fun h => clashU_yes (f := f) (k := k + 1) h)
          clear h2 HC1
          simp only [qV] at HC
          generalize (f.any fun y => samQ y (oppQ q) 1) = bb at *
          go_wp2_with fail
          (with_reducible refine (HC.out).mono ?_)
          rintro e w5 ⟨rfl, hb5⟩
          have B5 := bel_step B1 hb5
          have HO5 := Lib.hid (HO3.out.bel hb5)
          have HX5 := Lib.hid (HX3.out.below hb5 HX3.out.lt)
          cases bb with
          | false =>
            clear z0 z1 z2 z3
            go_wp2_with fail
            go_roundw
            case rel => exact ⟨k + 1, by omega, by go_num, HCF, HO5.out, HX5, B5⟩
            case measure => simp [intOf]; omega
          | true =>
            have HRR : Hid (R = leafO 1) := Lib.hid (by rw [HR.out, if_pos (HCY.out HCF.out)])
            obtain ⟨r0, r1, r2, r3, r4, r5⟩ := res_facts HX5.out
            have hz := set4 HX5.out (.int .i64 1) (.int .i64 0) (.string ⟨#[]⟩) (.slice none 0 0)
            have HZ := Lib.hid (res_facts hz)
            clear hz z0 z1 z2 z3
            go_wp2_with fail
            (with_reducible refine (HO.out _).mono ?_)
            rintro e w6 ⟨rfl, rfl⟩
            go_wp2_with fail
            obtain ⟨y0, y1, y2, y3, -, -⟩ := HZ.out
            exact bodyPost_ret (v := .agg #[.int .i64 1, .int .i64 0, .string ⟨#[]⟩, .slice none 0 0]) (by simp [results, Try.results41, go_sem, y0, y1, y2, y3]) rfl ⟨_, rfl, by rw [HRR.out]; exact QAt.leaf (s := []) (i64P_lit (by omega)) (i64P_lit (by omega)) (by simp), bel4 B5 (Nat.le_refl _) _ _ _ _⟩
        · obtain rfl : k = m2 := by omega
          have hlt' : decide (k < k) = false := by simp
          have hnc : clashB f = false := by have := hcl.out; rwa [clashU_all (by have := HL2.out; omega)] at this
          have HRE : Hid (R = endQ 4 f) := Lib.hid (by rw [HR.out, hnc]; rfl)
          obtain ⟨r0, r1, r2, r3, r4, r5⟩ := res_facts hx3.out
          have HX3 := Lib.hid hx3.out
          have HQS := Lib.hid hqs
          have HO3 := Lib.hid ho3
          clear hnc hqs hcl ho3 ho2
          by_cases hk0 : k = 0
          · subst hk0
            have hf : f = [] := List.eq_nil_of_length_eq_zero HL2.out
            have HRR : Hid (R = leafO 2) := Lib.hid (by rw [HRE.out, hf]; rfl)
            have hz := set4 HX3.out (.int .i64 2) (.int .i64 0) (.string ⟨#[]⟩) (.slice none 0 0)
            have HZ := Lib.hid (res_facts hz)
            clear hz hf
            go_wp2_with fail
            obtain ⟨y0, y1, y2, y3, -, -⟩ := HZ.out
            exact bodyPost_ret (v := .agg #[.int .i64 2, .int .i64 0, .string ⟨#[]⟩, .slice none 0 0]) (by simp [results, Try.results41, go_sem, y0, y1, y2, y3]) rfl ⟨_, rfl, by rw [HRR.out]; exact QAt.leaf (s := []) (i64P_lit (by omega)) (i64P_lit (by omega)) (by simp), bel4 hb3 (Nat.le_refl _) _ _ _ _⟩
          have hk0' : (k == 0) = false := by simpa using hk0
          by_cases hk1 : k = 1
          · subst hk1
            obtain ⟨q, B, cq, b, off, hg, rfl, -, hbs, hq', g1, g2, g3, g4, g5, f0, f1, f2, f3⟩ := HQS.out.at (show 0 < 1 by omega)
            have hf : f = [q] := by
              have := HL2.out
              match f, this with
              | [x], _ => simpa using hg.out
            have HRR : Hid (R = q) := Lib.hid (by rw [HRE.out, hf]; rfl)
            rw [Nat.zero_mul, Nat.add_zero] at f0 f1 f2 f3
            have hz := set4 HX3.out (.int .i64 q.op) (.int .i64 q.n) (.string ⟨q.s.toArray⟩) (.slice B q.kids.length cq)
            have HZ := Lib.hid (res_facts hz)
            have HQ1 := Lib.hid hq'.out
            clear hz hf hq'
            go_wp2_with fail
            obtain ⟨y0, y1, y2, y3, -, -⟩ := HZ.out
            refine bodyPost_ret (v := .agg #[.int .i64 q.op, .int .i64 q.n, .string ⟨q.s.toArray⟩, .slice B q.kids.length cq]) (by simp [results, Try.results41, go_sem, y0, y1, y2, y3]) rfl ⟨_, rfl, ?_, bel4 hb3 (Nat.le_refl _) _ _ _ _⟩
            rw [HRR.out]
            exact (HQ1.out.set4 (by omega) _ _ _ _).wide (fun b h _ => h.elim (fun h => .inl h.1) (fun h => .inr (by omega)))
          have hk1' : (k == 1) = false := by simpa using hk1
          have HRR : Hid (R = ⟨4, 0, [], f⟩) := Lib.hid (by rw [HRE.out]; exact end_many (by have := HL2.out; omega))
          have hz := set4 HX3.out (.int .i64 4) (.int .i64 0) (.string ⟨#[]⟩) (.slice A2 k c2)
          have HZ := Lib.hid (res_facts hz)
          clear hz
          go_wp2_with fail
          obtain ⟨y0, y1, y2, y3, -, -⟩ := HZ.out
          refine bodyPost_ret (v := .agg #[.int .i64 4, .int .i64 0, .string ⟨#[]⟩, .slice A2 k c2]) (by simp [results, Try.results41, go_sem, y0, y1, y2, y3]) rfl ⟨_, rfl, ?_, bel4 hb3 (Nat.le_refl _) _ _ _ _⟩
          rw [HRR.out]
          refine QAt.make (s := []) (i64P_lit (by omega)) (i64P_lit (by omega)) (by simp) ⟨hcc1, hcc2⟩ ?_
          exact (HQS.out.set4 (by omega) _ _ _ _).wide (fun b h _ => h.elim (fun h => .inl h.1) (fun h => .inr (by omega)))
end Go.Proofs.Ytjnhhdkphcbflaa
