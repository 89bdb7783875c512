/-
  The normal form, as the code makes it.
-/
import Derived.Test.YtjnhhdkphcbflaaQtJ
namespace Go.Proofs.Ytjnhhdkphcbflaa
open Go.RowKit Go.Nst
set_option maxRecDepth 100000
set_option linter.unusedVariables false
set_option linter.unusedSimpArgs false

theorem nodL_append (a b : List Qy) (m : Nat) : nodL (a ++ b) m = nodL a m + nodL b 0 := by
  induction a generalizing m with
  | nil => simp only [List.nil_append, nodL]; exact nodL_add b m
  | cons x xs ih => simp only [List.cons_append, nodL]; exact ih _
theorem nodQ_kids (q : Qy) : nodQ q = 1 + nodL q.kids 0 := by
  obtain ⟨o, n, s, l⟩ := q
  simp only [nodQ, Qy.kids]; exact nodL_add l 1
theorem flat_nod (o : Int) : ∀ (l acc r : List Qy), flatL o l acc = some r → nodL r 0 ≤ nodL acc 0 + nodL l 0
  | [], acc, r, h => by simp only [flatL, Option.some.injEq] at h; subst h; simp [nodL]
  | x :: xs, acc, r, h => by
    have hx := nodQ_kids x
    have e : nodL (x :: xs) 0 = nodQ x + nodL xs 0 := by simp only [nodL]; rw [nodL_add]; omega
    have e1 : nodL [x] 0 = nodQ x := by simp [nodL]
    rw [e]
    simp only [flatL] at h
    split at h
    · have := flat_nod o xs _ r h; rw [nodL_append] at this; omega
    · split at h
      · have := flat_nod o xs _ r h; omega
      · split at h
        · cases h
        · have := flat_nod o xs _ r h; rw [nodL_append, e1] at this; omega
theorem once_nod : ∀ (l acc : List Qy), nodL (onceL l acc) 0 ≤ nodL acc 0 + nodL l 0
  | [], acc => by simp [onceL, nodL]
  | x :: xs, acc => by
    have e : nodL (x :: xs) 0 = nodQ x + nodL xs 0 := by simp only [nodL]; rw [nodL_add]; omega
    have e1 : nodL [x] 0 = nodQ x := by simp [nodL]
    simp only [onceL]
    rw [e]
    by_cases h : (acc.any fun y => samQ x y 1) = true
    · rw [if_pos h]; have := once_nod xs acc; omega
    · rw [if_neg h]; have := once_nod xs (acc ++ [x]); rw [nodL_append, e1] at this; omega
theorem nod_leaf (o : Int) : nodQ (leafO o) = 1 := by simp [leafO, nodQ, nodL]
theorem end_nod (o : Int) (l : List Qy) : nodQ (endQ o l) ≤ 1 + nodL l 0 := by
  match l with
  | [] => simp [endQ, nod_leaf, nodL]
  | [x] => rw [end_one]; simp [nodL]
  | a :: b :: t => rw [end_many (by simp)]; simp only [nodQ]; rw [nodL_add]; exact Nat.le_refl _
theorem join_nod (o : Int) (l : List Qy) : nodQ (joinQ o l) ≤ 1 + nodL l 0 := by
  unfold joinQ
  split
  · rw [nod_leaf]; omega
  · rename_i f hf
    have h1 := flat_nod o l [] f hf
    have h2 := once_nod f []
    have h3 := end_nod o (onceL f [])
    simp only [nodL] at h1 h2
    split
    · rw [nod_leaf]; omega
    · omega
theorem norm_nod (q : Qy) : Shp q → ∀ b, nodQ (normQ q b) ≤ 2 * nodQ q := by
  refine Qy.ind (p := fun q => Shp q → ∀ b, nodQ (normQ q b) ≤ 2 * nodQ q) ?_ q
  intro o n s l ih hs b
  have hp := nodQ_pos ⟨o, n, s, l⟩
  cases hs with
  | leaf h3 h4 h5 h12 =>
    simp only [normQ, if_neg h5, if_neg (show ¬ (o = 3 ∨ o = 4) by omega)]
    have e : nodQ ⟨o, n, s, []⟩ = 1 := by simp [nodQ, nodL]
    split
    · omega
    · split
      · rw [nod_leaf]; omega
      · rw [oppQ, if_neg (show ¬ (Qy.mk o n s []).op = 5 from h5), nodQ_kids]
        simp [notQ, Qy.kids, nodL, nodQ]
  | nt hk =>
    rename_i k
    have h1 := ih k (by simp) hk (!b)
    have e : nodQ ⟨5, 0, [], [k]⟩ = 1 + nodQ k := by simp [nodQ, nodL]
    simp only [normQ, normH, if_true]
    omega
  | many ho hl =>
    have h5 : o ≠ 5 := by omega
    simp only [normQ, if_neg h5, if_pos ho, normL_map]
    have hm : ∀ l : List Qy, (∀ k ∈ l, nodQ (normQ k b) ≤ 2 * nodQ k) → nodL (l.map fun k => normQ k b) 0 ≤ 2 * nodL l 0 := by
      intro l
      induction l with
      | nil => intro _; simp [nodL]
      | cons x xs ih2 =>
        intro h
        have h1 := h x (by simp)
        have h2 := ih2 fun k hk => h k (List.mem_cons_of_mem _ hk)
        simp only [List.map_cons, nodL]
        rw [nodL_add, nodL_add xs]; omega
    have h1 := join_nod (if b = true then otherO o else o) (l.map fun k => normQ k b)
    have h2 := hm l fun k hk => ih k hk (hl k hk) b
    have e : nodQ ⟨o, 0, [], l⟩ = 1 + nodL l 0 := nodQ_kids _
    omega
theorem join25_any {o : Int} (ho : o = 3 ∨ o = 4) (l : List Qy) (A : Option Addr) (n c : Nat) (w : World) (S : Nat → Prop) (hc : n ≤ c ∧ c ≤ 9223372036854775807) (hk : QsAt w S A n l) (hNF : ∀ k ∈ l, NF k) (hnod : nodL l 0 ≤ 100000) :
    Calls Try.prog 41 #[.int .i64 o, .slice A n c] w (RetQ w S (joinQ o l)) := by
  rcases ho with rfl | rfl
  · exact join25_3 l A n c w S hc hk hNF hnod
  · exact join25_4 l A n c w S hc hk hNF hnod
def normP (q : Qy) : Prop := Shp q → ∀ (b : Bool) (vs : Array Value) (w : World) (S : Nat → Prop), htQ q ≤ 50 → nodQ q ≤ 1000 → QAt w S vs q → Calls Try.prog 30 #[.agg vs, .bool b] w (RetQ w S (normQ q b))
set_option maxHeartbeats 8000000 in
theorem norm25_any (q : Qy) : normP q := by
  refine Qy.ind (p := normP) ?_ q
  intro o n s l ih hshp b vs w S hht hnd hq
  have HQ := Lib.hid hq
  have HNA := Lib.hid (norm_all ⟨o, n, s, l⟩ hshp b hht)
  obtain ⟨A, c, rfl, hio, hin, hs, hc1, hc2, hk⟩ := hq.open_
  simp only [Qy.op, Qy.n, Qy.s, Qy.kids] at *
  have B0 := bel_alloc (bel_alloc (Below.refl w.heap.size w) (.cells (qV o n s A l.length c) 24)) (.cells #[.int .i64 0, .int .i64 0, .string ⟨#[]⟩, .slice none 0 0] 24)
  have X0 := (Blk.new w 24 (qV o n s A l.length c)).alloc (.cells #[.int .i64 0, .int .i64 0, .string ⟨#[]⟩, .slice none 0 0] 24)
  have Y0 := Blk.new (w.alloc (.cells (qV o n s A l.length c) 24)) 24 #[.int .i64 0, .int .i64 0, .string ⟨#[]⟩, .slice none 0 0]
  rw [show (w.alloc (.cells (qV o n s A l.length c) 24)).heap.size = w.heap.size + 1 by simp] at Y0
  have hI := ih
  cases hshp with
  | nt hk5 =>
    rename_i k
    have hr : normQ ⟨5, 0, [], [k]⟩ b = normQ k (!b) := by simp only [normQ, normH, if_true]
    rw [hr] at HNA ⊢
    obtain ⟨q, B, cq, bb, off, hg, rfl, -, hbs, hq', g1, g2, g3, g4, g5, f0, f1, f2, f3⟩ := hk.at (show 0 < 1 by omega)
    have hkq : k = q := by simpa using hg.out
    subst hkq
    have hh := htQ_kid (o := 5) (n := 0) (s := []) (l := [k]) (k := k) (by simp)
    have hn1 : nodQ ⟨5, 0, [], [k]⟩ = 1 + nodQ k := by simp [nodQ, nodL]
    rw [Nat.zero_mul, Nat.add_zero] at f0 f1 f2 f3
    have HC := Lib.hid (hI k (by simp) hk5 (!b) _ _ _ (by omega) (by omega) ((hq'.out.wide (S' := fun b => S b ∧ b < w.heap.size) (fun b h lt => ⟨h, lt⟩)).bel B0))
    have HX := Lib.hid Y0
    clear ih hI HQ hg hq' X0 Y0 hq hr hh hn1 hk
    simp only [qV, List.length_cons, List.length_nil, Nat.zero_add] at *
    go_enter Try.func30, Try.ntmps30
    go_wp2_with fail
    (with_reducible refine (HC.out).mono ?_)
    rintro e w2 ⟨v2, rfl, hq2, hb2⟩
    have B2 := bel_step B0 hb2
    have HQ2 := Lib.hid hq2
    obtain ⟨A2, c2, rfl, -, -, -, -, -, -⟩ := hq2.open_
    have hx2 := HX.out.below hb2 HX.out.lt
    obtain ⟨r0, r1, r2, r3, r4, r5⟩ := res_facts hx2
    have hz := set4 hx2 (.int .i64 (normQ k (!b)).op) (.int .i64 (normQ k (!b)).n) (.string ⟨(normQ k (!b)).s.toArray⟩) (.slice A2 (normQ k (!b)).kids.length c2)
    have HZ := Lib.hid (res_facts hz)
    clear hq2 hz hx2
    simp only [qV] at *
    generalize normQ k (!b) = R at *
    go_wp2_with fail
    obtain ⟨y0, y1, y2, y3, -, -⟩ := HZ.out
    refine bodyPost_ret (v := .agg #[.int .i64 R.op, .int .i64 R.n, .string ⟨R.s.toArray⟩, .slice A2 R.kids.length c2]) (by simp [results, Try.results30, go_sem, y0, y1, y2, y3]) rfl ⟨_, rfl, ?_, bel4 B2 (by omega) _ _ _ _⟩
    exact (HQ2.out.set4 (by simp) _ _ _ _).wide (fun b h _ => h.elim (fun h => .inl h.1) (fun h => .inr (by simp at h; omega)))
  | leaf h3 h4 h5 h12 =>
    have b3 : (o == 3) = false := by simpa using h3
    have b4 : (o == 4) = false := by simpa using h4
    have b5 : (o == 5) = false := by simpa using h5
    have hx2 := Y0
    have HBX := Lib.hid X0
    have hr : normQ ⟨o, n, s, []⟩ b = if b = false then ⟨o, n, s, []⟩ else if o = 1 ∨ o = 2 then leafO (otherO o) else oppQ ⟨o, n, s, []⟩ := by
      simp only [normQ, if_neg h5, if_neg (show ¬ (o = 3 ∨ o = 4) by omega)]
    have HR := Lib.hid hr
    clear ih hI HQ X0 Y0 hq hr hk HNA
    simp only [List.length_nil] at *
    cases b with
    | false =>
      have HRR : Hid (normQ ⟨o, n, s, []⟩ false = ⟨o, n, s, []⟩) := Lib.hid (by rw [HR.out]; rfl)
      obtain ⟨r0, r1, r2, r3, r4, r5⟩ := res_facts hx2
      have hz := set4 hx2 (.int .i64 o) (.int .i64 n) (.string ⟨s.toArray⟩) (.slice none 0 0)
      have HZ := Lib.hid (res_facts hz)
      clear hz hx2 HR
      simp only [qV] at *
      generalize normQ ⟨o, n, s, []⟩ false = R at *
      go_enter Try.func30, Try.ntmps30
      go_wp2_with fail
      obtain ⟨y0, y1, y2, y3, -, -⟩ := HZ.out
      refine bodyPost_ret (v := .agg #[.int .i64 o, .int .i64 n, .string ⟨s.toArray⟩, .slice none 0 0]) (by simp [results, Try.results30, go_sem, y0, y1, y2, y3]) rfl ⟨_, rfl, ?_, bel_alloc (bel_alloc (Below.refl _ _) _) _⟩
      rw [HRR.out]
      exact QAt.leaf hio hin hs
    | true =>
      by_cases ho : o = 1 ∨ o = 2
      · have HRR : Hid (normQ ⟨o, n, s, []⟩ true = leafO (otherO o)) := Lib.hid (by rw [HR.out, if_neg (by simp), if_pos ho])
        have hoo : otherO o = 1 ∨ otherO o = 2 := by rcases ho with rfl | rfl <;> decide
        have HO := Lib.hid (fun W => other25_any o W)
        clear HR
        generalize normQ ⟨o, n, s, []⟩ true = R at *
        generalize otherO o = oo at *
        obtain ⟨r0, r1, r2, r3, r4, r5⟩ := res_facts hx2
        have hz := set4 hx2 (.int .i64 oo) (.int .i64 0) (.string ⟨#[]⟩) (.slice none 0 0)
        have HZ := Lib.hid (res_facts hz)
        clear hz hx2
        simp only [qV] at *
        have hd1 : o = 1 → (o == 1) = true := by intro h; simpa using h
        by_cases ho1 : o = 1
        · have t1 : (o == 1) = true := by simpa using ho1
          clear ho1 hd1 ho
          go_enter Try.func30, Try.ntmps30
          go_wp2_with fail
          (with_reducible refine (HO.out _).mono ?_)
          rintro e w2 ⟨rfl, rfl⟩
          go_wp2_with fail
          obtain ⟨y0, y1, y2, y3, -, -⟩ := HZ.out
          refine bodyPost_ret (v := .agg #[.int .i64 oo, .int .i64 0, .string ⟨#[]⟩, .slice none 0 0]) (by simp [results, Try.results30, go_sem, y0, y1, y2, y3]) rfl ⟨_, rfl, ?_, bel_alloc (bel_alloc (Below.refl _ _) _) _⟩
          rw [HRR.out]
          exact QAt.leaf (s := []) (i64P_lit (by omega)) (i64P_lit (by omega)) (by simp)
        · have t1 : (o == 1) = false := by simpa using ho1
          have t2 : (o == 2) = true := by simp; omega
          clear ho1 hd1 ho
          go_enter Try.func30, Try.ntmps30
          go_wp2_with fail
          (with_reducible refine (HO.out _).mono ?_)
          rintro e w2 ⟨rfl, rfl⟩
          go_wp2_with fail
          obtain ⟨y0, y1, y2, y3, -, -⟩ := HZ.out
          refine bodyPost_ret (v := .agg #[.int .i64 oo, .int .i64 0, .string ⟨#[]⟩, .slice none 0 0]) (by simp [results, Try.results30, go_sem, y0, y1, y2, y3]) rfl ⟨_, rfl, ?_, bel_alloc (bel_alloc (Below.refl _ _) _) _⟩
          rw [HRR.out]
          exact QAt.leaf (s := []) (i64P_lit (by omega)) (i64P_lit (by omega)) (by simp)
      · have t1 : (o == 1) = false := by simp; omega
        have t2 : (o == 2) = false := by simp; omega
        have HRR : Hid (normQ ⟨o, n, s, []⟩ true = oppQ ⟨o, n, s, []⟩) := Lib.hid (by rw [HR.out, if_neg (by simp), if_neg ho])
        have HC := Lib.hid (opposite25_any ⟨o, n, s, []⟩ (qV o n s none 0 0) ((w.alloc (.cells (qV o n s A 0 c) 24)).alloc (.cells #[.int .i64 0, .int .i64 0, .string ⟨#[]⟩, .slice none 0 0] 24)) (fun _ => False) (QAt.leaf hio hin hs) (fun h => absurd h h5))
        clear HR ho
        generalize normQ ⟨o, n, s, []⟩ true = R at *
        generalize oppQ ⟨o, n, s, []⟩ = R2 at *
        have HX := Lib.hid hx2
        clear hx2
        simp only [qV] at *
        go_enter Try.func30, Try.ntmps30
        go_wp2_with fail
        (with_reducible refine (HC.out).mono ?_)
        rintro e w2 ⟨v2, rfl, hq2, hb2⟩
        have B2 := bel_step B0 hb2
        have HQ2 := Lib.hid hq2
        obtain ⟨A2, c2, rfl, -, -, -, -, -, -⟩ := hq2.open_
        have hx2 := HX.out.below hb2 HX.out.lt
        obtain ⟨r0, r1, r2, r3, r4, r5⟩ := res_facts hx2
        have hz := set4 hx2 (.int .i64 R2.op) (.int .i64 R2.n) (.string ⟨R2.s.toArray⟩) (.slice A2 R2.kids.length c2)
        have HZ := Lib.hid (res_facts hz)
        clear hq2 hz hx2
        simp only [qV] at *
        go_wp2_with fail
        obtain ⟨y0, y1, y2, y3, -, -⟩ := HZ.out
        refine bodyPost_ret (v := .agg #[.int .i64 R2.op, .int .i64 R2.n, .string ⟨R2.s.toArray⟩, .slice A2 R2.kids.length c2]) (by simp [results, Try.results30, go_sem, y0, y1, y2, y3]) rfl ⟨_, rfl, ?_, bel4 B2 (by omega) _ _ _ _⟩
        rw [HRR.out]
        exact (HQ2.out.set4 (by simp) _ _ _ _).wide (fun b h _ => h.elim (fun h => absurd h id) (fun h => .inr (by simp at h; omega)))
  | many ho hl =>
    have b5 : (o == 5) = false := by simp; omega
    have hb34 : (o == 3) = true ∨ ((o == 3) = false ∧ (o == 4) = true) := by
      rcases ho with rfl | rfl
      · exact .inl rfl
      · exact .inr ⟨rfl, rfl⟩
    have h5 : o ≠ 5 := by omega
    have hr : normQ ⟨o, 0, [], l⟩ b = joinQ (if b = true then otherO o else o) (normL l b) := by simp only [normQ, if_neg h5, if_pos ho]
    have HR := Lib.hid hr
    have hh : ∀ k ∈ l, htQ k ≤ 50 := fun k hk => by have := htQ_kid (o := o) (n := 0) (s := []) hk; omega
    have hnk : nodQ ⟨o, 0, [], l⟩ = 1 + nodL l 0 := nodQ_kids _
    have hnd2 : ∀ k ∈ l, nodQ k ≤ 1000 := fun k hk => by have := nodL_mem l 0 k hk; omega
    have hNF : ∀ k ∈ normL l b, NF k := by
      intro k hk
      rw [normL_map] at hk
      obtain ⟨x, hx, rfl⟩ := List.mem_map.1 hk
      exact (norm_all x (hl x hx) b (hh x hx)).1
    have hnodn : nodL (normL l b) 0 ≤ 100000 := by
      have : ∀ l : List Qy, (∀ k ∈ l, Shp k) → nodL (normL l b) 0 ≤ 2 * nodL l 0 := by
        intro l
        induction l with
        | nil => intro _; simp [normL, nodL]
        | cons x xs ih2 =>
          intro h
          have h1 := norm_nod x (h x (by simp)) b
          have h2 := ih2 fun k hk => h k (List.mem_cons_of_mem _ hk)
          simp only [normL, nodL]
          rw [nodL_add, nodL_add xs]; omega
      have := this l hl
      omega
    have hlen : l.length ≤ 1000 := by have := nodL_length l 0; omega
    have HJ := Lib.hid (fun (o' : Int) (ho' : o' = 3 ∨ o' = 4) A n c w S hc hk => join25_any ho' (normL l b) A n c w S hc hk hNF hnodn)
    have HI := Lib.hid (fun k hk => hI k hk (hl k hk) b)
    have HH := Lib.hid (And.intro hh hnd2)
    have HK := Lib.hid (show QsAt w (fun b => S b ∧ b < w.heap.size) A l.length l from hk.wide fun b h hlt => ⟨h, hlt⟩)
    have HX0 := Lib.hid X0
    have HY0 := Lib.hid Y0
    have hoo : otherO o = 3 ∨ otherO o = 4 := by rcases ho with rfl | rfl <;> decide
    have HHO := Lib.hid (And.intro ho hoo)
    have HOT := Lib.hid (fun W => other25_any o W)
    clear ih hI HQ X0 Y0 hq hr hk HNA hh hnk hnd2 hNF hnodn hoo
    generalize normQ ⟨o, 0, [], l⟩ b = R at *
    simp only [qV] at B0 ⊢
    clear ho hht hnd
    rcases hb34 with hb3 | ⟨hb3, hbq4⟩
    all_goals
      go_enter Try.func30, Try.ntmps30
      go_wp2_with fail
      go_loopw [5, 25] (fun v i wr => ∃ (k : Nat) (A' : Option Addr) (c' : Nat), k ≤ l.length ∧ i = .int .i64 k ∧ v = .slice A' k c' ∧ Oq wr (w.heap.size + 1 + 1) (fun b => (S b ∧ b < w.heap.size) ∨ w.heap.size + 1 + 1 ≤ b) A' k c' (normL (l.take k) b) ∧ Hid (Blk wr w.heap.size 24 (qV o 0 [] A l.length c)) ∧ Hid (Blk wr (w.heap.size + 1) 24 #[.int .i64 0, .int .i64 0, .string ⟨#[]⟩, .slice none 0 0]) ∧ Below w.heap.size w wr) (fun _ i _ => l.length - (intOf i).toNat)
      case atStart => exact ⟨0, none, 0, Nat.zero_le _, rfl, rfl, Oq.nil, HX0, HY0, B0⟩
      case round =>
        obtain ⟨k, A', c', hkn, rfl, rfl, hown, hx, hy, hb⟩ := hrel
        have hcap := hown.cap
        have hyl := hy.out.lt
        by_cases hlt : k < l.length
        · have hlt' : decide (k < l.length) = true := by simpa using hlt
          obtain ⟨q, B, cq, bb, off, hg, rfl, -, hbs, hq', g1, g2, g3, g4, g5, f0, f1, f2, f3⟩ := (HK.out.bel hb).at hlt
          have hmem : q ∈ l := List.mem_of_getElem? hg.out
          have hsn : normL (l.take (k + 1)) b = normL (l.take k) b ++ [normQ q b] := by
            rw [normL_map, normL_map, List.take_add_one, hg.out]; simp
          have HS := Lib.hid hsn
          have E0 := bel_alloc (Below.refl wr.heap.size wr) (.cells (qV q.op q.n q.s B q.kids.length cq) 24)
          have HO1 := Lib.hid (hown.bel E0)
          have HX1 := Lib.hid (hx.out.below E0 hx.out.lt)
          have HY1 := Lib.hid (hy.out.below E0 hy.out.lt)
          have B1 := bel_step hb E0
          have HC := Lib.hid (HI.out q hmem _ _ _ (HH.out.1 q hmem) (HH.out.2 q hmem) (hq'.out.bel E0))
          have HLT := Lib.hid hown.lt
          clear hsn hown hx hy hq' hmem
          simp only [qV] at HC E0 B1
          generalize normQ q b = nq at *
          go_wp2_with fail
          (with_reducible refine (HC.out).mono ?_)
          rintro e w2 ⟨v2, rfl, hq2, hb2⟩
          have B2 := bel_step B1 hb2
          have HQ2 := Lib.hid hq2
          obtain ⟨A2, c2, rfl, -, -, -, -, -, -⟩ := hq2.open_
          have hsrc := (HQ2.out.wide (S' := fun b => ((S b ∧ b < w.heap.size) ∨ w.heap.size + 1 + 1 ≤ b) ∧ some b ≠ (Value.slice A' k c').ownBlock) (fun b h _ => h.elim (fun h => ⟨.inl h, fun e => by have := HLT.out b e.symm; omega⟩) (fun h => ⟨.inr (by simp at h; omega), fun e => by have := HLT.out b e.symm; simp at h; omega⟩)))
          have hlit := hsrc.lit' (g := w2.heap.size) rfl
          have ho3 := (HO1.out.bel hb2).bel (bel_alloc (Below.refl _ _) (.cells (qV nq.op nq.n nq.s A2 nq.kids.length c2) 24))
          have hsz2 := hb2.size
          have hbase : w.heap.size + 1 + 1 ≤ (w2.alloc (.cells (qV nq.op nq.n nq.s A2 nq.kids.length c2) 24)).heap.size := by simp at hsz2 ⊢; omega
          have E3 := bel_alloc (Below.refl w2.heap.size w2) (.cells (qV nq.op nq.n nq.s A2 nq.kids.length c2) 24)
          have HX2 := Lib.hid ((HX1.out.below hb2 HX1.out.lt).below E3 (by simp at hsz2; omega))
          have HY2 := Lib.hid ((HY1.out.below hb2 HY1.out.lt).below E3 (by simp at hsz2; omega))
          clear hq2 hsrc hsz2
          simp only [qV] at ho3 hlit hbase E3 ⊢
          go_wp2_with (at_builtin; go_loud (refine wpList_appQ rfl rfl rfl ho3 rfl hlit (by omega) hbase ?_; intro A'' c'' w3 ho4 hb4))
          have B4 := (bel_step B2 E3).trans (hb4.mono (by omega))
          have hx3 := Lib.hid (HX2.out.below hb4 (by omega))
          have hy3 := Lib.hid (HY2.out.below hb4 (by omega))
          go_roundw
          case rel => exact ⟨k + 1, A'', c'', by omega, by go_num, rfl, by rw [HS.out]; exact ho4, hx3, hy3, B4⟩
          case measure => simp [intOf]; omega
        · obtain rfl : k = l.length := by omega
          have hlt' : decide (l.length < l.length) = false := by simp
          have hqs := hown.qs (S' := fun b => (S b ∧ b < w.heap.size) ∨ w.heap.size + 1 + 1 ≤ b) (fun b h _ => h) (fun b h _ => .inr h)
          rw [List.take_length] at hqs
          obtain ⟨p0, p1, p2, p3⟩ := box_facts hx.out
          have HYY := hy
          obtain ⟨hcap1, hcap2⟩ := hcap
          cases b with
          | true =>
            have HC := Lib.hid (HJ.out (otherO o) HHO.out.2 A' l.length c' wr _ ⟨hcap1, hcap2⟩ hqs)
            have HRR : Hid (R = joinQ (otherO o) (normL l true)) := Lib.hid (by rw [HR.out]; rfl)
            clear hown hx hy hqs
            generalize joinQ (otherO o) (normL l true) = R2 at *
            generalize otherO o = oo at *
            go_wp2_with fail
            (with_reducible refine (HOT.out _).mono ?_)
            rintro e w2 ⟨rfl, rfl⟩
            go_wp2_with fail
            (with_reducible refine (HC.out).mono ?_)
            rintro e w2 ⟨v2, rfl, hq2, hb2⟩
            have B2 := bel_step hb hb2
            have HQ2 := Lib.hid hq2
            obtain ⟨A2, c2, rfl, -, -, -, -, -, -⟩ := hq2.open_
            have hx2 := HYY.out.below hb2 HYY.out.lt
            obtain ⟨r0, r1, r2, r3, r4, r5⟩ := res_facts hx2
            have hz := set4 hx2 (.int .i64 R2.op) (.int .i64 R2.n) (.string ⟨R2.s.toArray⟩) (.slice A2 R2.kids.length c2)
            have HZ := Lib.hid (res_facts hz)
            clear hq2 hz hx2 p0 p1 p2 p3
            simp only [qV] at *
            go_wp2_with fail
            obtain ⟨y0, y1, y2, y3, -, -⟩ := HZ.out
            refine bodyPost_ret (v := .agg #[.int .i64 R2.op, .int .i64 R2.n, .string ⟨R2.s.toArray⟩, .slice A2 R2.kids.length c2]) (by simp [results, Try.results30, go_sem, y0, y1, y2, y3]) rfl ⟨_, rfl, ?_, bel4 B2 (by omega) _ _ _ _⟩
            rw [HRR.out]
            exact (HQ2.out.set4 (by simp; omega) _ _ _ _).wide (fun b h _ => h.elim (fun h => h.elim (fun h => .inl h.1) (fun h => .inr (by omega))) (fun h => .inr (by omega)))
          | false =>
            have HC := Lib.hid (HJ.out o HHO.out.1 A' l.length c' wr _ ⟨hcap1, hcap2⟩ hqs)
            have HRR : Hid (R = joinQ o (normL l false)) := Lib.hid (by rw [HR.out]; rfl)
            clear hown hx hy hqs
            generalize joinQ o (normL l false) = R2 at *
            go_wp2_with fail
            (with_reducible refine (HC.out).mono ?_)
            rintro e w2 ⟨v2, rfl, hq2, hb2⟩
            have B2 := bel_step hb hb2
            have HQ2 := Lib.hid hq2
            obtain ⟨A2, c2, rfl, -, -, -, -, -, -⟩ := hq2.open_
            have hx2 := HYY.out.below hb2 HYY.out.lt
            obtain ⟨r0, r1, r2, r3, r4, r5⟩ := res_facts hx2
            have hz := set4 hx2 (.int .i64 R2.op) (.int .i64 R2.n) (.string ⟨R2.s.toArray⟩) (.slice A2 R2.kids.length c2)
            have HZ := Lib.hid (res_facts hz)
            clear hq2 hz hx2 p0 p1 p2 p3
            simp only [qV] at *
            go_wp2_with fail
            obtain ⟨y0, y1, y2, y3, -, -⟩ := HZ.out
            refine bodyPost_ret (v := .agg #[.int .i64 R2.op, .int .i64 R2.n, .string ⟨R2.s.toArray⟩, .slice A2 R2.kids.length c2]) (by simp [results, Try.results30, go_sem, y0, y1, y2, y3]) rfl ⟨_, rfl, ?_, bel4 B2 (by omega) _ _ _ _⟩
            rw [HRR.out]
            exact (HQ2.out.set4 (by simp; omega) _ _ _ _).wide (fun b h _ => h.elim (fun h => h.elim (fun h => .inl h.1) (fun h => .inr (by omega))) (fun h => .inr (by omega)))
end Go.Proofs.Ytjnhhdkphcbflaa
