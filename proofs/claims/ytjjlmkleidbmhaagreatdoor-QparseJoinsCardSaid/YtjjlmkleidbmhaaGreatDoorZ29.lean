/-
  Queries' texts and what they lean on, part 29: only what the claims need.
-/
import Derived.Test.YtjjlmkleidbmhaaGreatDoorZ28
import Derived.Test.YtjjlmkleidbmhaaGreatDoorZ13
section
namespace Go.Proofs.YtjjlmkleidbmhaaGreatDoor
open Go.ChangeShapes Go.WideShapes Go.ChangeAt Go.Deep
open Go.RowKit Go.Nst
set_option maxRecDepth 100000
set_option linter.unusedVariables false
set_option linter.unusedSimpArgs false

/-- the four texts, and the four queries that they mean -/
def jtx (a b : List UInt8) : List (List UInt8) := [40 :: (a ++ 41 :: (40 :: (b ++ [41]))), 40 :: (a ++ 41 :: ([32, 97, 110, 100, 32] ++ 40 :: (b ++ [41]))), 40 :: (a ++ 41 :: ([32, 111, 114, 32] ++ 40 :: (b ++ [41]))), [110, 111, 116, 32] ++ 40 :: (a ++ [41])]
def jwt (x y : Qy) : List Qy := [⟨3, 0, [], [x, y]⟩, ⟨3, 0, [], [x, y]⟩, ⟨4, 0, [], [x, y]⟩, notQ x]
theorem par_of {s : List UInt8} {q : Qy} (h : allD termD s = some q) (hs : s.length ≤ 512) : (okQ q = true ∧ (parD s).1 = q ∧ (parD s).2.2 = 0) ∨ (okQ q = false ∧ (parD s).1 = .zero ∧ (parD s).2.2 = 3) := by
  have hp : parD s = if okQ q then (q, (s.length : Int), 0) else (Qy.zero, 0, 3) := prsD_of h hs
  cases hq : okQ q with
  | true => left; rw [hp, hq]; exact ⟨rfl, rfl, rfl⟩
  | false => right; rw [hp, hq]; exact ⟨rfl, rfl, rfl⟩
theorem join_one {a b : List UInt8} {x y : Qy} (ha : allD termD a = some x) (hb : allD termD b = some y) {i : Nat} {t : List UInt8} {q : Qy} (ht : (jtx a b)[i]? = some t) (hq : (jwt x y)[i]? = some q) : allD termD t = some q := by
  match i, ht, hq with
  | 0, ht, hq => obtain rfl := Option.some.inj ht; obtain rfl := Option.some.inj hq; exact join_all ha hb
  | 1, ht, hq => obtain rfl := Option.some.inj ht; obtain rfl := Option.some.inj hq; exact join_and ha hb
  | 2, ht, hq => obtain rfl := Option.some.inj ht; obtain rfl := Option.some.inj hq; exact join_or ha hb
  | 3, ht, hq => obtain rfl := Option.some.inj ht; obtain rfl := Option.some.inj hq; exact join_not ha
  | _ + 4, ht, _ => simp [jtx] at ht
theorem jtx_len {a b : List UInt8} (ha : a.length ≤ 250) (hb : b.length ≤ 250) {i : Nat} {t : List UInt8} (ht : (jtx a b)[i]? = some t) : t.length ≤ 512 := by
  match i, ht with
  | 0, ht => obtain rfl := Option.some.inj ht; simp; omega
  | 1, ht => obtain rfl := Option.some.inj ht; simp; omega
  | 2, ht => obtain rfl := Option.some.inj ht; simp; omega
  | 3, ht => obtain rfl := Option.some.inj ht; simp; omega
  | _ + 4, ht => simp [jtx] at ht
theorem jwt_ask {x y : Qy} (hx : okQ x = true) (hy : okQ y = true) {i : Nat} {q : Qy} (hq : (jwt x y)[i]? = some q) : Ask q := by
  obtain ⟨-, hx1, hx2⟩ := ok_parts hx
  obtain ⟨-, hy1, hy2⟩ := ok_parts hy
  have h1 := plaQ_sml x hx2
  have h2 := plaQ_sml y hy2
  have two : ∀ o, Ask ⟨o, 0, [], [x, y]⟩ := fun o => ask_of_small (by simp only [nodQ, nodL]; omega) (.mk (by simp) (fun k hk => by
    simp only [List.mem_cons, List.not_mem_nil, or_false] at hk
    rcases hk with rfl | rfl
    · exact h1
    · exact h2))
  match i, hq with
  | 0, hq => obtain rfl := Option.some.inj hq; exact two 3
  | 1, hq => obtain rfl := Option.some.inj hq; exact two 3
  | 2, hq => obtain rfl := Option.some.inj hq; exact two 4
  | 3, hq => obtain rfl := Option.some.inj hq; exact ask_of_small (by simp only [notQ, nodQ, nodL]; omega) (.mk (by simp) (fun k hk => by
    simp only [List.mem_cons, List.not_mem_nil, or_false] at hk
    subst hk
    exact h1))
  | _ + 4, hq => simp [jwt] at hq
/-- all that the law's rounds want of the texts and the queries -/
def JnF (T : List (List UInt8)) (W : List Qy) : Prop := T.length = 4 ∧ W.length = 4 ∧ ∀ (i : Nat) (t : List UInt8) (q : Qy), T[i]? = some t → W[i]? = some q → t.length ≤ 512 ∧ Ask q ∧ ((okQ q = true ∧ (parD t).1 = q ∧ (parD t).2.2 = 0) ∨ (okQ q = false ∧ (parD t).1 = .zero ∧ (parD t).2.2 = 3))
theorem jnF_of {a b : List UInt8} (hla : a.length ≤ 250) (hlb : b.length ≤ 250) (ha : (parD a).2.2 = 0) (hb : (parD b).2.2 = 0) : JnF (jtx a b) (jwt (parD a).1 (parD b).1) := by
  obtain ⟨a1, a2, -, -⟩ := prsD_ok ha
  obtain ⟨b1, b2, -, -⟩ := prsD_ok hb
  refine ⟨rfl, rfl, fun i t q ht hq => ?_⟩
  have hl := jtx_len hla hlb ht
  exact ⟨hl, jwt_ask a2 b2 hq, par_of (join_one a1 b1 ht hq) hl⟩
theorem ba_cat (l m : List UInt8) : (ByteArray.mk l.toArray) ++ (ByteArray.mk m.toArray) = ⟨(l ++ m).toArray⟩ := (ba_app26 l m)

set_option maxHeartbeats 8000000 in
theorem qparseJoins_walk (a b : List UInt8) (w : World) (ha63 : a.length ≤ 9223372036854775807) (hb63 : b.length ≤ 9223372036854775807) (hW : QpW w) : Calls Tryz.prog 7 #[.string ⟨a.toArray⟩, .string ⟨b.toArray⟩] w (RetTrue w) := by
  have hza : (ByteArray.mk a.toArray).size = a.length := size_of a
  have hzb : (ByteArray.mk b.toArray).size = b.length := size_of b
  have HW := Lib.hid hW
  have HL := Lib.hid (fun W h => lives26_any W h)
  have HP1 := Lib.hid (fun W h => parse_pq a ha63 W h)
  have HP2 := Lib.hid (fun W h => parse_pq b hb63 W h)
  have BB_0 := Lib.hid (Below.refl w.heap.size w)
  clear hW
  by_cases ha : 250 < a.length
  · have d1 : decide (250 < a.length) = true := by simpa using ha
    have d2 : decide ((250 : Int) < (a.length : Int)) = true := by simp; omega
    clear ha
    go_enter Tryz.func7, Tryz.ntmps7
    go_wp2_with fail
    (with_reducible refine (HL.out _ HW.out).mono ?_)
    rintro e w1 ⟨rfl, hb1⟩
    go_wp2_with fail
    go_ret
    exact ⟨rfl, hb1⟩
  have d1 : decide (250 < a.length) = false := by simpa using ha
  have d2 : decide ((250 : Int) < (a.length : Int)) = false := by simp; omega
  by_cases hb : 250 < b.length
  · have e1 : decide (250 < b.length) = true := by simpa using hb
    have e2 : decide ((250 : Int) < (b.length : Int)) = true := by simp; omega
    clear ha hb
    go_enter Tryz.func7, Tryz.ntmps7
    go_wp2_with fail
    (with_reducible refine (HL.out _ HW.out).mono ?_)
    rintro e w1 ⟨rfl, hb1⟩
    go_wp2_with fail
    go_ret
    exact ⟨rfl, hb1⟩
  have e1 : decide (250 < b.length) = false := by simpa using hb
  have e2 : decide ((250 : Int) < (b.length : Int)) = false := by simp; omega
  have hla : a.length ≤ 250 := by omega
  have hlb : b.length ≤ 250 := by omega
  have HJ : Hid ((parD a).2.2 = 0 → (parD b).2.2 = 0 → JnF (jtx a b) (jwt (parD a).1 (parD b).1)) := Lib.hid (jnF_of hla hlb)
  generalize (parD a).1 = X at *
  generalize (parD b).1 = Y at *
  generalize (parD a).2.1 = n1 at *
  generalize (parD b).2.1 = n2 at *
  generalize (parD a).2.2 = g1 at *
  generalize (parD b).2.2 = g2 at *
  clear ha hb
  go_enter Tryz.func7, Tryz.ntmps7
  have CP := Lib.hid (HP1.out _ (HW.out.keep BB_0.out))
  try simp only [qV] at CP
  go_wp2_with fail
  (with_reducible refine (CP.out).mono ?_)
  clear CP
  rintro e wp1 ⟨Ap1, cp1, rfl, hqp, hbp⟩
  have HQP := Lib.hid hqp
  clear hqp
  have BB_1 := Lib.hid (bel_step BB_0.out hbp)
  clear BB_0
  clear hbp
  have QX_2 := Lib.hid (HQP.out)
  clear HQP
  try simp only [qV]
  have E_3 := bel_alloc (Below.refl wp1.heap.size wp1) (.cells (qV X.op X.n X.s Ap1 X.kids.length cp1) 25)
  have BB_3 := Lib.hid (bel_step BB_1.out E_3)
  have QX_4 := Lib.hid (QX_2.out.bel E_3)
  clear BB_1 QX_2
  clear E_3
  have X_5 := Lib.hid (Blk.new wp1 25 (qV X.op X.n X.s Ap1 X.kids.length cp1))
  have CP := Lib.hid (HP2.out _ (HW.out.keep BB_3.out))
  try simp only [qV] at CP
  go_wp2_with fail
  (with_reducible refine (CP.out).mono ?_)
  clear CP
  rintro e wp2 ⟨Ap2, cp2, rfl, hqp, hbp⟩
  have HQP := Lib.hid hqp
  clear hqp
  have BB_6 := Lib.hid (bel_step BB_3.out hbp)
  have QX_7 := Lib.hid (QX_4.out.bel hbp)
  have X_8 := Lib.hid (X_5.out.below hbp X_5.out.lt)
  clear BB_3 QX_4 X_5
  clear hbp
  have QY_9 := Lib.hid (HQP.out)
  clear HQP
  try simp only [qV]
  have E_10 := bel_alloc (Below.refl wp2.heap.size wp2) (.cells (qV Y.op Y.n Y.s Ap2 Y.kids.length cp2) 25)
  have BB_10 := Lib.hid (bel_step BB_6.out E_10)
  have QX_11 := Lib.hid (QX_7.out.bel E_10)
  have X_12 := Lib.hid (X_8.out.below E_10 X_8.out.lt)
  have QY_13 := Lib.hid (QY_9.out.bel E_10)
  clear BB_6 QX_7 X_8 QY_9
  clear E_10
  have Y_14 := Lib.hid (Blk.new wp2 25 (qV Y.op Y.n Y.s Ap2 Y.kids.length cp2))
  have CP := Lib.hid (HL.out _ (HW.out.keep BB_10.out))
  try simp only [qV] at CP
  go_wp2_with fail
  (with_reducible refine (CP.out).mono ?_)
  rintro e w1 ⟨rfl, hb1⟩
  have BB_15 := Lib.hid (bel_step BB_10.out hb1)
  have QX_16 := Lib.hid (QX_11.out.bel hb1)
  have X_17 := Lib.hid (X_12.out.below hb1 X_12.out.lt)
  have QY_18 := Lib.hid (QY_13.out.bel hb1)
  have Y_19 := Lib.hid (Y_14.out.below hb1 Y_14.out.lt)
  clear BB_10 QX_11 X_12 QY_13 Y_14
  clear CP
  by_cases hg1 : g1 = 0
  case neg =>
    have f1 : (g1 == 0) = false := by simpa using hg1
    clear hg1 HJ
    go_wp2_with fail
    go_ret
    exact ⟨rfl, BB_15.out⟩
  case pos =>
    subst hg1
    by_cases hg2 : g2 = 0
    case neg =>
      have f2 : (g2 == 0) = false := by simpa using hg2
      clear hg2 HJ
      go_wp2_with fail
      go_ret
      exact ⟨rfl, BB_15.out⟩
    case pos =>
      subst hg2
      have hj := HJ.out rfl rfl
      clear HJ
      have HQX0 := Lib.hid QX_16.out
      have HQY0 := Lib.hid QY_18.out
      have hkids := lit_qs26 (w := w1) (fun i => if i = 0 then qV X.op X.n X.s Ap1 X.kids.length cp1 else qV Y.op Y.n Y.s Ap2 Y.kids.length cp2) 2 #[.int .i64 X.op, .int .i64 X.n, .string ⟨X.s.toArray⟩, .slice Ap1 X.kids.length cp1, .int .i64 Y.op, .int .i64 Y.n, .string ⟨Y.s.toArray⟩, .slice Ap2 Y.kids.length cp2] [X, Y] rfl rfl (fun i q hi => by
        match i, hi with
        | 0, hi => simp only [List.getElem?_cons_zero, Option.some.injEq] at hi; subst hi; exact HQX0.out
        | 1, hi => simp only [List.getElem?_cons_succ, List.getElem?_cons_zero, Option.some.injEq] at hi; subst hi; exact HQY0.out) rfl
      clear HQX0 HQY0
      obtain ⟨zx0, zx1, zx2, zx3⟩ := box_facts X_17.out
      obtain ⟨zy0, zy1, zy2, zy3⟩ := box_facts Y_19.out
      try simp only [qV] at zx0 zx1 zx2 zx3 zy0 zy1 zy2 zy3
      have E_20 := bel_alloc (Below.refl w1.heap.size w1) (.cells (#[.int .i64 X.op, .int .i64 X.n, .string ⟨X.s.toArray⟩, .slice Ap1 X.kids.length cp1, .int .i64 Y.op, .int .i64 Y.n, .string ⟨Y.s.toArray⟩, .slice Ap2 Y.kids.length cp2]) 25)
      have BB_20 := Lib.hid (bel_step BB_15.out E_20)
      have QX_21 := Lib.hid (QX_16.out.bel E_20)
      have X_22 := Lib.hid (X_17.out.below E_20 X_17.out.lt)
      have QY_23 := Lib.hid (QY_18.out.bel E_20)
      clear BB_15 QX_16 X_17 QY_18
      clear E_20
      have QK_24 := Lib.hid (hkids)
      clear hkids
      have E_25 := bel_alloc (Below.refl (w1.alloc (.cells (#[.int .i64 X.op, .int .i64 X.n, .string ⟨X.s.toArray⟩, .slice Ap1 X.kids.length cp1, .int .i64 Y.op, .int .i64 Y.n, .string ⟨Y.s.toArray⟩, .slice Ap2 Y.kids.length cp2]) 25)).heap.size (w1.alloc (.cells (#[.int .i64 X.op, .int .i64 X.n, .string ⟨X.s.toArray⟩, .slice Ap1 X.kids.length cp1, .int .i64 Y.op, .int .i64 Y.n, .string ⟨Y.s.toArray⟩, .slice Ap2 Y.kids.length cp2]) 25))) (.cells (#[.string ((⟨#[40]⟩ : ByteArray) ++ (⟨a.toArray⟩ : ByteArray) ++ (⟨#[41, 40]⟩ : ByteArray) ++ (⟨b.toArray⟩ : ByteArray) ++ (⟨#[41]⟩ : ByteArray)), .string ((⟨#[40]⟩ : ByteArray) ++ (⟨a.toArray⟩ : ByteArray) ++ (⟨#[41, 32, 97, 110, 100, 32, 40]⟩ : ByteArray) ++ (⟨b.toArray⟩ : ByteArray) ++ (⟨#[41]⟩ : ByteArray)), .string ((⟨#[40]⟩ : ByteArray) ++ (⟨a.toArray⟩ : ByteArray) ++ (⟨#[41, 32, 111, 114, 32, 40]⟩ : ByteArray) ++ (⟨b.toArray⟩ : ByteArray) ++ (⟨#[41]⟩ : ByteArray)), .string ((⟨#[110, 111, 116, 32, 40]⟩ : ByteArray) ++ (⟨a.toArray⟩ : ByteArray) ++ (⟨#[41]⟩ : ByteArray))]) 9)
      have BB_25 := Lib.hid (bel_step BB_20.out E_25)
      have QX_26 := Lib.hid (QX_21.out.bel E_25)
      have X_27 := Lib.hid (X_22.out.below E_25 X_22.out.lt)
      have QY_28 := Lib.hid (QY_23.out.bel E_25)
      have QK_29 := Lib.hid (QK_24.out.bel E_25)
      clear BB_20 QX_21 X_22 QY_23 QK_24
      clear E_25
      have hss : Ss ((w1.alloc (.cells (#[.int .i64 X.op, .int .i64 X.n, .string ⟨X.s.toArray⟩, .slice Ap1 X.kids.length cp1, .int .i64 Y.op, .int .i64 Y.n, .string ⟨Y.s.toArray⟩, .slice Ap2 Y.kids.length cp2]) 25)).alloc (.cells (#[.string ((⟨#[40]⟩ : ByteArray) ++ (⟨a.toArray⟩ : ByteArray) ++ (⟨#[41, 40]⟩ : ByteArray) ++ (⟨b.toArray⟩ : ByteArray) ++ (⟨#[41]⟩ : ByteArray)), .string ((⟨#[40]⟩ : ByteArray) ++ (⟨a.toArray⟩ : ByteArray) ++ (⟨#[41, 32, 97, 110, 100, 32, 40]⟩ : ByteArray) ++ (⟨b.toArray⟩ : ByteArray) ++ (⟨#[41]⟩ : ByteArray)), .string ((⟨#[40]⟩ : ByteArray) ++ (⟨a.toArray⟩ : ByteArray) ++ (⟨#[41, 32, 111, 114, 32, 40]⟩ : ByteArray) ++ (⟨b.toArray⟩ : ByteArray) ++ (⟨#[41]⟩ : ByteArray)), .string ((⟨#[110, 111, 116, 32, 40]⟩ : ByteArray) ++ (⟨a.toArray⟩ : ByteArray) ++ (⟨#[41]⟩ : ByteArray))]) 9)) (some ⟨(w1.alloc (.cells (#[.int .i64 X.op, .int .i64 X.n, .string ⟨X.s.toArray⟩, .slice Ap1 X.kids.length cp1, .int .i64 Y.op, .int .i64 Y.n, .string ⟨Y.s.toArray⟩, .slice Ap2 Y.kids.length cp2]) 25)).heap.size, 0, none⟩) 4 (jtx a b) := Ss.const (w1.alloc (.cells (#[.int .i64 X.op, .int .i64 X.n, .string ⟨X.s.toArray⟩, .slice Ap1 X.kids.length cp1, .int .i64 Y.op, .int .i64 Y.n, .string ⟨Y.s.toArray⟩, .slice Ap2 Y.kids.length cp2]) 25)) (jtx a b) (#[.string ((⟨#[40]⟩ : ByteArray) ++ (⟨a.toArray⟩ : ByteArray) ++ (⟨#[41, 40]⟩ : ByteArray) ++ (⟨b.toArray⟩ : ByteArray) ++ (⟨#[41]⟩ : ByteArray)), .string ((⟨#[40]⟩ : ByteArray) ++ (⟨a.toArray⟩ : ByteArray) ++ (⟨#[41, 32, 97, 110, 100, 32, 40]⟩ : ByteArray) ++ (⟨b.toArray⟩ : ByteArray) ++ (⟨#[41]⟩ : ByteArray)), .string ((⟨#[40]⟩ : ByteArray) ++ (⟨a.toArray⟩ : ByteArray) ++ (⟨#[41, 32, 111, 114, 32, 40]⟩ : ByteArray) ++ (⟨b.toArray⟩ : ByteArray) ++ (⟨#[41]⟩ : ByteArray)), .string ((⟨#[110, 111, 116, 32, 40]⟩ : ByteArray) ++ (⟨a.toArray⟩ : ByteArray) ++ (⟨#[41]⟩ : ByteArray))]) 9 (0, 0) 4 rfl (by simp [sv, jtx, ba_cat])
      rw [show (w1.alloc (.cells (#[.int .i64 X.op, .int .i64 X.n, .string ⟨X.s.toArray⟩, .slice Ap1 X.kids.length cp1, .int .i64 Y.op, .int .i64 Y.n, .string ⟨Y.s.toArray⟩, .slice Ap2 Y.kids.length cp2]) 25)).heap.size = w1.heap.size + 1 by simp] at hss
      have ST_30 := Lib.hid (hss)
      clear hss
      have CN := Lib.hid (Not25_any X _ _ _ QX_26.out)
      try simp only [qV] at CN
      obtain ⟨yx0, yx1, yx2, yx3⟩ := box_facts X_27.out
      try simp only [qV] at yx0 yx1 yx2 yx3
      go_wp2_with fail
      clear zx0 zx1 zx2 zx3 zy0 zy1 zy2 zy3 yx0 yx1 yx2 yx3
      (with_reducible refine (CN.out).mono ?_)
      clear CN
      rintro e wn ⟨vn, rfl, hqn, hbn⟩
      have HQN := Lib.hid (hqn.wide (S' := fun _ => True) (fun _ _ _ => trivial))
      obtain ⟨An, cn, rfl, -, -, -, -, -, -⟩ := hqn.open_
      clear hqn
      have BB_31 := Lib.hid (bel_step BB_25.out hbn)
      have QX_32 := Lib.hid (QX_26.out.bel hbn)
      have X_33 := Lib.hid (X_27.out.below hbn X_27.out.lt)
      have QY_34 := Lib.hid (QY_28.out.bel hbn)
      have QK_35 := Lib.hid (QK_29.out.bel hbn)
      have ST_36 := Lib.hid (ST_30.out.below hbn)
      clear BB_25 QX_26 X_27 QY_28 QK_29 ST_30
      clear hbn
      simp only [qV, notQ, Qy.op, Qy.n, Qy.s, Qy.kids, List.length_cons, List.length_nil, Nat.zero_add] at HQN ⊢
      have hk2 := Lib.hid QK_35.out
      have hqs := lit_qs26 (w := wn) (fun i => if i = 0 then #[.int .i64 3, .int .i64 0, .string ⟨#[]⟩, .slice (some ⟨w1.heap.size, 0, none⟩) 2 2] else if i = 1 then #[.int .i64 3, .int .i64 0, .string ⟨#[]⟩, .slice (some ⟨w1.heap.size, 0, none⟩) 2 2] else if i = 2 then #[.int .i64 4, .int .i64 0, .string ⟨#[]⟩, .slice (some ⟨w1.heap.size, 0, none⟩) 2 2] else #[.int .i64 5, .int .i64 0, .string ⟨#[]⟩, .slice An 1 cn]) 4 #[.int .i64 3, .int .i64 0, .string ⟨#[]⟩, .slice (some ⟨w1.heap.size, 0, none⟩) 2 2, .int .i64 3, .int .i64 0, .string ⟨#[]⟩, .slice (some ⟨w1.heap.size, 0, none⟩) 2 2, .int .i64 4, .int .i64 0, .string ⟨#[]⟩, .slice (some ⟨w1.heap.size, 0, none⟩) 2 2, .int .i64 5, .int .i64 0, .string ⟨#[]⟩, .slice An 1 cn] (jwt X Y) rfl rfl (fun i q hi => by
        match i, hi with
        | 0, hi => obtain rfl := Option.some.inj hi; exact QAt.make (s := []) (i64P_lit (by omega)) (i64P_lit (by omega)) (by simp) ⟨Nat.le_refl _, by omega⟩ hk2.out
        | 1, hi => obtain rfl := Option.some.inj hi; exact QAt.make (s := []) (i64P_lit (by omega)) (i64P_lit (by omega)) (by simp) ⟨Nat.le_refl _, by omega⟩ hk2.out
        | 2, hi => obtain rfl := Option.some.inj hi; exact QAt.make (s := []) (i64P_lit (by omega)) (i64P_lit (by omega)) (by simp) ⟨Nat.le_refl _, by omega⟩ hk2.out
        | 3, hi => obtain rfl := Option.some.inj hi; exact HQN.out
        | _ + 4, hi => simp [jwt] at hi) rfl
      clear hk2 HQN
      have E_37 := bel_alloc (Below.refl wn.heap.size wn) (.cells (#[.int .i64 3, .int .i64 0, .string ⟨#[]⟩, .slice (some ⟨w1.heap.size, 0, none⟩) 2 2, .int .i64 3, .int .i64 0, .string ⟨#[]⟩, .slice (some ⟨w1.heap.size, 0, none⟩) 2 2, .int .i64 4, .int .i64 0, .string ⟨#[]⟩, .slice (some ⟨w1.heap.size, 0, none⟩) 2 2, .int .i64 5, .int .i64 0, .string ⟨#[]⟩, .slice An 1 cn]) 25)
      have BB_37 := Lib.hid (bel_step BB_31.out E_37)
      have QX_38 := Lib.hid (QX_32.out.bel E_37)
      have X_39 := Lib.hid (X_33.out.below E_37 X_33.out.lt)
      have QY_40 := Lib.hid (QY_34.out.bel E_37)
      have QK_41 := Lib.hid (QK_35.out.bel E_37)
      have ST_42 := Lib.hid (ST_36.out.below E_37)
      clear BB_31 QX_32 X_33 QY_34 QK_35 ST_36
      clear E_37
      have QW_43 := Lib.hid (hqs)
      clear hqs
      obtain ⟨hT4, hW4, hJ⟩ := hj
      have HJ := Lib.hid hJ
      clear hJ
      have HWN := Lib.hid (HW.out.keep BB_37.out)
      have HT0 := Lib.hid ST_42.out
      have HQ0 := Lib.hid QW_43.out
      have HB0 := Lib.hid BB_37.out
      clear BB_37 QX_38 X_39 QY_40 QK_41 ST_42 QW_43 d1 d2 e1 e2 hla hlb ha63 hb63 HP1 HP2 HL HW
      generalize hTT : jtx a b = T at *
      clear hTT
      generalize hWW : jwt X Y = L at *
      clear hWW
      go_wp2_with fail
      generalize hw9 : (wn.alloc (.cells (#[.int .i64 3, .int .i64 0, .string ⟨#[]⟩, .slice (some ⟨w1.heap.size, 0, none⟩) 2 2, .int .i64 3, .int .i64 0, .string ⟨#[]⟩, .slice (some ⟨w1.heap.size, 0, none⟩) 2 2, .int .i64 4, .int .i64 0, .string ⟨#[]⟩, .slice (some ⟨w1.heap.size, 0, none⟩) 2 2, .int .i64 5, .int .i64 0, .string ⟨#[]⟩, .slice An 1 cn]) 25)) = w9 at *
      clear hw9
      obtain ⟨AT, hAT⟩ : ∃ AT : Option Addr, AT = some ⟨w1.heap.size + 1, 0, none⟩ := ⟨_, rfl⟩
      obtain ⟨AQ, hAQ⟩ : ∃ AQ : Option Addr, AQ = some ⟨wn.heap.size, 0, none⟩ := ⟨_, rfl⟩
      rw [← hAT] at HT0 ⊢
      rw [← hAQ] at HQ0 ⊢
      clear hAT hAQ
      go_loopw [14] (fun i wr => ∃ k : Nat, i = .int .i64 (k : Int) ∧ k ≤ 4 ∧ Hid (Below w9.heap.size w9 wr)) (fun i _ => 4 - (intOf i).toNat)
      case atStart => exact ⟨0, rfl, by omega, Lib.hid (Below.refl _ _)⟩
      case round =>
        obtain ⟨k, rfl, hk4, HB⟩ := hrel
        have HTr := Lib.hid (HT0.out.below HB.out)
        have HQr := Lib.hid (HQ0.out.bel HB.out)
        have HBr := Lib.hid (bel_step HB0.out HB.out)
        have HWr := Lib.hid (HWN.out.keep HB.out)
        by_cases hlt : k < 4
        · obtain ⟨x, bt, ot, eT, hgt, hbt, hct⟩ := HTr.out.at hlt
          obtain ⟨q, Bq, cq, b, off, hgq, eQ, -, hbs2, hq', g1, g2, g3, g4, g5, f0, f1, f2, f3⟩ := HQr.out.at hlt
          subst eT
          subst eQ
          obtain ⟨hxl, hask, hcase⟩ := HJ.out k x q hgt.out hgq.out
          have hzx : (ByteArray.mk x.toArray).size = x.length := size_of x
          have HPX := Lib.hid (fun W h => parse_pq x (by omega) W h)
          have HCK := Lib.hid (fun W vs S hW => refCheck25_any q hask vs W S hW)
          have HSM : Hid (okQ q = true → samQ q q 1 = true) := Lib.hid ok_same
          have HCS := Lib.hid hcase
          have BR_0 := Lib.hid (Below.refl wr.heap.size wr)
          have HB9_0 := HB
          have BB_0 := HBr
          have QR_0 := hq'
          have L0 := later f0
          have L1 := later f1
          have L2 := later f2
          have L3 := later f3
          clear hcase hask hgt hgq hq' HB HBr HTr HQr f0 f1 f2 f3
          generalize (parD x).1 = Z at *
          generalize (parD x).2.1 = m at *
          generalize (parD x).2.2 = g at *
          go_wp2_with fail
          (with_reducible refine (HPX.out _ HWr.out).mono ?_)
          rintro e wp ⟨Ap, cp, rfl, hqp, hbp⟩
          have HQP := Lib.hid hqp
          clear hqp
          have BR_1 := Lib.hid (BR_0.out.trans (hbp.mono BR_0.out.size))
          have HB9_2 := Lib.hid (HB9_0.out.trans (hbp.mono HB9_0.out.size))
          have BB_3 := Lib.hid (bel_step BB_0.out hbp)
          have QR_4 := Lib.hid (QR_0.out.bel hbp)
          clear BR_0 HB9_0 BB_0 QR_0
          clear hbp
          have QZ_5 := Lib.hid (HQP.out)
          clear HQP
          try simp only [qV]
          have E_6 := bel_alloc (Below.refl wp.heap.size wp) (.cells (qV Z.op Z.n Z.s Ap Z.kids.length cp) 25)
          have BR_6 := Lib.hid (BR_1.out.trans (E_6.mono BR_1.out.size))
          have HB9_7 := Lib.hid (HB9_2.out.trans (E_6.mono HB9_2.out.size))
          have BB_8 := Lib.hid (bel_step BB_3.out E_6)
          have QR_9 := Lib.hid (QR_4.out.bel E_6)
          have QZ_10 := Lib.hid (QZ_5.out.bel E_6)
          clear BR_1 HB9_2 BB_3 QR_4 QZ_5
          clear E_6
          have Z_11 := Lib.hid (Blk.new wp 25 (qV Z.op Z.n Z.s Ap Z.kids.length cp))
          clear hct HPX HWr
          rcases HCS.out with ⟨hok, rfl, rfl⟩ | ⟨hok, rfl, rfl⟩
          · clear HCS
            rw [hok] at HCK
            have HS2 := Lib.hid (HSM.out hok)
            clear hok
            clear HSM
            go_wp2_with fail
            refine wp_region_seq (by kernel_rfl) [(0, true), (1, true), (2, true), (3, true), (4, false), (5, true), (6, true), (7, true), (8, true), (9, true), (10, true), (11, true), (12, true), (13, true), (14, false), (15, true), (16, true), (17, true), (18, true), (19, true), (20, true), (21, true), (22, true), (23, false), (24, true), (25, true), (26, true), (27, true), (28, true), (29, true)] (by kernel_rfl) rfl (by kernel_rfl) ?_
            intro w0 hb0
            try simp only [qV] at hb0
            have BR_12 := Lib.hid (BR_6.out.trans (hb0.mono BR_6.out.size))
            have HB9_13 := Lib.hid (HB9_7.out.trans (hb0.mono HB9_7.out.size))
            have BB_14 := Lib.hid (bel_step BB_8.out hb0)
            have QR_15 := Lib.hid (QR_9.out.bel hb0)
            have QZ_16 := Lib.hid (QZ_10.out.bel hb0)
            have Z_17 := Lib.hid (Z_11.out.below hb0 Z_11.out.lt)
            clear BR_6 HB9_7 BB_8 QR_9 QZ_10 Z_11
            clear hb0
            have Lr0_0 := later (L0 w0 BR_12.out)
            have Lr1_0 := later (L1 w0 BR_12.out)
            have Lr2_0 := later (L2 w0 BR_12.out)
            have Lr3_0 := later (L3 w0 BR_12.out)
            obtain ⟨zz0, zz1, zz2, zz3⟩ := box_facts Z_17.out
            try simp only [qV] at zz0 zz1 zz2 zz3
            have Lz0_0 := later zz0
            have Lz1_0 := later zz1
            have Lz2_0 := later zz2
            have Lz3_0 := later zz3
            clear L0 L1 L2 L3 zz0 zz1 zz2 zz3
            iterate 4 (refine wpSeq_take (o := ⟨_, _, _, _, _, _⟩) (v := ?_) rfl rfl ?_ ?_; rotate_left; (focus (intro W hW; go_simp; first | done | with_reducible rfl)); simp only [Act.put, List.setIfInBounds_toArray, List.set_cons_zero, List.set_cons_succ])
            have C4 := Lib.hid (HCK.out _ _ _ QR_15.out)
            try simp only [qV] at C4
            refine wpSeq_exec (o := ⟨_, _, _, _, _, _⟩) rfl rfl (fun K hK => ?_)
            go_simp
            (with_reducible refine (C4.out).mono ?_)
            rintro e v1 ⟨rfl, hc1⟩
            go_wp2_with fail
            refine hK _ _ hc1 ?_
            clear hK K
            have BR_18 := Lib.hid (BR_12.out.trans (hc1.mono BR_12.out.size))
            have HB9_19 := Lib.hid (HB9_13.out.trans (hc1.mono HB9_13.out.size))
            have BB_20 := Lib.hid (bel_step BB_14.out hc1)
            have QR_21 := Lib.hid (QR_15.out.bel hc1)
            have QZ_22 := Lib.hid (QZ_16.out.bel hc1)
            have Z_23 := Lib.hid (Z_17.out.below hc1 Z_17.out.lt)
            clear BR_12 HB9_13 BB_14 QR_15 QZ_16 Z_17
            have Lr0_1 := fun W (h : Below v1.heap.size v1 W) => Lr0_0 W (bel_step hc1 h)
            have Lr1_1 := fun W (h : Below v1.heap.size v1 W) => Lr1_0 W (bel_step hc1 h)
            have Lr2_1 := fun W (h : Below v1.heap.size v1 W) => Lr2_0 W (bel_step hc1 h)
            have Lr3_1 := fun W (h : Below v1.heap.size v1 W) => Lr3_0 W (bel_step hc1 h)
            have Lz0_1 := fun W (h : Below v1.heap.size v1 W) => Lz0_0 W (bel_step hc1 h)
            have Lz1_1 := fun W (h : Below v1.heap.size v1 W) => Lz1_0 W (bel_step hc1 h)
            have Lz2_1 := fun W (h : Below v1.heap.size v1 W) => Lz2_0 W (bel_step hc1 h)
            have Lz3_1 := fun W (h : Below v1.heap.size v1 W) => Lz3_0 W (bel_step hc1 h)
            clear Lr0_0 Lr1_0 Lr2_0 Lr3_0 Lz0_0 Lz1_0 Lz2_0 Lz3_0
            iterate 9 (refine wpSeq_take (o := ⟨_, _, _, _, _, _⟩) (v := ?_) rfl rfl ?_ ?_; rotate_left; (focus (intro W hW; go_simp; first | done | with_reducible rfl)); simp only [Act.put, List.setIfInBounds_toArray, List.set_cons_zero, List.set_cons_succ])
            have C14 := Lib.hid (refSame_any25 _ _ _ _ _ _ _ QZ_22.out QR_21.out)
            try simp only [qV] at C14
            rw [HS2.out] at C14
            refine wpSeq_exec (o := ⟨_, _, _, _, _, _⟩) rfl rfl (fun K hK => ?_)
            go_simp
            (with_reducible refine (C14.out).mono ?_)
            rintro e v2 ⟨rfl, hc2⟩
            go_wp2_with fail
            refine hK _ _ hc2 ?_
            clear hK K
            have BR_24 := Lib.hid (BR_18.out.trans (hc2.mono BR_18.out.size))
            have HB9_25 := Lib.hid (HB9_19.out.trans (hc2.mono HB9_19.out.size))
            have BB_26 := Lib.hid (bel_step BB_20.out hc2)
            have QR_27 := Lib.hid (QR_21.out.bel hc2)
            have QZ_28 := Lib.hid (QZ_22.out.bel hc2)
            have Z_29 := Lib.hid (Z_23.out.below hc2 Z_23.out.lt)
            clear BR_18 HB9_19 BB_20 QR_21 QZ_22 Z_23
            have Lr0_2 := fun W (h : Below v2.heap.size v2 W) => Lr0_1 W (bel_step hc2 h)
            have Lr1_2 := fun W (h : Below v2.heap.size v2 W) => Lr1_1 W (bel_step hc2 h)
            have Lr2_2 := fun W (h : Below v2.heap.size v2 W) => Lr2_1 W (bel_step hc2 h)
            have Lr3_2 := fun W (h : Below v2.heap.size v2 W) => Lr3_1 W (bel_step hc2 h)
            have Lz0_2 := fun W (h : Below v2.heap.size v2 W) => Lz0_1 W (bel_step hc2 h)
            have Lz1_2 := fun W (h : Below v2.heap.size v2 W) => Lz1_1 W (bel_step hc2 h)
            have Lz2_2 := fun W (h : Below v2.heap.size v2 W) => Lz2_1 W (bel_step hc2 h)
            have Lz3_2 := fun W (h : Below v2.heap.size v2 W) => Lz3_1 W (bel_step hc2 h)
            clear Lr0_1 Lr1_1 Lr2_1 Lr3_1 Lz0_1 Lz1_1 Lz2_1 Lz3_1
            iterate 8 (refine wpSeq_take (o := ⟨_, _, _, _, _, _⟩) (v := ?_) rfl rfl ?_ ?_; rotate_left; (focus (intro W hW; go_simp; first | done | with_reducible rfl)); simp only [Act.put, List.setIfInBounds_toArray, List.set_cons_zero, List.set_cons_succ])
            have C23 := Lib.hid (HCK.out _ _ _ QR_27.out)
            try simp only [qV] at C23
            refine wpSeq_exec (o := ⟨_, _, _, _, _, _⟩) rfl rfl (fun K hK => ?_)
            go_simp
            (with_reducible refine (C23.out).mono ?_)
            rintro e v3 ⟨rfl, hc3⟩
            go_wp2_with fail
            refine hK _ _ hc3 ?_
            clear hK K
            have BR_30 := Lib.hid (BR_24.out.trans (hc3.mono BR_24.out.size))
            have HB9_31 := Lib.hid (HB9_25.out.trans (hc3.mono HB9_25.out.size))
            have BB_32 := Lib.hid (bel_step BB_26.out hc3)
            have QR_33 := Lib.hid (QR_27.out.bel hc3)
            have QZ_34 := Lib.hid (QZ_28.out.bel hc3)
            have Z_35 := Lib.hid (Z_29.out.below hc3 Z_29.out.lt)
            clear BR_24 HB9_25 BB_26 QR_27 QZ_28 Z_29
            have Lr0_3 := fun W (h : Below v3.heap.size v3 W) => Lr0_2 W (bel_step hc3 h)
            have Lr1_3 := fun W (h : Below v3.heap.size v3 W) => Lr1_2 W (bel_step hc3 h)
            have Lr2_3 := fun W (h : Below v3.heap.size v3 W) => Lr2_2 W (bel_step hc3 h)
            have Lr3_3 := fun W (h : Below v3.heap.size v3 W) => Lr3_2 W (bel_step hc3 h)
            have Lz0_3 := fun W (h : Below v3.heap.size v3 W) => Lz0_2 W (bel_step hc3 h)
            have Lz1_3 := fun W (h : Below v3.heap.size v3 W) => Lz1_2 W (bel_step hc3 h)
            have Lz2_3 := fun W (h : Below v3.heap.size v3 W) => Lz2_2 W (bel_step hc3 h)
            have Lz3_3 := fun W (h : Below v3.heap.size v3 W) => Lz3_2 W (bel_step hc3 h)
            clear Lr0_2 Lr1_2 Lr2_2 Lr3_2 Lz0_2 Lz1_2 Lz2_2 Lz3_2
            iterate 2 (refine wpSeq_take (o := ⟨_, _, _, _, _, _⟩) (v := ?_) rfl rfl ?_ ?_; rotate_left; (focus (intro W hW; go_simp; first | done | with_reducible rfl)); simp only [Act.put, List.setIfInBounds_toArray, List.set_cons_zero, List.set_cons_succ])
            iterate 2 (refine wpSeq_skip (o := ⟨_, _, _, _, _, _⟩) rfl rfl ?_; simp only [Act.put, List.setIfInBounds_toArray, List.set_cons_zero, List.set_cons_succ])
            iterate 2 (refine wpSeq_take (o := ⟨_, _, _, _, _, _⟩) (v := ?_) rfl rfl ?_ ?_; rotate_left; (focus (intro W hW; go_simp; first | done | with_reducible rfl)); simp only [Act.put, List.setIfInBounds_toArray, List.set_cons_zero, List.set_cons_succ])
            refine wpSeq_nil ?_
            clear Lr0_3 Lr1_3 Lr2_3 Lr3_3 Lz0_3 Lz1_3 Lz2_3 Lz3_3
            go_wp2_with fail
            go_roundw
            case rel => exact ⟨k + 1, by go_num, by omega, HB9_31⟩
            case measure => simp [intOf]; omega
          · clear HCS
            rw [hok] at HCK
            clear HSM
            clear hok
            go_wp2_with fail
            refine wp_region_seq (by kernel_rfl) [(0, true), (1, true), (2, true), (3, true), (4, false), (5, true), (6, true), (7, true), (8, true), (9, true), (10, true), (11, true), (12, true), (13, true), (14, false), (15, true), (16, true), (17, true), (18, true), (19, true), (20, true), (21, true), (22, true), (23, false), (24, true), (25, true), (26, true), (27, true), (28, true), (29, true)] (by kernel_rfl) rfl (by kernel_rfl) ?_
            intro w0 hb0
            try simp only [qV] at hb0
            have BR_12 := Lib.hid (BR_6.out.trans (hb0.mono BR_6.out.size))
            have HB9_13 := Lib.hid (HB9_7.out.trans (hb0.mono HB9_7.out.size))
            have BB_14 := Lib.hid (bel_step BB_8.out hb0)
            have QR_15 := Lib.hid (QR_9.out.bel hb0)
            have QZ_16 := Lib.hid (QZ_10.out.bel hb0)
            have Z_17 := Lib.hid (Z_11.out.below hb0 Z_11.out.lt)
            clear BR_6 HB9_7 BB_8 QR_9 QZ_10 Z_11
            clear hb0
            have Lr0_0 := later (L0 w0 BR_12.out)
            have Lr1_0 := later (L1 w0 BR_12.out)
            have Lr2_0 := later (L2 w0 BR_12.out)
            have Lr3_0 := later (L3 w0 BR_12.out)
            obtain ⟨zz0, zz1, zz2, zz3⟩ := box_facts Z_17.out
            try simp only [qV, Qy.zero, Qy.op, Qy.n, Qy.s, Qy.kids, List.length_nil] at zz0 zz1 zz2 zz3
            have Lz0_0 := later zz0
            have Lz1_0 := later zz1
            have Lz2_0 := later zz2
            have Lz3_0 := later zz3
            clear L0 L1 L2 L3 zz0 zz1 zz2 zz3
            iterate 4 (refine wpSeq_take (o := ⟨_, _, _, _, _, _⟩) (v := ?_) rfl rfl ?_ ?_; rotate_left; (focus (intro W hW; go_simp; first | done | with_reducible rfl)); simp only [Act.put, List.setIfInBounds_toArray, List.set_cons_zero, List.set_cons_succ])
            have C4 := Lib.hid (HCK.out _ _ _ QR_15.out)
            try simp only [qV] at C4
            refine wpSeq_exec (o := ⟨_, _, _, _, _, _⟩) rfl rfl (fun K hK => ?_)
            go_simp
            (with_reducible refine (C4.out).mono ?_)
            rintro e v1 ⟨rfl, hc1⟩
            go_wp2_with fail
            refine hK _ _ hc1 ?_
            clear hK K
            have BR_18 := Lib.hid (BR_12.out.trans (hc1.mono BR_12.out.size))
            have HB9_19 := Lib.hid (HB9_13.out.trans (hc1.mono HB9_13.out.size))
            have BB_20 := Lib.hid (bel_step BB_14.out hc1)
            have QR_21 := Lib.hid (QR_15.out.bel hc1)
            have QZ_22 := Lib.hid (QZ_16.out.bel hc1)
            have Z_23 := Lib.hid (Z_17.out.below hc1 Z_17.out.lt)
            clear BR_12 HB9_13 BB_14 QR_15 QZ_16 Z_17
            have Lr0_1 := fun W (h : Below v1.heap.size v1 W) => Lr0_0 W (bel_step hc1 h)
            have Lr1_1 := fun W (h : Below v1.heap.size v1 W) => Lr1_0 W (bel_step hc1 h)
            have Lr2_1 := fun W (h : Below v1.heap.size v1 W) => Lr2_0 W (bel_step hc1 h)
            have Lr3_1 := fun W (h : Below v1.heap.size v1 W) => Lr3_0 W (bel_step hc1 h)
            have Lz0_1 := fun W (h : Below v1.heap.size v1 W) => Lz0_0 W (bel_step hc1 h)
            have Lz1_1 := fun W (h : Below v1.heap.size v1 W) => Lz1_0 W (bel_step hc1 h)
            have Lz2_1 := fun W (h : Below v1.heap.size v1 W) => Lz2_0 W (bel_step hc1 h)
            have Lz3_1 := fun W (h : Below v1.heap.size v1 W) => Lz3_0 W (bel_step hc1 h)
            clear Lr0_0 Lr1_0 Lr2_0 Lr3_0 Lz0_0 Lz1_0 Lz2_0 Lz3_0
            iterate 1 (refine wpSeq_take (o := ⟨_, _, _, _, _, _⟩) (v := ?_) rfl rfl ?_ ?_; rotate_left; (focus (intro W hW; go_simp; first | done | with_reducible rfl)); simp only [Act.put, List.setIfInBounds_toArray, List.set_cons_zero, List.set_cons_succ])
            iterate 8 (refine wpSeq_skip (o := ⟨_, _, _, _, _, _⟩) rfl rfl ?_; simp only [Act.put, List.setIfInBounds_toArray, List.set_cons_zero, List.set_cons_succ])
            refine wpSeq_none (o := ⟨_, _, _, _, _, _⟩) rfl rfl ?_; simp only [Act.put, List.setIfInBounds_toArray, List.set_cons_zero, List.set_cons_succ]
            iterate 2 (refine wpSeq_skip (o := ⟨_, _, _, _, _, _⟩) rfl rfl ?_; simp only [Act.put, List.setIfInBounds_toArray, List.set_cons_zero, List.set_cons_succ])
            iterate 6 (refine wpSeq_take (o := ⟨_, _, _, _, _, _⟩) (v := ?_) rfl rfl ?_ ?_; rotate_left; (focus (intro W hW; go_simp; first | done | with_reducible rfl)); simp only [Act.put, List.setIfInBounds_toArray, List.set_cons_zero, List.set_cons_succ])
            have C23 := Lib.hid (HCK.out _ _ _ QR_21.out)
            try simp only [qV] at C23
            refine wpSeq_exec (o := ⟨_, _, _, _, _, _⟩) rfl rfl (fun K hK => ?_)
            go_simp
            (with_reducible refine (C23.out).mono ?_)
            rintro e v2 ⟨rfl, hc2⟩
            go_wp2_with fail
            refine hK _ _ hc2 ?_
            clear hK K
            have BR_24 := Lib.hid (BR_18.out.trans (hc2.mono BR_18.out.size))
            have HB9_25 := Lib.hid (HB9_19.out.trans (hc2.mono HB9_19.out.size))
            have BB_26 := Lib.hid (bel_step BB_20.out hc2)
            have QR_27 := Lib.hid (QR_21.out.bel hc2)
            have QZ_28 := Lib.hid (QZ_22.out.bel hc2)
            have Z_29 := Lib.hid (Z_23.out.below hc2 Z_23.out.lt)
            clear BR_18 HB9_19 BB_20 QR_21 QZ_22 Z_23
            have Lr0_2 := fun W (h : Below v2.heap.size v2 W) => Lr0_1 W (bel_step hc2 h)
            have Lr1_2 := fun W (h : Below v2.heap.size v2 W) => Lr1_1 W (bel_step hc2 h)
            have Lr2_2 := fun W (h : Below v2.heap.size v2 W) => Lr2_1 W (bel_step hc2 h)
            have Lr3_2 := fun W (h : Below v2.heap.size v2 W) => Lr3_1 W (bel_step hc2 h)
            have Lz0_2 := fun W (h : Below v2.heap.size v2 W) => Lz0_1 W (bel_step hc2 h)
            have Lz1_2 := fun W (h : Below v2.heap.size v2 W) => Lz1_1 W (bel_step hc2 h)
            have Lz2_2 := fun W (h : Below v2.heap.size v2 W) => Lz2_1 W (bel_step hc2 h)
            have Lz3_2 := fun W (h : Below v2.heap.size v2 W) => Lz3_1 W (bel_step hc2 h)
            clear Lr0_1 Lr1_1 Lr2_1 Lr3_1 Lz0_1 Lz1_1 Lz2_1 Lz3_1
            iterate 6 (refine wpSeq_take (o := ⟨_, _, _, _, _, _⟩) (v := ?_) rfl rfl ?_ ?_; rotate_left; (focus (intro W hW; go_simp; first | done | with_reducible rfl)); simp only [Act.put, List.setIfInBounds_toArray, List.set_cons_zero, List.set_cons_succ])
            refine wpSeq_nil ?_
            clear Lr0_2 Lr1_2 Lr2_2 Lr3_2 Lz0_2 Lz1_2 Lz2_2 Lz3_2
            go_wp2_with fail
            go_roundw
            case rel => exact ⟨k + 1, by go_num, by omega, HB9_25⟩
            case measure => simp [intOf]; omega
        · obtain rfl : k = 4 := by omega
          clear HTr HQr HB HWr
          go_wp2_with fail
          go_ret
          exact ⟨rfl, HBr.out⟩
theorem qparseJoins_any (s t : ByteArray) (w : World) (hs : s.size ≤ 9223372036854775807) (ht : t.size ≤ 9223372036854775807) (hW : QpW w) : Calls Tryz.prog 7 #[.string s, .string t] w (RetTrue w) := by
  have h_ := qparseJoins_walk (bl s) (bl t) w (by rw [bl_len]; exact hs) (by rw [bl_len]; exact ht) hW
  rw [bl_mk, bl_mk] at h_
  exact h_
end Go.Proofs.YtjjlmkleidbmhaaGreatDoor
end
