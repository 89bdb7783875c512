/-
  Tokens.
-/
import Derived.Test.YtnagckdaleafdaaXmR
namespace Go.Proofs.Ytnagckdaleafdaa
open Go.RowKit Go.Nst
set_option maxRecDepth 100000
set_option linter.unusedVariables false
set_option linter.unusedSimpArgs false

theorem openD_tx {n : List UInt8} : ∀ (k : Nat) {ats : List Xat} {l b : List UInt8} {ts : List Xtk}, openD n k ats l = some (ts, b) → ts.length ≤ 2 ∧ ∀ t ∈ ts, t.tx = [] := by
  intro k
  induction k with
  | zero =>
    intro ats l b ts h
    unfold openD at h
    split at h
    · injection h with h; injection h with h _; subst h; simp
    · split at h
      · injection h with h; injection h with h _; subst h; simp
      · split at h
        · cases h
        · split at h <;> cases h
  | succ k ih =>
    intro ats l b ts h
    unfold openD at h
    split at h
    · injection h with h; injection h with h _; subst h; simp
    · split at h
      · injection h with h; injection h with h _; subst h; simp
      · split at h
        · cases h
        · split at h
          · cases h
          · simp only at h
            split at h
            · cases h
            · exact ih h
theorem partD_tx {l b : List UInt8} {ts : List Xtk} (hl : l.length ≤ 100000) (h : partD l = some (ts, b)) : ts.length ≤ 2 ∧ ∀ t ∈ ts, t.tx.length ≤ 1000000 := by
  unfold partD at h
  split at h
  · split at h
    · cases h
    · injection h with h; injection h with h _; subst h; simp
  split at h
  · split at h
    · cases h
    · injection h with h; injection h with h _; subst h; simp
  split at h
  · split at h
    · cases h
    · split at h
      · cases h
      · injection h with h; injection h with h _; subst h; simp
  split at h
  · split at h
    · cases h
    · rename_i a b' hu
      injection h with h; injection h with h _; subst h
      have := uptoD_len hu
      rw [List.length_drop] at this
      refine ⟨by simp, fun t ht => ?_⟩
      simp only [List.mem_cons, List.not_mem_nil, or_false] at ht
      subst ht
      simp only
      omega
  split at h
  · split at h
    · cases h
    · split at h
      · cases h
      · split at h
        · injection h with h; injection h with h _; subst h; simp
        · cases h
  split at h
  · split at h
    · cases h
    · have := openD_tx _ h
      exact ⟨this.1, fun t ht => by rw [this.2 t ht]; simp⟩
  · injection h with h; injection h with h _; subst h
    refine ⟨by simp, fun t ht => ?_⟩
    simp only [List.mem_cons, List.not_mem_nil, or_false] at ht
    subst ht
    have h1 := readL_len _ (l.takeWhile txtB) (Nat.le_refl _)
    have h2 : (l.takeWhile txtB).length ≤ l.length := (List.takeWhile_prefix txtB).length_le
    simp only
    omega
def txB (K : Nat) (L : List Xtk) : Prop := ∀ u ∈ L, u.tx.length ≤ K
theorem txB.add {K : Nat} {L : List Xtk} {t : Xtk} (h : txB K L) (ht : t.tx.length ≤ 1000000) : txB (K + 1000000) (addT L t) := by
  have h1 : txB (K + 1000000) L := fun u hu => by have := h u hu; omega
  have h2 : txB (K + 1000000) (L ++ [t]) := fun u hu => by
    rcases List.mem_append.1 hu with hu | hu
    · exact h1 u hu
    · simp only [List.mem_cons, List.not_mem_nil, or_false] at hu
      subst hu
      omega
  unfold addT
  split
  · split
    · exact h1
    · split
      · rename_i u hu
        split
        · intro v hv
          rcases List.mem_append.1 hv with hv | hv
          · exact h1 v (List.dropLast_subset L hv)
          · simp only [List.mem_cons, List.not_mem_nil, or_false] at hv
            subst hv
            have := h u (List.mem_of_getLast? hu)
            simp only [List.length_append]
            omega
        · exact h2
      · exact h2
  · exact h2
theorem txB.adds : ∀ {ts : List Xtk} {K : Nat} {L : List Xtk}, txB K L → (∀ t ∈ ts, t.tx.length ≤ 1000000) → txB (K + 1000000 * ts.length) (ts.foldl addT L)
  | [], K, L, h, _ => by simpa using h
  | t :: ts, K, L, h, ht => by
    have h1 := txB.adds (ts := ts) (h.add (ht t (by simp))) (fun u hu => ht u (by simp [hu]))
    simp only [List.foldl_cons, List.length_cons]
    rw [show K + 1000000 * (ts.length + 1) = K + 1000000 + 1000000 * ts.length by omega]
    exact h1
def RetTok (w : World) (r : XRes) (e : Ending) (w' : World) : Prop := ∃ A n c, e = .returned (.tuple #[.slice A n c, .int .i64 r.2.1, .int .i64 r.2.2]) ∧ XtA w' (fun b => w.heap.size ≤ b) A n r.1 ∧ n ≤ c ∧ c ≤ 9223372036854775807 ∧ Below w.heap.size w w'
/-- what holds at each round: the reader, the row of tokens -/
def TkF (w wr : World) (s : XS) (A : Option Addr) (n c : Nat) (L : List Xtk) : Prop :=
  XrB wr w.heap.size s.1 s.2 ∧ XtO wr (w.heap.size + 1) (fun b => w.heap.size + 1 ≤ b) A n c L ∧ ML w ∧ Below w.heap.size w wr
theorem TkF.ml {w wr : World} {s : XS} {A : Option Addr} {n c : Nat} {L : List Xtk} (h : TkF w wr s A n c L) : ML wr := h.2.2.1.below h.2.2.2
theorem TkF.size {w wr : World} {s : XS} {A : Option Addr} {n c : Nat} {L : List Xtk} (h : TkF w wr s A n c L) : w.heap.size + 1 ≤ wr.heap.size := Blk.lt h.1
/-- a part's tokens stand outside the row -/
def TkP (wv : World) (B : Nat) (own : Option Nat) (At : Option Addr) (m : Nat) (ts : List Xtk) : Prop := XtA wv (fun b => B ≤ b ∧ some b ≠ own) At m ts
theorem TkF.part {w wr w1 : World} {l : List UInt8} {s : XS} {A : Option Addr} {n c : Nat} {L : List Xtk} {ts : List Xtk} {e : Ending} (h : TkF w wr (l, false) A n c L) (h2 : RetTk wr w.heap.size ts s e w1) :
    ∃ At m ct, e = .returned (.slice At m ct) ∧ ts.length = m ∧ m ≤ ct ∧ ct ≤ 9223372036854775807 ∧ TkF w w1 s A n c L ∧ TkP w1 (w.heap.size + 1) (Value.slice A n c).ownBlock At m ts := by
  obtain ⟨At, m, ct, he, hA, hc, hm, hx, hg⟩ := h2
  have hlt := h.2.1.lt
  have hz := h.size
  refine ⟨At, m, ct, he, hA.len, hc, hm, ⟨hx, h.2.1.grown xtP hg (fun g' e => ?_), h.2.2.1, below_only h.2.2.2 hg (Nat.le_refl _) (Nat.le_trans (Nat.le_succ _) hz)⟩, hA.wide xtP (fun b hb hlt' => ⟨by omega, fun e => by have := hlt b e.symm; omega⟩)⟩
  injection e with e
  subst e
  exact ⟨by omega, fun e => by have := hlt _ e; omega⟩
theorem TkF.bel {w wr w1 : World} {s : XS} {A : Option Addr} {n c : Nat} {L : List Xtk} (h : TkF w wr s A n c L) (hb : Below wr.heap.size wr w1) : TkF w w1 s A n c L :=
  ⟨h.1.below hb h.1.lt, h.2.1.bel xtP hb, h.2.2.1, bel_step h.2.2.2 hb⟩
theorem TkP.bel {wv w1 : World} {B : Nat} {own : Option Nat} {At : Option Addr} {m : Nat} {ts : List Xtk} (h : TkP wv B own At m ts) (hb : Below wv.heap.size wv w1) : TkP w1 B own At m ts := RwA.bel xtP h hb
theorem TkF.add {w wr w1 : World} {s : XS} {A : Option Addr} {n c : Nat} {L L' : List Xtk} {e : Ending} {At : Option Addr} {m : Nat} {ts : List Xtk} (h : TkF w wr s A n c L) (hp : TkP wr (w.heap.size + 1) (Value.slice A n c).ownBlock At m ts)
    (h2 : RetAdd wr (w.heap.size + 1) (fun b => w.heap.size + 1 ≤ b) (Value.slice A n c).ownBlock L' e w1) :
    ∃ A' n' c', e = .returned (.slice A' n' c') ∧ TkF w w1 s A' n' c' L' ∧ TkP w1 (w.heap.size + 1) (Value.slice A' n' c').ownBlock At m ts := by
  obtain ⟨A', n', c', he, hO, hB, hg, hown⟩ := h2
  have hz := h.size
  have hB2 := hB.mono (show w.heap.size ≤ w.heap.size + 1 by omega)
  refine ⟨A', n', c', he, ⟨h.1.below hB (by omega), hO, h.2.2.1, h.2.2.2.trans hB2⟩, RwA.keep xtP (fun b hb hlt => hg.block b hlt hb.2) hg.size (fun b hb hlt => ⟨hb.1, fun e => ?_⟩) hp⟩
  rcases hown b e with e2 | e2
  · exact hb.2 e2
  · omega
theorem RetPt.any {w w' : World} {g : Nat} {l : List UInt8} {e : Ending} (hl : l.length ≤ 100000) (h : RetPt w g (partD l) e w') : ∃ ts l2 b2, RetTk w g ts (l2, b2) e w' ∧ ts.length ≤ 2 ∧ (∀ t ∈ ts, t.tx.length ≤ 1000000) ∧ ((b2 = false ∧ partD l = some (ts, l2)) ∨ (b2 = true ∧ partD l = none)) := by
  cases hp : partD l with
  | none =>
    rw [hp] at h
    obtain ⟨ts, l', h1, h2, h3⟩ := h
    exact ⟨ts, l', true, h1, h2, h3, .inr ⟨rfl, rfl⟩⟩
  | some x =>
    obtain ⟨ts, b⟩ := x
    rw [hp] at h
    have := partD_tx hl hp
    exact ⟨ts, b, false, h, this.1, this.2, .inl ⟨rfl, rfl⟩⟩
theorem tokF_some {N f : Nat} {out : List Xtk} {d b : List UInt8} {ts : List Xtk} (hd : 0 < d.length) (hf : d.length ≤ f) (h : partD d = some (ts, b)) : tokF N f out d = if 8192 < (ts.foldl addT out).length then ([], (N : Int) - (d.length : Int), 3) else tokF N (f - 1) (ts.foldl addT out) b := by
  cases d with
  | nil => simp at hd
  | cons c l =>
    obtain ⟨f, rfl⟩ : ∃ g, f = g + 1 := ⟨f - 1, by simp only [List.length_cons] at hf; omega⟩
    rw [tokF, h]
    rfl
theorem tokF_none {N f : Nat} {out : List Xtk} {d : List UInt8} (hd : 0 < d.length) (hf : d.length ≤ f) (h : partD d = none) : tokF N f out d = ([], (N : Int) - (d.length : Int), 80) := by
  cases d with
  | nil => simp at hd
  | cons c l =>
    obtain ⟨f, rfl⟩ : ∃ g, f = g + 1 := ⟨f - 1, by simp only [List.length_cons] at hf; omega⟩
    rw [tokF, h]
theorem part_len {d b : List UInt8} {ts : List Xtk} (hd : 0 < d.length) (h : partD d = some (ts, b)) : ts.length + b.length ≤ d.length ∧ b.length < d.length := by
  cases d with
  | nil => simp at hd
  | cons c l => exact partD_len h
set_option maxHeartbeats 8000000 in
theorem Tokens8_any (s : List UInt8) (w : World) (hM : ML w) (hs : s.length ≤ 1000000) :
    Calls Try.prog 8 #[.string ⟨s.toArray⟩] w (RetTok w (tokD s)) := by
  by_cases hlong : 65536 < s.length
  · have hd : decide ((65536 : Int) < (s.length : Int)) = true := by simp; omega
    have hv : tokD s = ([], 0, 3) := by unfold tokD; rw [if_pos hlong]
    rw [hv]
    clear hv
    go_enter Try.func8, Try.ntmps8
    go_wp2_with fail
    go_ret3
    exact ⟨none, 0, 0, rfl, RwA.nil _, Nat.le_refl _, by omega, Below.refl _ _⟩
  · have hd : decide ((65536 : Int) < (s.length : Int)) = false := by simp; omega
    have HT : Hid (tokD s = tokF s.length s.length [] s) := Lib.hid (by unfold tokD; rw [if_neg hlong])
    generalize tokD s = tot at *
    have F0 : Hid (TkF w (w.alloc (.cells #[.string ⟨s.toArray⟩, .bool false] 42)) (s, false) none 0 0 []) := Lib.hid ⟨Blk.new w _ _, RwO.nil, hM, bel_alloc (Below.refl _ _) _⟩
    clear hM
    go_enter Try.func8, Try.ntmps8
    go_wp2_with fail
    go_loopw [5] (fun v wr => ∃ (A : Option Addr) (n c : Nat) (L : List Xtk) (l : List UInt8) (f : Nat), v = .slice A n c ∧ Hid (TkF w wr (l, false) A n c L) ∧ n ≤ 8192 ∧ l.length ≤ s.length ∧ Hid (txB (2000000 * (s.length - l.length)) L) ∧ Hid (l.length ≤ f ∧ tot = tokF s.length f L l)) (fun _ wr => strL (wr.cell? ⟨w.heap.size, 0, none⟩))
    case atStart => exact ⟨none, 0, 0, [], s, s.length, rfl, F0, by omega, by omega, Lib.hid (fun u hu => by cases hu), Lib.hid ⟨Nat.le_refl _, HT.out⟩⟩
    case round =>
      obtain ⟨A, n, c, L, l, f, rfl, HF, hn8, hls, HX, HV⟩ := hrel
      clear HT F0
      have hcap := HF.out.2.1.cap
      have hc1 := hcap.1
      have hc2 := hcap.2
      clear hcap
      have z0 := HF.out.1.cell 0
      cases l with
      | nil =>
        have HE : Hid (tot = (L, (s.length : Int), 0)) := Lib.hid (by rw [HV.out.2]; cases f <;> rfl)
        simp at z0
        go_wp2_with fail
        go_ret3
        rw [HE.out]
        exact ⟨A, n, c, rfl, HF.out.2.1.qs xtP (fun b hb _ => by omega) (fun b hb _ => by omega), hc1, hc2, HF.out.2.2.2⟩
      | cons ch l' =>
        obtain ⟨d, hd'⟩ : ∃ d, ch :: l' = d := ⟨_, rfl⟩
        have hdl : 0 < d.length := by rw [← hd']; simp
        have HD := Lib.hid hd'
        have hne1 : d.isEmpty = false := by rw [← hd']; rfl
        have hne2 : ¬ d = [] := by rw [← hd']; simp
        have hne3 : ((⟨d.toArray⟩ : ByteArray) == ⟨#[]⟩) = false := by rw [← hd']; rfl
        rw [hd'] at HF hls HX HV z0
        simp at z0
        clear hd'
        have HP := Lib.hid (part8_any w.heap.size d wr HF.out.1 (by omega) HF.out.ml)
        have HSZ := Lib.hid z0
        have HC0 := Lib.hid (show A = A from rfl)
        go_wp2_with fail
        (with_reducible refine (HP.out).mono ?_)
        intro e w1 hh
        obtain ⟨ts, l2, b2, hk, ht2, htx, hb2⟩ := RetPt.any (by omega) hh
        obtain ⟨At, m, ct, rfl, hm, hmct, hct, F1, P1⟩ := HF.out.part hk
        have HB2 := Lib.hid hb2
        have HTX := Lib.hid htx
        have HF1 := Lib.hid F1
        have HP1 := Lib.hid P1
        have HM := Lib.hid hm
        have hm2 : m ≤ 2 := by omega
        have HLN := Lib.hid HF.out.2.1.len
        clear hh hk htx hb2 F1 P1 hm ht2 HP HF z0
        go_wp2_with fail
        obtain ⟨wo, rfl⟩ : ∃ wo : World, wo = wr := ⟨_, rfl⟩
        go_loopw [5, 32] (fun v i wv => ∃ (k : Nat) (A' : Option Addr) (n' c' : Nat), k ≤ m ∧ i = .int .i64 (k : Int) ∧ v = .slice A' n' c' ∧ Hid (TkF w wv (l2, b2) A' n' c' ((ts.take k).foldl addT L)) ∧ Hid (TkP wv (w.heap.size + 1) (Value.slice A' n' c').ownBlock At m ts)) (fun _ i _ => m - (intOf i).toNat)
        case atStart => exact ⟨0, A, n, c, Nat.zero_le _, rfl, rfl, HF1, HP1⟩
        case round =>
          obtain ⟨k, A', n', c', hkm, rfl, rfl, HF2, HP2⟩ := hrel
          clear HF1 HP1
          have hcap2 := HF2.out.2.1.cap
          have hc1' := hcap2.1
          have hc2' := hcap2.2
          have hLn := HF2.out.2.1.len
          have hLn0 := adds_len (ts.take k) L
          have hLnn : L.length ≤ 8192 := by have := HLN.out; omega
          have hn' : n' ≤ 8194 := by rw [List.length_take] at hLn0; omega
          have HLN2 := Lib.hid hLn
          clear hcap2 hLn hLn0 hLnn
          by_cases hlt : k < m
          · have hltb : decide (k < m) = true := by simpa using hlt
            obtain ⟨t, B, dd, b, off, hg, rfl, hS, hblt, hP, hkd, hnm, htx1, hat, hdd, -, y0, y1, y2, y3⟩ := xt_at HP2.out hlt
            have hmem := List.mem_of_getElem? hg.out
            have E1 := bel_alloc (Below.refl wr.heap.size wr) (.cells (xtV t B t.ats.length dd) 36)
            have HF3 := Lib.hid (HF2.out.bel E1)
            have HP3 := Lib.hid (HP2.out.bel E1)
            have HNX : Hid ((ts.take (k + 1)).foldl addT L = addT ((ts.take k).foldl addT L) t) := Lib.hid (by rw [List.take_add_one, hg.out, List.foldl_append]; rfl)
            have hb12 : ∀ u ∈ (ts.take k).foldl addT L, u.tx.length ≤ 1000000000000 := fun u hu => by
              have h1 := txB.adds (ts := ts.take k) HX.out (fun t ht => HTX.out t (List.mem_of_mem_take ht)) u hu
              rw [List.length_take] at h1
              omega
            have HC := Lib.hid (add8_any ((ts.take k).foldl addT L) A' n' c' (w.heap.size + 1) (fun b => w.heap.size + 1 ≤ b) t B dd _ HF3.out.2.1 HF3.out.size (by omega) (xtP.bel hP.out E1) hb12 (HTX.out t hmem))
            clear HF2 HP2 hP E1 hb12 hmem
            simp only [xtV] at HC
            go_wp2_with fail
            (with_reducible refine (HC.out).mono ?_)
            intro e w2 hh
            obtain ⟨A'', n'', c'', rfl, F4, P4⟩ := HF3.out.add HP3.out hh
            have HF4 := Lib.hid F4
            have HP4 := Lib.hid P4
            clear hh F4 P4 HF3 HP3 HC
            go_wp2_with fail
            go_roundw
            case rel => exact ⟨k + 1, A'', n'', c'', by omega, by go_num, rfl, by rw [HNX.out]; exact HF4, HP4⟩
            case measure => simp [intOf]; omega
          · obtain rfl : k = m := by omega
            have hltb : decide (k < k) = false := by simp
            have z1 := HF2.out.1.cell 1
            have z0 := HF2.out.1.cell 0
            simp at z1 z0
            have hta : ts.take k = ts := List.take_of_length_le (by have := HM.out; omega)
            rw [hta] at HF2 HLN2
            have HZ0 := Lib.hid z0
            clear hta z0 HP2
            rcases HB2.out with ⟨rfl, hp⟩ | ⟨rfl, hp⟩
            · have hlen := part_len hdl hp
              have HV2 := Lib.hid (HV.out.2.trans (tokF_some hdl HV.out.1 hp))
              have HTX2 := txB.adds HX.out HTX.out
              have hl2 : l2.length < d.length := hlen.2
              have hts : ts.length ≤ 2 := by have := HM.out; omega
              by_cases h81 : 8192 < n'
              · have d81 : decide ((8192 : Int) < (n' : Int)) = true := by simp; omega
                have d81' : decide (8192 < n') = true := by simpa using h81
                have HV3 : Hid (tot = ([], (s.length : Int) - (d.length : Int), 3)) := Lib.hid (by rw [HV2.out, if_pos (by rw [HLN2.out]; exact h81)])
                clear HB2 hp hlen HV2 HTX2 hts
                go_wp2_with fail
                go_ret3
                rw [HV3.out]
                exact ⟨none, 0, 0, rfl, RwA.nil _, Nat.le_refl _, by omega, HF2.out.2.2.2⟩
              · have d81 : decide ((8192 : Int) < (n' : Int)) = false := by simp; omega
                have d81' : decide (8192 < n') = false := by simpa using h81
                have HV3 : Hid (l2.length ≤ f - 1 ∧ tot = tokF s.length (f - 1) (ts.foldl addT L) l2) := Lib.hid ⟨by have := HV.out.1; omega, by rw [HV2.out, if_neg (by rw [HLN2.out]; exact h81)]⟩
                have HTX3 : Hid (txB (2000000 * (s.length - l2.length)) (ts.foldl addT L)) := Lib.hid (fun u hu => by have := HTX2 u hu; omega)
                clear HB2 hp hlen HV2 HTX2
                go_wp2_with fail
                go_roundw
                case rel => exact ⟨A', n', c', ts.foldl addT L, l2, f - 1, rfl, HF2, by omega, by omega, HTX3, HV3⟩
                case measure =>
                  rw [HZ0.out, HSZ.out]
                  simp only [strL, size_of]
                  exact hl2
            · have HV3 : Hid (tot = ([], (s.length : Int) - (d.length : Int), 80)) := Lib.hid (HV.out.2.trans (tokF_none hdl HV.out.1 hp))
              clear HB2 hp
              go_wp2_with fail
              go_ret3
              rw [HV3.out]
              exact ⟨none, 0, 0, rfl, RwA.nil _, Nat.le_refl _, by omega, HF2.out.2.2.2⟩
end Go.Proofs.Ytnagckdaleafdaa
