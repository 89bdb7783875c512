/-
  The run with which each statement on frames begins.
  FramePuts, FrameNexts, FrameScans: the walks.
  Rows of ints of the call's own beside rows of bytes; an argument that is a slice of slices of bytes; frames that are cut off, in plain Lean.
-/
import Derived.Test.YtfepinnfhcjopaaGreatDoorFrm
import Derived.Test.YtfepinnfhcjopaaGreatDoorFrame
import Derived.Deep.Matrix
section
namespace Go.Proofs.YtfepinnfhcjopaaGreatDoor
open Go.RowKit Go.Nst
set_option maxRecDepth 100000
set_option linter.unusedVariables false
set_option linter.unusedSimpArgs false

theorem ow_cap63 {w : World} {base n c : Nat} {A : Option Addr} {l : List UInt8} (h : Ow w base A n c l) : c ≤ 9223372036854775807 := by
  rcases h.2 with ⟨e, rfl⟩ | ⟨g, cap, cur, hv, hg, hh, hnc, hcm, r⟩
  · injection e with _ _ e; omega
  · injection hv with _ _ e; unfold maxLen at hcm; omega
theorem l17_put : putE [7] = ([2, 7, 46, 122, 102, 76], 0) := by decide +kernel
theorem l17_no : putE [] = ([], 1) := by decide +kernel
theorem l17_whole : nextL [2, 7, 46, 122, 102, 76, 1] = ([7], 6, 1) := by decide +kernel
theorem l17_torn : nextL [2, 7, 46, 122, 102] = ([], 0, 2) := by decide +kernel
theorem l17_bad : nextL [0] = ([], 0, 3) := by decide +kernel
theorem l17_scan : scanL [2, 7, 46, 122, 102, 76, 2] = ([[7]], 6, 2) := by decide +kernel
theorem l17_size : sizeN 1 = 6 := by decide +kernel

end Go.Proofs.YtfepinnfhcjopaaGreatDoor
end
section
namespace Go.Proofs.YtfepinnfhcjopaaGreatDoor
open Go.RowKit Go.Nst
set_option maxRecDepth 100000
set_option linter.unusedVariables false
set_option linter.unusedSimpArgs false

end Go.Proofs.YtfepinnfhcjopaaGreatDoor
end
section
namespace Go.Proofs.YtfepinnfhcjopaaGreatDoor
open Go.ChangeShapes Go.WideShapes Go.ChangeAt
open Go.RowKit Go.Nst
set_option maxRecDepth 100000
set_option linter.unusedVariables false
set_option linter.unusedSimpArgs false

/-- a slice of slices of bytes that came in -/
theorem open_bytess_ {H : Type} {enc : TypeId × Value → H} {W : World} {base : Nat} {v : Value} {d : DataW H} {p : List MemPlace} (hv : Value.okWide Tryz.prog W .any base 24 v) (h0 : DataW.Trod enc Tryz.prog W 0 (fun _ => true) true 24 v d p) :
    ∃ A n c, ∃ ps : List Part, v = .slice A n c ∧ (Reads W W.heap.size 1 A n (ps.map Part.val) ∧ ∀ p ∈ ps, Bs W p.A p.n p.l ∧ p.n ≤ p.c ∧ p.c ≤ 9223372036854775807) ∧ n ≤ c ∧ c ≤ 9223372036854775807 := by
  obtain ⟨a0, len0, cap0, rfl⟩ := okWide_slice Tryz.underlying24 hv
  obtain ⟨fuel, hf⟩ := h0
  rcases Deep.open_int_rows Tryz.underlying24 Tryz.underlying22 Tryz.underlying5 (by kernel_rfl) (by kernel_rfl) hf with ⟨hcs, _⟩ | ⟨x, ln, c, A, L, C, Z, hcs, _, hl, hm, _, hrow⟩
  · simp [Value.cells] at hcs
    obtain ⟨rfl, rfl, rfl⟩ := hcs
    exact ⟨none, 0, 0, [], rfl, ⟨Reads.none_, by simp⟩, Nat.le_refl _, by omega⟩
  · simp [Value.cells] at hcs
    obtain ⟨rfl, rfl, rfl⟩ := hcs
    have hlen : (((List.range len0).map fun r => (⟨A r, L r, C r, ((Z r).take (L r)).map fun z => UInt8.ofNat z.toNat⟩ : Part)).map Part.val).length = len0 := by simp
    refine ⟨some x, len0, cap0, (List.range len0).map fun r => ⟨A r, L r, C r, ((Z r).take (L r)).map fun z => UInt8.ofNat z.toNat⟩, rfl, ⟨⟨by rw [hlen]; omega, fun hpos => ⟨x, rfl, ?_, fun j u hu => ?_⟩⟩, ?_⟩, hl, hm⟩
    · have h0 := (hrow 0 (by omega)).1
      have := World.block_lt_of_cell? W _ h0
      rwa [block_of_add] at this
    · have hj : j < len0 := by
        rcases Nat.lt_or_ge j len0 with h | h
        · exact h
        · rw [List.getElem?_eq_none (by rw [hlen]; exact h)] at hu; cases hu
      rw [(hrow j (by omega)).1]
      simp only [List.getElem?_map, List.getElem?_range hj, Option.map_some] at hu
      exact hu
    · intro p hp
      simp only [List.mem_map, List.mem_range] at hp
      obtain ⟨r, hr, rfl⟩ := hp
      obtain ⟨_, h1, h2, h3, h4, h5, h6⟩ := hrow r (by omega)
      unfold maxLen at h2
      refine ⟨⟨by rw [bv_len]; simp; omega, fun hpos => ?_⟩, h1, h2⟩
      simp only at hpos
      cases hA : A r with
      | none => have := h5 hA; omega
      | some a' =>
        obtain ⟨_, hc⟩ := h6 a' hA
        refine ⟨a', rfl, ?_, fun j u hu => ?_⟩
        · have := World.block_lt_of_cell? W _ (hc 0 (by omega))
          rwa [block_of_add] at this
        · have hj : j < L r := by
            rcases Nat.lt_or_ge j (L r) with h | h
            · exact h
            · rw [List.getElem?_eq_none (by rw [bv_len]; simp; omega)] at hu; cases hu
          have hzj : (Z r)[j]? = some ((Z r)[j]'(by omega)) := List.getElem?_eq_getElem (by omega)
          rw [hc j (by omega)]
          have hb := h4 ((Z r)[j]'(by omega)) (List.getElem_mem _)
          have hb2 := bounds_u8 hb
          simp only [bv, List.map_map, List.getElem?_map, List.getElem?_take, hj, if_true, hzj, Option.map_some] at hu
          injection hu with hu
          rw [← hu, List.getD_eq_getElem?_getD, hzj]
          simp
          omega

/-- a row of ints of the call's own -/
def Oi (w : World) (base : Nat) (A : Option Addr) (n c : Nat) (l : List Int) : Prop := w.ownsRow base 3 1 (.slice A n c) n (l.map fun z => Value.int .i64 z)
theorem iInts : Info Tryz.prog 70 3 (.int .i64 0) 1 8 := Info.mk_ Tryz.underlying70 (by kernel_rfl) rfl (by omega)
theorem Is.const (w : World) (l : List Int) (cs : Array Value) (t : TypeId) (fr : Nat × Nat) (n : Nat) (hn : l.length = n) (hcs : cs.toList = l.map fun z => Value.int .i64 z) : Is (w.alloc (.cells cs t fr)) (some ⟨w.heap.size, 0, none⟩) n l := by
  refine ⟨by simp; omega, fun _ => ⟨_, rfl, by simp, fun j u hu => ?_⟩⟩
  rw [add_lit, Nat.zero_add, cell_of_row _ w.heap.size j cs t fr (heap_alloc_new w _)]
  rw [← hcs] at hu
  simpa using hu
/-- append of ints onto a row of ints of the call's own -/
theorem wpList_appI (w : World) {ops : Array Oper} {rest : List Oper} {o : Oper} {a : Act} {Q : Exit → Act → World → Prop} {s x : Operand} (hgd : o.guard = none)
    (ho : o.op = .call { callee := .builtin .append, args := #[s, x], argTypes := #[70, 70] })
    {base : Nat} {A0 : Option Addr} {n c0 : Nat} {l0 : List Int} (hs : a.eval s = .slice A0 n c0) (hown : Oi w base A0 n c0 l0)
    {A : Option Addr} {m c : Nat} {l : List Int} (hx : a.eval x = .slice A m c) (hr : Is w A m l) (k : Nat) (lr : List Int) (hk : n + m = k) (hlr : l0 ++ l = lr)
    (hbytes : n + m ≤ 1000000000) (hbase : base ≤ w.heap.size)
    (h : ∀ A' c' w', Oi w' base A' k c' lr → Below base w w' → w.grownBy w' (Value.slice A0 n c0).ownBlock → wpList Tryz.prog ops Q rest (a.put o.dst (.slice A' k c')) w') : wpList Tryz.prog ops Q (o :: rest) a w := by
  subst hk
  subst hlr
  exact wpList_app w iInts hgd ho hs hown hx hr (by intro u hu; simp only [List.mem_map] at hu; obtain ⟨z, _, rfl⟩ := hu; rfl) (by unfold maxLen; omega) (by omega) hbase fun A' c' w' h2 h3 h4 =>
    h A' c' w' (by unfold Oi; rw [List.map_append]; exact h2) ((Below.refl _ _).grown h3 hbase (fun k hk => (World.ownsRow.lt hown k hk).1)) h3

/-! ### frames that are cut off -/
def flatF (bs : List (List UInt8)) : List UInt8 := bs.flatMap frameL
def endL (bs : List (List UInt8)) (k : Nat) : Nat := (flatF (bs.take k)).length
def endsL (bs : List (List UInt8)) (k : Nat) : List Int := (List.range k).map fun i => (endL bs (i + 1) : Int)
theorem flatF_snoc {bs : List (List UInt8)} {k : Nat} {b : List UInt8} (h : bs[k]? = some b) : flatF (bs.take (k + 1)) = flatF (bs.take k) ++ frameL b := by
  rw [List.take_add_one, h]; simp [flatF]
theorem endsL_snoc (bs : List (List UInt8)) (k : Nat) : endsL bs (k + 1) = endsL bs k ++ [(endL bs (k + 1) : Int)] := by simp [endsL, List.range_succ]
theorem endsL_get (bs : List (List UInt8)) {k n : Nat} (h : k < n) : (endsL bs n)[k]? = some (endL bs (k + 1) : Int) := by simp [endsL, h]
theorem endsL_len (bs : List (List UInt8)) (n : Nat) : (endsL bs n).length = n := by simp [endsL]
theorem endL_mono (bs : List (List UInt8)) {j k : Nat} (h : j ≤ k) : endL bs j ≤ endL bs k := by
  unfold endL
  have : bs.take k = bs.take j ++ (bs.drop j).take (k - j) := by
    rw [← List.take_add]; congr 1; omega
  rw [this]
  simp [flatF]
theorem frame_len (b : List UInt8) : (frameL b).length = (putL (zig b.length)).length + (b.length + 4) := by simp [frameL, seal_len]
theorem put_two (n : Nat) (h : n ≤ 300) : (putL (zig (n : Int))).length = 1 ∨ ∃ c d, putL (zig (n : Int)) = [c, d] ∧ 128 ≤ c.toNat ∧ c.toNat % 2 = 0 := by
  have hz : zig (n : Int) = 2 * n := by unfold zig; rw [if_pos (by omega)]; omega
  rw [hz]
  rcases put3 (2 * n) (by omega) with ⟨a, e⟩ | ⟨a, b, e⟩ | ⟨a, e⟩
  · left; rw [e]; rfl
  · right
    refine ⟨_, _, e, ?_⟩
    have := of8 (2 * n % 128 + 128) (by omega)
    rw [this]
    omega
  · omega
theorem torn_frame (b : List UInt8) (j : Nat) (h0 : 0 < b.length) (h1 : b.length ≤ 300) (hj0 : 0 < j) (hj : j < (frameL b).length) : nextL ((frameL b).take j) = ([], 0, 2) := by
  have hfl := frame_len b
  have hs := seal_len b
  by_cases hp : (putL (zig (b.length : Int))).length ≤ j
  · have ht : (frameL b).take j = putL (zig (b.length : Int)) ++ (sealL b).take (j - (putL (zig (b.length : Int))).length) := by
      unfold frameL
      rw [List.take_append, List.take_of_length_le hp]
    have hg := get_put (mayLen (show b.length ≤ 8192 by omega)) ((sealL b).take (j - (putL (zig (b.length : Int))).length))
    rw [ht]
    refine next_short hg (by omega) ?_
    rw [List.length_append, List.length_take]
    omega
  · rcases put_two b.length h1 with h | ⟨c, d, h, hc1, hc2⟩
    · omega
    · have hj1 : j = 1 := by rw [h] at hp; simp at hp; omega
      subst hj1
      have ht : (frameL b).take 1 = [c] := by unfold frameL; rw [h]; rfl
      have hg : getL [c] = none := by
        unfold getL
        simp only [getGo]
        rw [if_neg (by omega), if_pos hc1]
      have htb : tornB [c] = true := by simp [tornB, hc1, hc2]
      rw [ht, next_none hg, htb]
      rfl
theorem cuts_scan : ∀ (bs : List (List UInt8)) (at_ k : Nat), (∀ b ∈ bs, 1 ≤ b.length ∧ b.length ≤ 300) → at_ ≤ (flatF bs).length → k ≤ bs.length → endL bs k ≤ at_ → (k = bs.length ∨ at_ < endL bs (k + 1)) → scanL ((flatF bs).take at_) = (bs.take k, endL bs k, if endL bs k < at_ then 2 else 1)
  | [], at_, k, _, hat, hk, _, _ => by
    obtain rfl : k = 0 := by simpa using hk
    obtain rfl : at_ = 0 := by simpa [flatF] using hat
    rfl
  | b :: t, at_, 0, hb, hat, _, _, h2 => by
    have hat2 : at_ < (frameL b).length := by
      rcases h2 with h2 | h2
      · simp at h2
      · simpa [endL, flatF] using h2
    have hb1 := hb b (by simp)
    have ht : (flatF (b :: t)).take at_ = (frameL b).take at_ := by
      simp only [flatF, List.flatMap_cons]
      rw [List.take_append_of_le_length (by omega)]
    rw [ht]
    have he : endL (b :: t) 0 = 0 := by simp [endL, flatF]
    rw [he]
    by_cases h0 : at_ = 0
    · subst h0; rfl
    · have hn := torn_frame b at_ (by omega) hb1.2 (by omega) hat2
      have hne : (frameL b).take at_ ≠ [] := by
        intro e
        have := congrArg List.length e
        rw [List.length_take, List.length_nil] at this
        omega
      rw [scanL_step _ hne, hn, if_pos (show 0 < at_ by omega)]
      rfl
  | b :: t, at_, k + 1, hb, hat, hk, h1, h2 => by
    have hb1 := hb b (by simp)
    have he : endL (b :: t) (k + 1) = (frameL b).length + endL t k := by simp [endL, flatF]
    have he2 : endL (b :: t) (k + 1 + 1) = (frameL b).length + endL t (k + 1) := by simp [endL, flatF]
    rw [he] at h1 ⊢
    rw [he2] at h2
    have ht : (flatF (b :: t)).take at_ = frameL b ++ (flatF t).take (at_ - (frameL b).length) := by
      simp only [flatF, List.flatMap_cons]
      rw [List.take_append, List.take_of_length_le (by omega)]
    have hfl := frame_len b
    have hat3 : at_ - (frameL b).length ≤ (flatF t).length := by
      simp only [flatF, List.flatMap_cons, List.length_append] at hat
      simp only [flatF]
      omega
    have ih := cuts_scan t (at_ - (frameL b).length) k (fun x hx => hb x (by simp [hx])) hat3 (by simpa using hk) (by omega) (by
      rcases h2 with h2 | h2
      · left; simpa using h2
      · right; omega)
    have hne : frameL b ++ (flatF t).take (at_ - (frameL b).length) ≠ [] := by
      intro e
      have := congrArg List.length e
      rw [List.length_append, List.length_nil] at this
      omega
    rw [ht, scanL_step _ hne, next_frame b _ (by omega) (by omega)]
    simp only [if_true, List.drop_left, ih, List.take_succ_cons]
    refine Prod.ext rfl (Prod.ext rfl ?_)
    simp only
    by_cases q : endL t k < at_ - (frameL b).length
    · rw [if_pos q, if_pos (by omega)]
    · rw [if_neg q, if_neg (by omega)]
end Go.Proofs.YtfepinnfhcjopaaGreatDoor
end
