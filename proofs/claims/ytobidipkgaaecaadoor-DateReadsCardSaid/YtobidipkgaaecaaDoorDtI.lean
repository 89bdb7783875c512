/-
  The document's dates: split, index, named.
-/
import Derived.Test.YtobidipkgaaecaaDoorDtG
import Derived.Test.YtobidipkgaaecaaDoorStl
namespace Go.Proofs.YtobidipkgaaecaaDoor
open Go.RowKit Go.Nst
set_option maxRecDepth 100000
set_option linter.unusedVariables false
set_option linter.unusedSimpArgs false

/-- what holds while a text is cut: k bytes are looked at, f are done -/
def SpI (S : ByteArray) (b : UInt8) (k f : Nat) (acc : List (List UInt8)) : Prop :=
  (k ≤ S.size ∧ f ≤ k ∧ splitL b (bl S) = acc ++ splitL b ((bl S).drop f) ∧ ∀ c ∈ ((bl S).drop f).take (k - f), c ≠ b) ∨ (k = S.size + 1 ∧ acc = splitL b (bl S))
theorem spI_same {S : ByteArray} {b : UInt8} {k f : Nat} {acc : List (List UInt8)} (h : SpI S b k f acc) (hk : k < S.size) (hb : S[k]'hk ≠ b) : SpI S b (k + 1) f acc := by
  rcases h with ⟨h1, h2, h3, h4⟩ | ⟨h1, _⟩
  · refine .inl ⟨hk, by omega, h3, ?_⟩
    have e : ((bl S).drop f).take (k + 1 - f) = ((bl S).drop f).take (k - f) ++ [S[k]'hk] := by
      rw [show k + 1 - f = (k - f) + 1 by omega, List.take_add_one, List.getElem?_drop, show f + (k - f) = k by omega, bl_get S k hk]
      rfl
    rw [e]
    intro c hc
    rcases List.mem_append.1 hc with hc | hc
    · exact h4 c hc
    · simp at hc
      rw [hc]
      exact hb
  · omega
theorem spI_cut {S : ByteArray} {b : UInt8} {k f : Nat} {acc : List (List UInt8)} (h : SpI S b k f acc) (hk : k < S.size) (hb : S[k]'hk = b) : SpI S b (k + 1) (k + 1) (acc ++ [((bl S).drop f).take (k - f)]) ∧ f ≤ k := by
  rcases h with ⟨h1, h2, h3, h4⟩ | ⟨h1, _⟩
  · refine ⟨.inl ⟨hk, Nat.le_refl _, ?_, by simp⟩, h2⟩
    have e : (bl S).drop f = ((bl S).drop f).take (k - f) ++ b :: (bl S).drop (k + 1) := by
      have e1 : ((bl S).drop f).drop (k - f) = b :: (bl S).drop (k + 1) := by
        rw [List.drop_drop, show f + (k - f) = k by omega]
        have h2 : k < (bl S).length := by rw [bl_len]; exact hk
        have h9 : (bl S)[k]'h2 = b := by
          have := bl_get S k hk
          rw [List.getElem?_eq_getElem h2] at this
          injection this with this
          try exact this.trans hb
        rw [List.drop_eq_getElem_cons h2, h9]
      rw [← e1, List.take_append_drop]
    have e2 := split_at ((bl S).drop (k + 1)) h4
    rw [← e] at e2
    rw [h3, e2]
    try simp
  · omega
theorem spI_last {S : ByteArray} {b : UInt8} {f : Nat} {acc : List (List UInt8)} (h : SpI S b S.size f acc) : SpI S b (S.size + 1) (S.size + 1) (acc ++ [((bl S).drop f).take (S.size - f)]) ∧ f ≤ S.size := by
  rcases h with ⟨h1, h2, h3, h4⟩ | ⟨h1, _⟩
  · refine ⟨.inr ⟨rfl, ?_⟩, h2⟩
    have e : ((bl S).drop f).take (S.size - f) = (bl S).drop f := List.take_of_length_le (by rw [List.length_drop, bl_len]; omega)
    rw [e] at h4 ⊢
    rw [h3, split_none h4]
  · omega
theorem spI_end {S : ByteArray} {b : UInt8} {k f : Nat} {acc : List (List UInt8)} (h : SpI S b k f acc) (hk : S.size < k) : acc = splitL b (bl S) := by
  rcases h with ⟨h1, _⟩ | ⟨_, h2⟩
  · omega
  · exact h2
theorem str_mid4 (S : ByteArray) (i k : Nat) : S.extract i k = ⟨(((bl S).drop i).take (k - i)).toArray⟩ := by rw [← bl_mid, bl_mk]
theorem ext_size4 (S : ByteArray) (i k : Nat) : (S.extract i k).size ≤ S.size := by
  rw [← bl_len, bl_mid, ← bl_len]
  simp
  omega
theorem bel_drewN {B : Nat} {w w' : World} (h : Below B w w') (n : Nat) : Below B w (w'.drewN n) := ⟨h.os, h.tape, h.output, h.size, h.block⟩
set_option maxHeartbeats 4000000 in
theorem split4_any (S : ByteArray) (b : UInt8) (w : World) (hS : S.size ≤ 100000) : Calls Tryd.prog 55 #[.string S, .int .u8 (b.toNat : Int)] w (RetOs w (splitL b (bl S))) := by
  have hb8 := b.toNat_lt
  go_enter Tryd.func55, Tryd.ntmps55
  go_wp2_with fail
  go_loopw [5, 6, 7] (fun o f i wr => ∃ (A : Option Addr) (n c k fr : Nat) (acc : List (List UInt8)), o = .slice A n c ∧ f = .int .i64 (fr : Int) ∧ i = .int .i64 (k : Int) ∧ fr ≤ k ∧ k ≤ S.size + 1 ∧ n ≤ k ∧ Os wr w.heap.size A n c acc ∧ Below w.heap.size w wr ∧ Hid (SpI S b k fr acc)) (fun _ _ i _ => S.size + 1 - (intOf i).toNat)
  case atStart => exact ⟨none, 0, 0, 0, 0, [], rfl, rfl, rfl, by omega, by omega, by omega, World.ownsRow_nil _ _ _ _, Below.refl _ _, Lib.hid (.inl ⟨by omega, by omega, rfl, by simp⟩)⟩
  case round =>
    obtain ⟨A, n, c, k, fr, acc, rfl, rfl, rfl, hfk, hk, hnk, hO, hbw, HI⟩ := hrel
    have hs1 := hbw.size
    by_cases hlt : k < S.size
    · have hix := fun W => str_at S k W hlt
      have HS := Lib.hid (fun hne => spI_same HI.out hlt hne)
      have HC := Lib.hid (fun heq => spI_cut HI.out hlt heq)
      have e1 : ((k : Int) == (S.size : Int)) = false := by simp; omega
      have e2 : (k == S.size) = false := by simp; omega
      have e3 : decide (k ≤ S.size) = true := by simp; omega
      generalize S[k]'hlt = u at *
      by_cases hub : u = b
      · subst hub
        have HC := Lib.hid (HC.out rfl).1
        have B1 := bel_alloc hbw (.cells #[.string ⟨(((bl S).drop fr).take (k - fr)).toArray⟩] 9)
        have hO1 := own_below hO (bel_alloc (Below.refl _ _) (.cells #[.string ⟨(((bl S).drop fr).take (k - fr)).toArray⟩] 9))
        have hR := Ss.const wr [((bl S).drop fr).take (k - fr)] #[.string ⟨(((bl S).drop fr).take (k - fr)).toArray⟩] 9 (0, 0) 1 rfl rfl
        have hst := str_mid4 S fr k
        generalize ((bl S).drop fr).take (k - fr) = piece at *
        clear HS HI hO
        go_wp2_with (at_builtin; refine wpList_appS1 rfl rfl rfl hO1 rfl hR (by omega) (by simp; omega) ?_; intro A' c' w' h2 h3)
        have B2 := B1.trans h3
        go_roundw
        case rel => exact ⟨A', n + 1, c', k + 1, k + 1, acc ++ [piece], rfl, by go_num, by go_num, by omega, by omega, by omega, h2, B2, HC⟩
        case measure => simp [intOf]; omega
      · have HS := Lib.hid (HS.out hub)
        have hne : ¬ u.toNat = b.toNat := fun e => hub (UInt8.toNat_inj.1 e)
        have u1 : (((u.toNat : Nat) : Int) == ((b.toNat : Nat) : Int)) = false := by simp; omega
        have u2 : (u.toNat == b.toNat) = false := by simpa using hne
        have u3 : (u == b) = false := by simpa using hub
        clear HC HI
        go_wp2_with fail
        go_roundw
        case rel => exact ⟨A, n, c, k + 1, fr, acc, rfl, rfl, by go_num, by omega, by omega, by omega, hO, hbw, HS⟩
        case measure => simp [intOf]; omega
    · by_cases hend : k = S.size
      · subst hend
        have HC := Lib.hid (spI_last HI.out).1
        have B1 := bel_alloc hbw (.cells #[.string ⟨(((bl S).drop fr).take (S.size - fr)).toArray⟩] 9)
        have hO1 := own_below hO (bel_alloc (Below.refl _ _) (.cells #[.string ⟨(((bl S).drop fr).take (S.size - fr)).toArray⟩] 9))
        have hR := Ss.const wr [((bl S).drop fr).take (S.size - fr)] #[.string ⟨(((bl S).drop fr).take (S.size - fr)).toArray⟩] 9 (0, 0) 1 rfl rfl
        have hst := str_mid4 S fr S.size
        generalize ((bl S).drop fr).take (S.size - fr) = piece at *
        clear HI hO
        go_wp2_with (at_builtin; refine wpList_appS1 rfl rfl rfl hO1 rfl hR (by omega) (by simp; omega) ?_; intro A' c' w' h2 h3)
        have B2 := B1.trans h3
        go_roundw
        case rel => exact ⟨A', n + 1, c', S.size + 1, S.size + 1, acc ++ [piece], rfl, by go_num, by go_num, by omega, by omega, by omega, h2, B2, HC⟩
        case measure => simp [intOf]
      · have HE := Lib.hid (spI_end HI.out (by omega))
        have e3 : decide (k ≤ S.size) = false := by simp; omega
        clear HI
        go_wp2_with fail
        go_ret
        rw [HE.out] at hO
        exact ⟨A, n, c, rfl, hO, hbw⟩
theorem index_here : ∀ {L : List (List UInt8)} {x : List UInt8} {k : Nat}, (∀ y ∈ L.take k, y ≠ x) → L[k]? = some x → indexL L x = k
  | [], x, k, _, h => by simp at h
  | y :: L, x, 0, _, h => by simp at h; simp [indexL, h]
  | y :: L, x, k + 1, h1, h => by
    have h2 : y ≠ x := h1 y (by simp)
    have h3 := index_here (L := L) (x := x) (k := k) (fun z hz => h1 z (by simp [hz])) (by simpa using h)
    unfold indexL
    rw [if_neg h2, h3, if_neg (by omega)]
    omega
set_option maxHeartbeats 4000000 in
theorem index4_any (A : Option Addr) (n c : Nat) (L : List (List UInt8)) (x : List UInt8) (w : World) (hL : Ss w A n L) (hn : n ≤ 1000) : Calls Tryd.prog 56 #[.slice A n c, .string ⟨x.toArray⟩] w fun e w' => e = .returned (.int .i64 (indexL L x)) ∧ w = w' := by
  go_enter Tryd.func56, Tryd.ntmps56
  go_wp2_with fail
  go_loop [5] (fun i => ∃ k : Nat, i = .int .i64 (k : Int) ∧ k ≤ n ∧ Hid (∀ y ∈ L.take k, y ≠ x)) (fun i => n - (intOf i).toNat)
  case atStart => exact ⟨0, rfl, by omega, Lib.hid (by simp)⟩
  case round =>
    obtain ⟨k, rfl, hk, HI⟩ := hrel
    by_cases hlt : k < n
    · obtain ⟨y, b, off, rfl, hy, hb, hc⟩ := Ss.at hL hlt
      by_cases hyx : y = x
      · subst hyx
        have HV := Lib.hid (index_here HI.out hy.out)
        clear hy HI hL
        go_wp2_with fail
        go_ret
        rw [HV.out]
        exact ⟨rfl, rfl⟩
      · have HN : Hid (∀ z ∈ L.take (k + 1), z ≠ x) := Lib.hid (by
          intro z hz
          rw [List.take_add_one, hy.out] at hz
          rcases List.mem_append.1 hz with hz | hz
          · exact HI.out z hz
          · simp at hz
            rw [hz]
            exact hyx)
        have e1 : (y == x) = false := by simpa using hyx
        clear hy HI hL
        go_wp2_with fail
        go_round
        case rel => exact ⟨k + 1, by go_num, by omega, HN⟩
        case measure => simp [intOf]; omega
    · have hln := hL.len
      have HV : Hid (indexL L x = -1) := Lib.hid (indexL_not (fun h => (HI.out x (by rw [List.take_of_length_le (by omega)]; exact h)) rfl))
      clear HI hln hL
      go_wp2_with fail
      go_ret
      rw [HV.out]
      exact ⟨rfl, rfl⟩
def namesZ : List (List UInt8) := [[71, 77, 84], [85, 84], [85, 84, 67], [90], [69, 83, 84], [69, 68, 84], [67, 83, 84], [67, 68, 84], [77, 83, 84], [77, 68, 84], [80, 83, 84], [80, 68, 84]]
def hoursZ : List Int := [0, 0, 0, 0, -5, -4, -6, -5, -7, -6, -8, -7]
theorem zone_names (l : List UInt8) : (indexL namesZ l = -1 ∧ zoneN l = none) ∨ ∃ k : Nat, k < 12 ∧ indexL namesZ l = k ∧ ∃ z : Int, hoursZ[k]? = some z ∧ zoneN l = some (3600 * z) ∧ -100 ≤ z ∧ z ≤ 100 := by
  by_cases h : l ∈ namesZ
  · right
    have hall : ∀ s ∈ namesZ, ∃ k : Fin 12, indexL namesZ s = (k.1 : Int) ∧ zoneN s = some (3600 * hoursZ.getD k.1 0) ∧ -100 ≤ hoursZ.getD k.1 0 ∧ hoursZ.getD k.1 0 ≤ 100 ∧ hoursZ[k.1]? = some (hoursZ.getD k.1 0) := by decide +kernel
    obtain ⟨k, h1, h2, h3, h4, h5⟩ := hall l h
    exact ⟨k.1, k.2, h1, _, h5, h2, h3, h4⟩
  · left
    refine ⟨indexL_not h, ?_⟩
    simp only [namesZ, List.mem_cons, List.not_mem_nil, or_false, not_or] at h
    unfold zoneN
    simp [h]
theorem zoneM_five {S : ByteArray} (h : zoneN (bl S) = none) (h5 : S.size = 5) : zoneM (bl S) = zoneR (S[0]'(by omega)) (bl (S.extract 1 3)) (bl (S.extract 3 5)) := by
  have e := bl_cons S (by omega)
  unfold zoneM
  rw [h, bl_mid, bl_mid]
  simp only
  rw [if_neg (by rw [bl_len]; omega)]
  have e4 : ((bl S).drop 3).take (5 - 3) = (bl S).drop 3 := List.take_of_length_le (by rw [List.length_drop, bl_len]; omega)
  have eh : (bl S).headD 0 = S[0]'(by omega) := by rw [e]; rfl
  rw [e4, eh]
theorem zoneM_not {S : ByteArray} (h : zoneN (bl S) = none) (h5 : S.size ≠ 5) : zoneM (bl S) = none := by
  unfold zoneM
  rw [h, bl_len]
  simp [h5]
theorem zoneM_bd {l : List UInt8} {z : Int} (h : zoneM l = some z) : -1000000 ≤ z ∧ z ≤ 1000000 := by
  rcases zone_names l with ⟨_, h1⟩ | ⟨k, _, _, x, _, h1, h2, h3⟩
  · unfold zoneM at h
    rw [h1] at h
    simp only at h
    split at h
    · cases h
    · unfold zoneR at h
      split at h
      · cases h
      · injection h with h
        unfold offN at h
        split at h <;> omega
  · unfold zoneM at h
    rw [h1] at h
    injection h with h
    omega
set_option maxHeartbeats 4000000 in
theorem named4_any (S : ByteArray) (w : World) (hS : S.size ≤ 100000) : Calls Tryd.prog 57 #[.string S] w fun e w' => e = .returned (znV (zoneM (bl S))) ∧ Below w.heap.size w w' := by
  have B0 := bel_alloc (Below.refl w.heap.size w) (.cells (hoursZ.map fun z => Value.int .i64 z).toArray 3)
  have hq0 := Blk.new w 3 (hoursZ.map fun z => Value.int .i64 z).toArray
  have B1 := bel_alloc B0 (.cells (sv namesZ).toArray 9)
  have hq1 := hq0.alloc (.cells (sv namesZ).toArray 9)
  have hL := Ss.const (w.alloc (.cells (hoursZ.map fun z => Value.int .i64 z).toArray 3)) namesZ (sv namesZ).toArray 9 (0, 0) 12 rfl (by simp)
  have HIX := Lib.hid (fun W (h : Ss W (some ⟨(w.alloc (.cells (hoursZ.map fun z => Value.int .i64 z).toArray 3)).heap.size, 0, none⟩) 12 namesZ) => index4_any _ 12 12 namesZ (bl S) W h (by omega))
  rw [bl_mk] at HIX
  have HIX2 := Lib.hid (HIX.out _ hL)
  have hsv : (sv namesZ).toArray = #[.string ⟨#[71, 77, 84]⟩, .string ⟨#[85, 84]⟩, .string ⟨#[85, 84, 67]⟩, .string ⟨#[90]⟩, .string ⟨#[69, 83, 84]⟩, .string ⟨#[69, 68, 84]⟩, .string ⟨#[67, 83, 84]⟩, .string ⟨#[67, 68, 84]⟩, .string ⟨#[77, 83, 84]⟩, .string ⟨#[77, 68, 84]⟩, .string ⟨#[80, 83, 84]⟩, .string ⟨#[80, 68, 84]⟩] := rfl
  have hhz : (hoursZ.map fun z => Value.int .i64 z).toArray = #[.int .i64 0, .int .i64 0, .int .i64 0, .int .i64 0, .int .i64 (-5), .int .i64 (-4), .int .i64 (-6), .int .i64 (-5), .int .i64 (-7), .int .i64 (-6), .int .i64 (-8), .int .i64 (-7)] := rfl
  rw [hsv, hhz] at HIX2 B1 hq1
  simp only [World.size_alloc] at HIX2
  clear hL HIX hq0 B0 hsv
  have hgk : ∀ (k : Nat) (z : Int), hoursZ[k]? = some z → ((hoursZ.map fun z => Value.int .i64 z).toArray)[k]? = some (Value.int .i64 z) := by
    intro k z h
    simp [h]
  rw [hhz] at hgk
  rcases zone_names (bl S) with ⟨h1, h2⟩ | ⟨k, hk, h1, z, h3, h2, hz0, hz1⟩
  · rw [h1] at HIX2
    by_cases h5 : S.size = 5
    · have HV := Lib.hid (zoneM_five h2 h5)
      have HZ := Lib.hid (fun W => zone4_any (S[0]'(by omega)) (S.extract 1 3) (S.extract 3 5) W (by have := ext_size4 S 1 3; omega) (by have := ext_size4 S 3 5; omega))
      simp only [znV] at HZ
      generalize zoneR (S[0]'(by omega)) (bl (S.extract 1 3)) (bl (S.extract 3 5)) = zz at *
      clear h1 h2 hq1
      go_enter Tryd.func57, Tryd.ntmps57
      go_wp2_with fail
      (with_reducible refine (HIX2.out).mono ?_)
      rintro e w1 ⟨rfl, rfl⟩
      go_wp2_with fail
      go_quiet ((go_at_call 54; exact quiet_same (HZ.out _)))
      go_wp2_with fail
      go_ret2
      rw [HV.out]
      exact ⟨rfl, bel_drewN B1 _⟩
    · have HV := Lib.hid (zoneM_not h2 h5)
      have e5 : ((S.size : Int) != 5) = true := by simp; omega
      clear h1 h2 hq1
      go_enter Tryd.func57, Tryd.ntmps57
      go_wp2_with fail
      (with_reducible refine (HIX2.out).mono ?_)
      rintro e w1 ⟨rfl, rfl⟩
      go_wp2_with fail
      go_ret2
      rw [HV.out]
      exact ⟨rfl, B1⟩
  · rw [h1] at HIX2
    have HV : Hid (zoneM (bl S) = some (3600 * z)) := Lib.hid (by unfold zoneM; rw [h2])
    have hc := (hq1.cell k).trans (hgk k z h3)
    have hk12 : (k : Int) < 12 := by omega
    clear h1 h2 h3 hq1 hhz hgk
    go_enter Tryd.func57, Tryd.ntmps57
    go_wp2_with fail
    (with_reducible refine (HIX2.out).mono ?_)
    rintro e w1 ⟨rfl, rfl⟩
    go_wp2_with fail
    go_ret2
    rw [HV.out]
    exact ⟨rfl, B1⟩
end Go.Proofs.YtobidipkgaaecaaDoor
