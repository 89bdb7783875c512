/-
  The reader of bytes: From, take, Word.
  The reader's Word.
  The reader's Bad, Num, Text, Byte, Left; a reader that is nil.
  The reference's reader.
  The run with which each statement on numbers begins.
  NumTexts: the walk.
-/
import Derived.Test.YtfepinnfhcjopaaGreatDoorNm1
import Derived.Test.YtfepinnfhcjopaaGreatDoorPla
import Derived.BigQuiet
import Derived.Deep.QuietTactic
import Derived.Test.YtfepinnfhcjopaaGreatDoorBas
section
namespace Go.Proofs.YtfepinnfhcjopaaGreatDoor
open Go.RowKit Go.Nst
set_option maxRecDepth 100000

/-- a reader: the bytes that are left, and whether it is bad -/
structure RS where
  l : List UInt8
  bad : Bool
/-- block g is a reader, of type T, that holds s -/
def RdT (T : TypeId) (w : World) (g : Nat) (s : RS) : Prop := ∃ A n c, Blk w g T #[.slice A n c, .bool s.bad] ∧ Bs w A n s.l ∧ n ≤ c ∧ n ≤ 140737488355328
abbrev Rd := RdT 95
theorem RdT.lt {T : TypeId} {w : World} {g : Nat} {s : RS} (h : RdT T w g s) : g < w.heap.size := by obtain ⟨_, _, _, h, _⟩ := h; exact h.lt
theorem Rd.apart {T : TypeId} {w : World} {g n c : Nat} {A : Option Addr} {b : Bool} {l : List UInt8} (h : Blk w g T #[.slice A n c, .bool b]) {A' : Option Addr} {n' : Nat} (hB : Bs w A' n' l) : ∀ ad, A' = some ad → 0 < n' → some ad.block ≠ some g := by
  intro ad e hn e2
  obtain ⟨u, b', off, e3, _, _, hc, _⟩ := hB.at hn
  rw [e] at e3
  injection e3 with e3
  subst e3
  injection e2 with e2
  simp only at e2
  subst e2
  rw [h.cell] at hc
  match off, hc with
  | 0, hc => simp at hc
  | 1, hc => simp at hc
  | k + 2, hc => simp at hc
theorem RdT.below {T : TypeId} {w w' : World} {g : Nat} {s : RS} (h : RdT T w g s) (hb : Below w.heap.size w w') : RdT T w' g s := by
  obtain ⟨A, n, c, h1, h2, h3, h4⟩ := h
  exact ⟨A, n, c, h1.below hb h1.lt, h2.below hb, h3, h4⟩
/-- another reader is read: this one stays as it is -/
theorem RdT.other {T T' : TypeId} {w w' : World} {g g' : Nat} {s s' : RS} (h : RdT T w g s) (h' : RdT T' w g' s') (hg : w.grownBy w' (some g')) (hne : g ≠ g') : RdT T w' g s := by
  obtain ⟨A, n, c, h1, h2, h3, h4⟩ := h
  obtain ⟨A', n', c', k1, _⟩ := h'
  refine ⟨A, n, c, h1.grown hg (by simpa using hne), h2.only hg (Rd.apart k1 h2), h3, h4⟩
theorem RdT.ne {T T' : TypeId} {w : World} {g g' : Nat} {s s' : RS} (h : RdT T w g s) (h' : RdT T' w g' s') (hT : T ≠ T') : g ≠ g' := by
  rintro rfl
  obtain ⟨A, n, c, h1, _⟩ := h
  obtain ⟨A', n', c', k1, _⟩ := h'
  unfold Blk at h1 k1
  rw [h1] at k1
  injection k1 with k1
  injection k1 with _ k2
  exact hT k2

def RetR (w : World) (s : RS) (e : Ending) (w' : World) : Prop := ∃ g, e = .returned (.pointer (some ⟨g, 0, none⟩)) ∧ Rd w' g s ∧ w.heap.size ≤ g ∧ Below w.heap.size w w'

theorem from_any (A : Option Addr) (n c : Nat) (l : List UInt8) (w : World) (hn : n ≤ 140737488355328) (hB : Bs w A n l) :
    Calls Tryz.prog 43 #[.slice A n c] w (RetR w ⟨l, false⟩) := by
  go_enter Tryz.func43, Tryz.ntmps43
  go_wp2_with fail
  refine (clone_any A n c l w hn hB).mono ?_
  rintro e w1 ⟨A1, n1, c1, rfl, ho1, hb1⟩
  have HC := Lib.hid (show n1 ≤ 140737488355328 from by have h1 := ho1.len; have h2 := hB.len; omega)
  go_wp2_with fail
  try go_ret
  exact ⟨_, rfl, ⟨A1, n1, c1, Blk.new w1 _ _, ho1.bs.alloc _, ho1.cap, HC.out⟩, hb1.size, hb1.alloc hb1.size _⟩

/-- so many bytes are taken -/
def RS.take (s : RS) (n : Int) : List UInt8 × RS := if s.bad = true ∨ n < 0 ∨ (s.l.length : Int) < n then ([], ⟨s.l, true⟩) else (s.l.take n.toNat, ⟨s.l.drop n.toNat, false⟩)
def RetTT (T : TypeId) (w : World) (g : Nat) (r : List UInt8 × RS) (e : Ending) (w' : World) : Prop := ∃ A n c, e = .returned (.slice A n c) ∧ Bs w' A n r.1 ∧ RdT T w' g r.2 ∧ w.grownBy w' (some g) ∧ n ≤ c
abbrev RetT := RetTT 95

theorem take_bad {T : TypeId} {w : World} {g n c : Nat} {A : Option Addr} {s : RS} {k : Int} {v : Value} (hv : v = .slice none 0 0) (hblk : Blk w g T #[.slice A n c, .bool s.bad]) (hB : Bs w A n s.l) (hnc : n ≤ c) (hn : n ≤ 140737488355328)
    (h : s.bad = true ∨ k < 0 ∨ (n : Int) < k) : RetTT T w g (s.take k) (.returned v) (w.setCell ⟨g, 1, none⟩ (.bool true)) := by
  have e : s.take k = ([], ⟨s.l, true⟩) := by unfold RS.take; rw [if_pos (by rw [hB.len]; exact h)]
  have hg : w.grownBy (w.setCell ⟨g, 1, none⟩ (.bool true)) (some g) := only_setCell (World.grownBy.refl w _) (.inl rfl) _
  rw [e]
  exact ⟨none, 0, 0, by rw [hv], Bs.nil, ⟨A, n, c, hblk.set_ 1 _, hB.only hg (Rd.apart hblk hB), hnc, hn⟩, hg, Nat.le_refl _⟩
theorem take_ok {T : TypeId} {w : World} {g n c j c2 : Nat} {A A2 : Option Addr} {l : List UInt8} {v V : Value} (hv : v = .slice A j c2) (hblk : Blk w g T #[.slice A n c, .bool false]) (hB : Bs w A n l) (hnc : n ≤ c) (hn : n ≤ 140737488355328)
    (hj : j ≤ n) (hA : A2 = if c = j then A else A.map (·.add j)) (hc2 : c2 = c) (hV : V = .slice A2 (n - j) (c - j)) : RetTT T w g (RS.take ⟨l, false⟩ j) (.returned v) (w.setCell ⟨g, 0, none⟩ V) := by
  subst hV
  have e : RS.take ⟨l, false⟩ j = (l.take j, ⟨l.drop j, false⟩) := by
    unfold RS.take
    rw [if_neg (by rw [hB.len]; simp; omega)]
    simp
  have hg : w.grownBy (w.setCell ⟨g, 0, none⟩ (.slice A2 (n - j) (c - j))) (some g) := only_setCell (World.grownBy.refl w _) (.inl rfl) _
  have hcut := hB.cut hj hnc
  rw [← hA] at hcut
  rw [e]
  exact ⟨A, j, c2, by rw [hv], (hB.upto hj).only hg (Rd.apart hblk (hB.upto hj)), ⟨A2, n - j, c - j, hblk.set_ 0 _, hcut.only hg (Rd.apart hblk hcut), by omega, by omega⟩, hg, by omega⟩

theorem take_any (g : Nat) (s : RS) (k : Int) (w : World) (hR : Rd w g s) :
    Calls Tryz.prog 67 #[.pointer (some ⟨g, 0, none⟩), .int .i64 k] w (RetT w g (s.take k)) := by
  obtain ⟨A, n, c, hblk, hB, hnc, hn⟩ := hR
  have c0 : w.cell? ⟨g, 0, none⟩ = some (.slice A n c) := hblk.cell 0
  have c1 : w.cell? ⟨g, 1, none⟩ = some (.bool s.bad) := hblk.cell 1
  have f0 := hblk.frozen 0
  have f1 := hblk.frozen 1
  obtain ⟨sl, sb⟩ := s
  simp only at *
  have HB := Lib.hid hblk
  cases sb with
  | true =>
    go_enter Tryz.func67, Tryz.ntmps67
    go_wp2_with fail
    go_ret
    exact take_bad rfl HB.out hB hnc hn (.inl rfl)
  | false =>
    by_cases h0 : k < 0
    · go_enter Tryz.func67, Tryz.ntmps67
      go_wp2_with fail
      go_ret
      exact take_bad rfl HB.out hB hnc hn (.inr (.inl h0))
    · by_cases h1 : (n : Int) < k
      · go_enter Tryz.func67, Tryz.ntmps67
        go_wp2_with fail
        go_ret
        exact take_bad rfl HB.out hB hnc hn (.inr (.inr h1))
      · obtain ⟨j, rfl⟩ := Int.eq_ofNat_of_zero_le (Int.not_lt.1 h0)
        have hj : j ≤ n := by omega
        by_cases hcj : c = j
        · subst hcj
          obtain rfl : n = c := by omega
          go_enter Tryz.func67, Tryz.ntmps67
          go_wp2_with fail
          go_ret
          exact take_ok rfl HB.out hB hnc hn hj (if_pos rfl).symm rfl (by simp)
        · go_enter Tryz.func67, Tryz.ntmps67
          go_wp2_with fail
          go_ret
          exact take_ok rfl HB.out hB hnc hn hj (if_neg hcj).symm rfl rfl
end Go.Proofs.YtfepinnfhcjopaaGreatDoor
end
section
namespace Go.Proofs.YtfepinnfhcjopaaGreatDoor
open Go.RowKit Go.Nst
set_option maxRecDepth 100000

/-- the number of bytes, the least first -/
def leN : List UInt8 → Nat
  | [] => 0
  | u :: l => u.toNat + 256 * leN l
def RetN (w : World) (g : Nat) (r : Nat × RS) (e : Ending) (w' : World) : Prop := e = .returned (.int .u32 (r.1 : Int)) ∧ Rd w' g r.2 ∧ w.grownBy w' (some g)
def RS.word (s : RS) : Nat × RS := (leN (s.take 4).1, (s.take 4).2)

theorem leN_snoc (a : List UInt8) (u : UInt8) : leN (a ++ [u]) = leN a + u.toNat * 256 ^ a.length := by
  induction a with
  | nil => simp [leN]
  | cons x a ih => simp only [List.cons_append, leN, ih, List.length_cons, Nat.pow_succ]; rw [Nat.mul_add, Nat.mul_left_comm, Nat.mul_comm (256 ^ a.length), Nat.add_assoc]
theorem leN_take {l : List UInt8} {k : Nat} {u : UInt8} (h : l[k]? = some u) : leN (l.take (k + 1)) = leN (l.take k) + u.toNat * 256 ^ k := by
  have hk : k < l.length := (List.getElem?_eq_some_iff.1 h).1
  rw [List.take_add_one, h]
  simp only [Option.toList_some]
  rw [leN_snoc, List.length_take, Nat.min_eq_left (by omega)]
theorem or_join (y u i : Nat) (hy : y < 2 ^ i) (hu : u * 2 ^ i < 4294967296) (hy2 : y < 4294967296) : bits .or .u32 (y : Int) ((u * 2 ^ i : Nat) : Int) = ((y + u * 2 ^ i : Nat) : Int) := by
  rw [u32_or_nat y (u * 2 ^ i) hy2 hu, Nat.or_comm, nat_join i (u * 2 ^ i) y (by simp) hy, Nat.add_comm]
theorem take4_len (s : RS) : (s.take 4).1.length ≤ 4 := by
  unfold RS.take
  split
  · simp
  · simp; omega
theorem word_round {l : List UInt8} {k y : Nat} {u : UInt8} (hu : l[k]? = some u) (hy : y = leN (l.take k)) (M : Nat) (hM : M = 256 ^ k) : y + u.toNat * M = leN (l.take (k + 1)) := by rw [leN_take hu, hy, hM]

set_option maxHeartbeats 400000 in
theorem readWord_any (g : Nat) (s : RS) (w : World) (hR : Rd w g s) :
    Calls Tryz.prog 68 #[.pointer (some ⟨g, 0, none⟩)] w (RetN w g s.word) := by
  have HW : Hid (s.word = (leN (s.take 4).1, (s.take 4).2)) := rfl
  have H4 := Lib.hid (take4_len s)
  go_enter Tryz.func68, Tryz.ntmps68
  go_wp2_with fail
  refine (take_any g s 4 w hR).mono ?_
  rintro e w1 ⟨A, n, c, rfl, hB, hR1, hg, hnc⟩
  generalize s.take 4 = r at *
  obtain ⟨l, s1⟩ := r
  simp only at *
  have hn4 : n ≤ 4 := by rw [← hB.len]; exact H4.out
  have HL := Lib.hid hB.len
  go_wp2_with fail
  go_loop [3, 9] (fun x i => ∃ k y : Nat, k ≤ n ∧ i = .int .i64 k ∧ x = .int .u32 (y : Int) ∧ y < 256 ^ k ∧ Hid (y = leN (l.take k))) (fun _ i => n - (intOf i).toNat)
  case atStart => exact ⟨0, 0, Nat.zero_le _, rfl, rfl, by omega, rfl⟩
  case round =>
    obtain ⟨k, y, hk, rfl, rfl, hy, HY⟩ := hrel
    by_cases hlt : k < n
    · obtain ⟨u, b, off, rfl, hu, hb, hc, h256⟩ := hB.at hlt
      have h4 : k = 0 ∨ k = 1 ∨ k = 2 ∨ k = 3 := by omega
      rcases h4 with rfl | rfl | rfl | rfl
      · rw [Nat.add_zero] at hc
        have HO := Lib.hid (or_join y u.toNat 0 hy (by omega) (by omega))
        have HN := Lib.hid (word_round hu.out HY.out 1 rfl)
        go_wp2_with fail
        refine ⟨⟨1, y + u.toNat * 1, by omega, rfl, ?_, by omega, HN⟩, by simp [intOf]; omega⟩
        exact congrArg (Value.int .u32) (by simpa using HO.out)
      · have HO := Lib.hid (or_join y u.toNat 8 hy (by omega) (by omega))
        have HN := Lib.hid (word_round hu.out HY.out 256 rfl)
        go_wp2_with fail
        refine ⟨⟨2, y + u.toNat * 256, by omega, rfl, ?_, by omega, HN⟩, by simp [intOf]; omega⟩
        exact congrArg (Value.int .u32) (by simpa using HO.out)
      · have HO := Lib.hid (or_join y u.toNat 16 hy (by omega) (by omega))
        have HN := Lib.hid (word_round hu.out HY.out 65536 rfl)
        go_wp2_with fail
        refine ⟨⟨3, y + u.toNat * 65536, by omega, rfl, ?_, by omega, HN⟩, by simp [intOf]; omega⟩
        exact congrArg (Value.int .u32) (by simpa using HO.out)
      · have HO := Lib.hid (or_join y u.toNat 24 hy (by omega) (by omega))
        have HN := Lib.hid (word_round hu.out HY.out 16777216 rfl)
        go_wp2_with fail
        refine ⟨⟨4, y + u.toNat * 16777216, by omega, rfl, ?_, by omega, HN⟩, by simp [intOf]; omega⟩
        exact congrArg (Value.int .u32) (by simpa using HO.out)
    · obtain rfl : k = n := by omega
      go_wp2_with fail
      go_ret
      rw [HW.out]
      exact ⟨by rw [HY.out, List.take_of_length_le (by have := HL.out; omega)]; rfl, hR1, hg⟩
end Go.Proofs.YtfepinnfhcjopaaGreatDoor
end
section
namespace Go.Proofs.YtfepinnfhcjopaaGreatDoor
open Go.RowKit Go.Nst
set_option maxRecDepth 100000
set_option linter.unusedVariables false

def RS.num (s : RS) : Int × RS := if s.bad = true then (0, s) else match getL s.l with
  | some (n, k) => (n, ⟨s.l.drop k, false⟩)
  | none => (0, ⟨s.l, true⟩)
def RS.text (s : RS) : List UInt8 × RS := s.num.2.take (if 65536 < s.num.1 then -1 else s.num.1)
def RS.byte (s : RS) : Nat × RS := (match (s.take 1).1 with | [] => 0 | u :: _ => u.toNat, (s.take 1).2)
def RS.left (s : RS) : Nat := if s.bad = true then 0 else s.l.length
/-- a value, and what is left -/
def RetV (T : TypeId) (w : World) (g : Nat) (v : Value) (s : RS) (e : Ending) (w' : World) : Prop := e = .returned v ∧ RdT T w' g s ∧ w.grownBy w' (some g)

theorem bad_any (g : Nat) (s : RS) (w : World) (hR : Rd w g s) :
    Calls Tryz.prog 46 #[.pointer (some ⟨g, 0, none⟩)] w fun e w' => e = .returned (.bool s.bad) ∧ w = w' := by
  obtain ⟨A, n, c, hblk, hB, hnc, hn⟩ := hR
  have c1 : w.cell? ⟨g, 1, none⟩ = some (.bool s.bad) := hblk.cell 1
  have HB := Lib.hid hblk
  clear hblk
  obtain ⟨sl, sb⟩ := s
  simp only at *
  cases sb
  all_goals
    go_enter Tryz.func46, Tryz.ntmps46
    go_wp2_with fail
    go_ret
    exact ⟨rfl, rfl⟩
theorem bad_nil (w : World) :
    Calls Tryz.prog 46 #[.pointer none] w fun e w' => e = .returned (.bool true) ∧ w = w' := by
  go_enter Tryz.func46, Tryz.ntmps46
  go_wp2_with fail
  go_ret
  exact ⟨rfl, rfl⟩
theorem left_any (g : Nat) (s : RS) (w : World) (hR : Rd w g s) :
    Calls Tryz.prog 47 #[.pointer (some ⟨g, 0, none⟩)] w fun e w' => e = .returned (.int .i64 (s.left : Int)) ∧ w = w' := by
  have Hb := Lib.hid (bad_any g s w hR)
  obtain ⟨A, n, c, hblk, hB, hnc, hn⟩ := hR
  have c0 : w.cell? ⟨g, 0, none⟩ = some (.slice A n c) := hblk.cell 0
  have HB := Lib.hid hblk
  clear hblk
  obtain ⟨sl, sb⟩ := s
  have HL : Hid (RS.left ⟨sl, sb⟩ = if sb = true then 0 else n) := by rw [← hB.len]; exact Lib.hid rfl
  generalize RS.left ⟨sl, sb⟩ = r at *
  cases sb
  all_goals
    go_enter Tryz.func47, Tryz.ntmps47
    go_wp2_with fail
    refine Hb.out.mono ?_
    rintro e w' ⟨rfl, rfl⟩
    go_wp2_with fail
    go_ret
    exact ⟨by rw [HL.out]; rfl, rfl⟩
theorem left_nil (w : World) : Calls Tryz.prog 47 #[.pointer none] w fun e w' => e = .returned (.int .i64 0) ∧ w = w' := by
  go_enter Tryz.func47, Tryz.ntmps47
  go_wp2_with fail
  refine (bad_nil w).mono ?_
  rintro e w' ⟨rfl, rfl⟩
  go_wp2_with fail
  go_ret
  exact ⟨rfl, rfl⟩
theorem take_nil (k : Int) (w : World) : Calls Tryz.prog 67 #[.pointer none, .int .i64 k] w fun e w' => e = .returned (.slice none 0 0) ∧ w = w' := by
  go_enter Tryz.func67, Tryz.ntmps67
  go_wp2_with fail
  go_ret
  exact ⟨rfl, rfl⟩

theorem num_bad {s : RS} (h : s.bad = true) : s.num = (0, s) := by unfold RS.num; rw [if_pos h]
theorem num_some {l : List UInt8} {n : Int} {k : Nat} (h : getL l = some (n, k)) : RS.num ⟨l, false⟩ = (n, (RS.take ⟨l, false⟩ k).2) := by
  unfold RS.num
  rw [if_neg (by simp)]
  simp only [h]
  have hk := (put_get h).2.2.1
  unfold RS.take
  rw [if_neg (by simp; omega)]
  simp
theorem num_none {l : List UInt8} (h : getL l = none) : RS.num ⟨l, false⟩ = (0, ⟨l, true⟩) := by
  unfold RS.num
  rw [if_neg (by simp)]
  simp only [h]

set_option maxHeartbeats 400000 in
theorem readNum_any (g : Nat) (s : RS) (w : World) (hR : Rd w g s) :
    Calls Tryz.prog 45 #[.pointer (some ⟨g, 0, none⟩)] w (RetV 95 w g (.int .i64 s.num.1) s.num.2) := by
  have Hb := Lib.hid (bad_any g s w hR)
  have HR := Lib.hid hR
  obtain ⟨A, n, c, hblk, hB, hnc, hn⟩ := hR
  have c0 : w.cell? ⟨g, 0, none⟩ = some (.slice A n c) := hblk.cell 0
  have c1 : w.cell? ⟨g, 1, none⟩ = some (.bool s.bad) := hblk.cell 1
  have f1 := hblk.frozen 1
  have HB := Lib.hid hblk
  clear hblk
  obtain ⟨sl, sb⟩ := s
  simp only at *
  cases sb with
  | true =>
    rw [num_bad rfl]
    go_enter Tryz.func45, Tryz.ntmps45
    go_wp2_with fail
    refine Hb.out.mono ?_
    rintro e w' ⟨rfl, rfl⟩
    go_wp2_with fail
    go_ret
    exact ⟨rfl, HR.out, World.grownBy.refl w _⟩
  | false =>
    have Hg := Lib.hid (get_any A n c sl w (by omega) hnc hB)
    cases hgl : getL sl with
    | none =>
      rw [num_none hgl]
      rw [hgl] at Hg
      clear hgl
      go_enter Tryz.func45, Tryz.ntmps45
      go_wp2_with fail
      refine Hb.out.mono ?_
      rintro e w' ⟨rfl, rfl⟩
      go_wp2_with fail
      refine Hg.out.mono ?_
      rintro e w' ⟨rfl, rfl⟩
      simp only [gotV]
      go_wp2_with fail
      go_ret
      have hg : w.grownBy (w.setCell ⟨g, 1, none⟩ (.bool true)) (some g) := only_setCell (World.grownBy.refl w _) (.inl rfl) _
      exact ⟨rfl, ⟨A, n, c, HB.out.set_ 1 _, hB.only hg (Rd.apart HB.out hB), hnc, hn⟩, hg⟩
    | some r =>
      obtain ⟨m, k⟩ := r
      rw [num_some hgl]
      rw [hgl] at Hg
      clear hgl
      have Ht := Lib.hid (take_any g ⟨sl, false⟩ (k : Int) w HR.out)
      go_enter Tryz.func45, Tryz.ntmps45
      go_wp2_with fail
      refine Hb.out.mono ?_
      rintro e w' ⟨rfl, rfl⟩
      go_wp2_with fail
      refine Hg.out.mono ?_
      rintro e w' ⟨rfl, rfl⟩
      simp only [gotV]
      go_wp2_with fail
      refine Ht.out.mono ?_
      rintro e w1 ⟨A1, n1, cc1, rfl, hB1, hR1, hg1, _⟩
      go_wp2_with fail
      go_ret
      exact ⟨rfl, hR1, hg1⟩
theorem readNum_nil (w : World) : Calls Tryz.prog 45 #[.pointer none] w fun e w' => e = .returned (.int .i64 0) ∧ w = w' := by
  go_enter Tryz.func45, Tryz.ntmps45
  go_wp2_with fail
  refine (bad_nil w).mono ?_
  rintro e w' ⟨rfl, rfl⟩
  go_wp2_with fail
  go_ret
  exact ⟨rfl, rfl⟩

theorem readText_any (g : Nat) (s : RS) (w : World) (hR : Rd w g s) :
    Calls Tryz.prog 44 #[.pointer (some ⟨g, 0, none⟩)] w (RetV 95 w g (.string ⟨s.text.1.toArray⟩) s.text.2) := by
  have Hn := Lib.hid (readNum_any g s w hR)
  have HT : Hid (s.text = s.num.2.take (if 65536 < s.num.1 then -1 else s.num.1)) := rfl
  generalize s.text = r at *
  generalize s.num = q at *
  obtain ⟨m, s1⟩ := q
  simp only at *
  by_cases hm : 65536 < m
  · rw [if_pos hm] at HT
    go_enter Tryz.func44, Tryz.ntmps44
    go_wp2_with fail
    refine Hn.out.mono ?_
    rintro e w1 ⟨rfl, hR1, hg1⟩
    go_wp2_with fail
    refine (take_any g s1 (-1) w1 hR1).mono ?_
    rw [← HT.out]
    rintro e w2 ⟨A2, n2, c2, rfl, hB2, hR2, hg2, _⟩
    have ks := hB2.str (P := Tryz.prog) 22 9 5 c2 Tryz.underlying22 Tryz.underlying5 Tryz.underlying9
    go_wp2_with fail
    go_ret
    exact ⟨rfl, hR2, only_trans hg1 hg2⟩
  · rw [if_neg hm] at HT
    go_enter Tryz.func44, Tryz.ntmps44
    go_wp2_with fail
    refine Hn.out.mono ?_
    rintro e w1 ⟨rfl, hR1, hg1⟩
    go_wp2_with fail
    refine (take_any g s1 m w1 hR1).mono ?_
    rw [← HT.out]
    rintro e w2 ⟨A2, n2, c2, rfl, hB2, hR2, hg2, _⟩
    have ks := hB2.str (P := Tryz.prog) 22 9 5 c2 Tryz.underlying22 Tryz.underlying5 Tryz.underlying9
    go_wp2_with fail
    go_ret
    exact ⟨rfl, hR2, only_trans hg1 hg2⟩
theorem readText_nil (w : World) : Calls Tryz.prog 44 #[.pointer none] w fun e w' => e = .returned (.string ⟨#[]⟩) ∧ w = w' := by
  have ks := fun W => (Bs.nil (w := W) (A := none)).str (P := Tryz.prog) 22 9 5 0 Tryz.underlying22 Tryz.underlying5 Tryz.underlying9
  go_enter Tryz.func44, Tryz.ntmps44
  go_wp2_with fail
  refine (readNum_nil w).mono ?_
  rintro e w' ⟨rfl, rfl⟩
  go_wp2_with fail
  refine (take_nil 0 w).mono ?_
  rintro e w' ⟨rfl, rfl⟩
  go_wp2_with fail
  go_ret
  exact ⟨rfl, rfl⟩

theorem take1_len (s : RS) : (s.take 1).1.length ≤ 1 := by
  unfold RS.take
  split
  · simp
  · simp; omega
theorem readByte_any (g : Nat) (s : RS) (w : World) (hR : Rd w g s) :
    Calls Tryz.prog 83 #[.pointer (some ⟨g, 0, none⟩)] w (RetV 95 w g (.int .i64 (s.byte.1 : Int)) s.byte.2) := by
  have Ht := Lib.hid (take_any g s 1 w hR)
  have HL := Lib.hid (take1_len s)
  have HY : Hid (s.byte = (match (s.take 1).1 with | [] => 0 | u :: _ => u.toNat, (s.take 1).2)) := rfl
  generalize s.byte = r at *
  generalize s.take 1 = q at *
  obtain ⟨l, s1⟩ := q
  simp only at *
  match l, HL.out, HY, Ht with
  | [], _, HY, Ht =>
    go_enter Tryz.func83, Tryz.ntmps83
    go_wp2_with fail
    refine Ht.out.mono ?_
    rintro e w1 ⟨A1, n1, c1, rfl, hB1, hR1, hg1, _⟩
    obtain rfl : n1 = 0 := by have := hB1.len; simpa using this.symm
    go_wp2_with fail
    go_ret
    rw [HY.out]
    exact ⟨rfl, hR1, hg1⟩
  | [u], _, HY, Ht =>
    go_enter Tryz.func83, Tryz.ntmps83
    go_wp2_with fail
    refine Ht.out.mono ?_
    rintro e w1 ⟨A1, n1, c1, rfl, hB1, hR1, hg1, _⟩
    obtain rfl : n1 = 1 := by have := hB1.len; simpa using this.symm
    obtain ⟨u1, b, off, rfl, hu, hb, hc, h256⟩ := hB1.at (show 0 < 1 by omega)
    obtain rfl : u1 = u := by have := hu.out; simpa using this.symm
    rw [Nat.add_zero] at hc
    go_wp2_with fail
    go_ret
    rw [HY.out]
    exact ⟨rfl, hR1, hg1⟩
  | _ :: _ :: _, h2, _, _ => simp at h2
theorem readByte_nil (w : World) : Calls Tryz.prog 83 #[.pointer none] w fun e w' => e = .returned (.int .i64 0) ∧ w = w' := by
  go_enter Tryz.func83, Tryz.ntmps83
  go_wp2_with fail
  refine (take_nil 1 w).mono ?_
  rintro e w' ⟨rfl, rfl⟩
  go_wp2_with fail
  go_ret
  exact ⟨rfl, rfl⟩
theorem readWord_nil (w : World) : Calls Tryz.prog 68 #[.pointer none] w fun e w' => e = .returned (.int .u32 0) ∧ w = w' := by
  go_enter Tryz.func68, Tryz.ntmps68
  go_wp2_with fail
  refine (take_nil 4 w).mono ?_
  rintro e w' ⟨rfl, rfl⟩
  go_wp2_with fail
  refine wp_loop_rounds 1 ?_
  rw [rounds_succ]
  go_wp2_with fail
  go_ret
  exact ⟨rfl, rfl⟩
end Go.Proofs.YtfepinnfhcjopaaGreatDoor
end
section
namespace Go.Proofs.YtfepinnfhcjopaaGreatDoor
open Go.RowKit Go.Nst
set_option maxRecDepth 100000
set_option linter.unusedVariables false

theorem refTake_any (g : Nat) (s : RS) (k : Int) (w : World) (hR : RdT 57 w g s) :
    Calls Tryz.prog 55 #[.pointer (some ⟨g, 0, none⟩), .int .i64 k] w (RetTT 57 w g (s.take k)) := by
  obtain ⟨A, n, c, hblk, hB, hnc, hn⟩ := hR
  have c0 : w.cell? ⟨g, 0, none⟩ = some (.slice A n c) := hblk.cell 0
  have c1 : w.cell? ⟨g, 1, none⟩ = some (.bool s.bad) := hblk.cell 1
  have f0 := hblk.frozen 0
  have f1 := hblk.frozen 1
  obtain ⟨sl, sb⟩ := s
  simp only at *
  have HB := Lib.hid hblk
  cases sb with
  | true =>
    go_enter Tryz.func55, Tryz.ntmps55
    go_wp2_with fail
    go_ret
    exact take_bad rfl HB.out hB hnc hn (.inl rfl)
  | false =>
    by_cases h0 : k < 0
    · go_enter Tryz.func55, Tryz.ntmps55
      go_wp2_with fail
      go_ret
      exact take_bad rfl HB.out hB hnc hn (.inr (.inl h0))
    · by_cases h1 : (n : Int) < k
      · go_enter Tryz.func55, Tryz.ntmps55
        go_wp2_with fail
        go_ret
        exact take_bad rfl HB.out hB hnc hn (.inr (.inr h1))
      · obtain ⟨j, rfl⟩ := Int.eq_ofNat_of_zero_le (Int.not_lt.1 h0)
        have hj : j ≤ n := by omega
        by_cases hcj : c = j
        · subst hcj
          obtain rfl : n = c := by omega
          go_enter Tryz.func55, Tryz.ntmps55
          go_wp2_with fail
          go_ret
          exact take_ok rfl HB.out hB hnc hn hj (if_pos rfl).symm rfl (by simp)
        · go_enter Tryz.func55, Tryz.ntmps55
          go_wp2_with fail
          go_ret
          exact take_ok rfl HB.out hB hnc hn hj (if_neg hcj).symm rfl rfl
theorem refByte_any (g : Nat) (s : RS) (w : World) (hR : RdT 57 w g s) :
    Calls Tryz.prog 77 #[.pointer (some ⟨g, 0, none⟩)] w (RetV 57 w g (.int .i64 (s.byte.1 : Int)) s.byte.2) := by
  have Ht := Lib.hid (refTake_any g s 1 w hR)
  have HL := Lib.hid (take1_len s)
  have HY : Hid (s.byte = (match (s.take 1).1 with | [] => 0 | u :: _ => u.toNat, (s.take 1).2)) := rfl
  generalize s.byte = r at *
  generalize s.take 1 = q at *
  obtain ⟨l, s1⟩ := q
  simp only at *
  match l, HL.out, HY, Ht with
  | [], _, HY, Ht =>
    go_enter Tryz.func77, Tryz.ntmps77
    go_wp2_with fail
    refine Ht.out.mono ?_
    rintro e w1 ⟨A1, n1, c1, rfl, hB1, hR1, hg1, _⟩
    obtain rfl : n1 = 0 := by have := hB1.len; simpa using this.symm
    go_wp2_with fail
    go_ret
    rw [HY.out]
    exact ⟨rfl, hR1, hg1⟩
  | [u], _, HY, Ht =>
    go_enter Tryz.func77, Tryz.ntmps77
    go_wp2_with fail
    refine Ht.out.mono ?_
    rintro e w1 ⟨A1, n1, c1, rfl, hB1, hR1, hg1, _⟩
    obtain rfl : n1 = 1 := by have := hB1.len; simpa using this.symm
    obtain ⟨u1, b, off, rfl, hu, hb, hc, h256⟩ := hB1.at (show 0 < 1 by omega)
    obtain rfl : u1 = u := by have := hu.out; simpa using this.symm
    rw [Nat.add_zero] at hc
    go_wp2_with fail
    go_ret
    rw [HY.out]
    exact ⟨rfl, hR1, hg1⟩
  | _ :: _ :: _, h2, _, _ => simp at h2

theorem refLeft_any (g : Nat) (s : RS) (w : World) (hR : RdT 57 w g s) :
    Calls Tryz.prog 31 #[.pointer (some ⟨g, 0, none⟩)] w fun e w' => e = .returned (.int .i64 (s.left : Int)) ∧ w = w' := by
  obtain ⟨A, n, c, hblk, hB, hnc, hn⟩ := hR
  have c0 : w.cell? ⟨g, 0, none⟩ = some (.slice A n c) := hblk.cell 0
  have c1 : w.cell? ⟨g, 1, none⟩ = some (.bool s.bad) := hblk.cell 1
  have HB := Lib.hid hblk
  clear hblk
  obtain ⟨sl, sb⟩ := s
  have HL : Hid (RS.left ⟨sl, sb⟩ = if sb = true then 0 else n) := by rw [← hB.len]; exact Lib.hid rfl
  generalize RS.left ⟨sl, sb⟩ = r at *
  simp only at *
  cases sb
  all_goals
    go_enter Tryz.func31, Tryz.ntmps31
    go_wp2_with fail
    go_ret
    exact ⟨by rw [HL.out]; rfl, rfl⟩

theorem bad_self (s : RS) (h : s.bad = true) : s = ⟨s.l, true⟩ := by cases s; simp only at h; rw [h]

set_option maxHeartbeats 400000 in
theorem refNum_any (g : Nat) (s : RS) (w : World) (hR : RdT 57 w g s) :
    Calls Tryz.prog 30 #[.pointer (some ⟨g, 0, none⟩)] w (RetV 57 w g (.int .i64 s.num.1) s.num.2) := by
  obtain ⟨A, n, c, hblk, hB, hnc, hn⟩ := hR
  have c0 : w.cell? ⟨g, 0, none⟩ = some (.slice A n c) := hblk.cell 0
  have c1 : w.cell? ⟨g, 1, none⟩ = some (.bool s.bad) := hblk.cell 1
  have f0 := hblk.frozen 0
  have f1 := hblk.frozen 1
  have HB := Lib.hid hblk
  clear hblk
  obtain ⟨sl, sb⟩ := s
  simp only at *
  have Hg := Lib.hid (refGet_any A n c sl w hB)
  have HP := Lib.hid (fun m k (h : getL sl = some (m, k)) => (put_get h).2.2.1)
  have hbad : w.grownBy (w.setCell ⟨g, 1, none⟩ (.bool true)) (some g) := only_setCell (World.grownBy.refl w _) (.inl rfl) _
  have HQ := Lib.hid hbad
  clear hbad
  cases hgl : getL sl with
  | none =>
    have HN : Hid (RS.num ⟨sl, sb⟩ = (0, ⟨sl, true⟩)) := by
      cases sb
      · exact num_none hgl
      · exact num_bad rfl
    generalize RS.num ⟨sl, sb⟩ = r at *
    rw [hgl] at Hg
    clear hgl
    cases sb
    all_goals
      go_enter Tryz.func30, Tryz.ntmps30
      go_wp2_with fail
      refine Hg.out.mono ?_
      rintro e w' ⟨rfl, rfl⟩
      simp only [gotR]
      go_wp2_with fail
      go_ret
      rw [HN.out]
      exact ⟨rfl, ⟨A, n, c, HB.out.set_ 1 _, hB.only HQ.out (Rd.apart HB.out hB), hnc, hn⟩, HQ.out⟩
  | some q =>
    obtain ⟨m, k⟩ := q
    have hk : k ≤ n := by rw [← hB.len]; exact HP.out m k hgl
    cases sb with
    | true =>
      rw [num_bad rfl]
      rw [hgl] at Hg
      clear hgl
      go_enter Tryz.func30, Tryz.ntmps30
      go_wp2_with fail
      refine Hg.out.mono ?_
      rintro e w' ⟨rfl, rfl⟩
      simp only [gotR]
      go_wp2_with fail
      go_ret
      exact ⟨rfl, ⟨A, n, c, HB.out.set_ 1 _, hB.only HQ.out (Rd.apart HB.out hB), hnc, hn⟩, HQ.out⟩
    | false =>
      have HN := Lib.hid (show RS.num ⟨sl, false⟩ = (m, ⟨sl.drop k, false⟩) by
        unfold RS.num
        rw [if_neg (by simp)]
        simp only [hgl])
      generalize RS.num ⟨sl, false⟩ = r at *
      rw [hgl] at Hg
      clear hgl
      have hcut := hB.cut hk hnc
      by_cases hck : c = k
      · rw [if_pos hck] at hcut
        subst hck
        obtain rfl : n = c := by omega
        rw [Nat.sub_self] at hcut
        have hg0 : w.grownBy (w.setCell ⟨g, 0, none⟩ (.slice A 0 0)) (some g) := only_setCell (World.grownBy.refl w _) (.inl rfl) _
        have HQ0 := Lib.hid hg0
        clear hg0
        go_enter Tryz.func30, Tryz.ntmps30
        go_wp2_with fail
        refine Hg.out.mono ?_
        rintro e w' ⟨rfl, rfl⟩
        simp only [gotR]
        go_wp2_with fail
        go_ret
        rw [HN.out]
        exact ⟨rfl, ⟨A, 0, 0, HB.out.set_ 0 _, hcut.only HQ0.out (Rd.apart HB.out hcut), by omega, by omega⟩, HQ0.out⟩
      · rw [if_neg hck] at hcut
        have hg0 : w.grownBy (w.setCell ⟨g, 0, none⟩ (.slice (A.map (·.add k)) (n - k) (c - k))) (some g) := only_setCell (World.grownBy.refl w _) (.inl rfl) _
        have HQ0 := Lib.hid hg0
        clear hg0
        go_enter Tryz.func30, Tryz.ntmps30
        go_wp2_with fail
        refine Hg.out.mono ?_
        rintro e w' ⟨rfl, rfl⟩
        simp only [gotR]
        go_wp2_with fail
        go_ret
        rw [HN.out]
        exact ⟨rfl, ⟨A.map (·.add k), n - k, c - k, HB.out.set_ 0 _, hcut.only HQ0.out (Rd.apart HB.out hcut), by omega, by omega⟩, HQ0.out⟩

theorem take_bad_eq (s : RS) (k : Int) (h : s.bad = true) : s.take k = ([], ⟨s.l, true⟩) := by unfold RS.take; rw [if_pos (.inl h)]
theorem take_neg_eq (s : RS) : s.take (-1) = ([], ⟨s.l, true⟩) := by unfold RS.take; rw [if_pos (.inr (.inl (by omega)))]

set_option maxHeartbeats 400000 in
theorem refText_any (g : Nat) (s : RS) (w : World) (hR : RdT 57 w g s) :
    Calls Tryz.prog 29 #[.pointer (some ⟨g, 0, none⟩)] w (RetV 57 w g (.string ⟨s.text.1.toArray⟩) s.text.2) := by
  have Hn := Lib.hid (refNum_any g s w hR)
  have HT : Hid (s.text = s.num.2.take (if 65536 < s.num.1 then -1 else s.num.1)) := rfl
  generalize s.text = r at *
  generalize s.num = q at *
  obtain ⟨m, s1⟩ := q
  simp only at *
  by_cases hm : 65536 < m
  · rw [if_pos hm, take_neg_eq] at HT
    go_enter Tryz.func29, Tryz.ntmps29
    go_wp2_with fail
    refine Hn.out.mono ?_
    rintro e w1 ⟨rfl, hR1, hg1⟩
    obtain ⟨A, n, c, hblk, hB, hnc, hn⟩ := hR1
    have c1 : w1.cell? ⟨g, 1, none⟩ = some (.bool s1.bad) := hblk.cell 1
    have f1 := hblk.frozen 1
    have hg2 : w1.grownBy (w1.setCell ⟨g, 1, none⟩ (.bool true)) (some g) := only_setCell (World.grownBy.refl w1 _) (.inl rfl) _
    have hR2 : RdT 57 (w1.setCell ⟨g, 1, none⟩ (.bool true)) g ⟨s1.l, true⟩ := ⟨A, n, c, hblk.set_ 1 _, hB.only hg2 (Rd.apart hblk hB), hnc, hn⟩
    have HB := Lib.hid hblk
    clear hblk
    go_wp2_with fail
    refine (refTake_any g ⟨s1.l, true⟩ m _ hR2).mono ?_
    rw [take_bad_eq _ m rfl]
    simp only
    rw [← HT.out]
    rintro e w2 ⟨A2, n2, c2, rfl, hB2, hR3, hg3, _⟩
    have ks := hB2.str (P := Tryz.prog) 22 9 5 c2 Tryz.underlying22 Tryz.underlying5 Tryz.underlying9
    go_wp2_with fail
    go_ret
    exact ⟨rfl, hR3, only_trans hg1 (only_trans hg2 hg3)⟩
  · rw [if_neg hm] at HT
    go_enter Tryz.func29, Tryz.ntmps29
    go_wp2_with fail
    refine Hn.out.mono ?_
    rintro e w1 ⟨rfl, hR1, hg1⟩
    go_wp2_with fail
    refine (refTake_any g s1 m w1 hR1).mono ?_
    rw [← HT.out]
    rintro e w2 ⟨A2, n2, c2, rfl, hB2, hR2, hg2, _⟩
    have ks := hB2.str (P := Tryz.prog) 22 9 5 c2 Tryz.underlying22 Tryz.underlying5 Tryz.underlying9
    go_wp2_with fail
    go_ret
    exact ⟨rfl, hR2, only_trans hg1 hg2⟩

end Go.Proofs.YtfepinnfhcjopaaGreatDoor
end
section
namespace Go.Proofs.YtfepinnfhcjopaaGreatDoor
open Go.RowKit Go.Nst
set_option maxRecDepth 100000
set_option linter.unusedVariables false

theorem lv_put1 : putL (zig (-1)) = [1] := by decide +kernel
theorem lv_put64 : putL (zig 64) = [128, 1] := by decide +kernel
theorem lv_get1 : getL [128, 1, 9] = some (64, 2) := by decide +kernel
theorem lv_get2 : getL [128, 0] = none := by decide +kernel
theorem lv_text : textL [97, 98] = [4, 97, 98] := by decide +kernel
theorem lv_rtext : RS.text ⟨[4, 97, 98, 7, 1, 2, 3, 4], false⟩ = ([97, 98], ⟨[7, 1, 2, 3, 4], false⟩) := by rfl
theorem lv_rbyte : RS.byte ⟨[7, 1, 2, 3, 4], false⟩ = (7, ⟨[1, 2, 3, 4], false⟩) := by rfl
theorem lv_rword : RS.word ⟨[1, 2, 3, 4], false⟩ = (67305985, ⟨[], false⟩) := by rfl
theorem lv_rnum : RS.num ⟨[], false⟩ = (0, ⟨[], true⟩) := by rfl
theorem lv_word : wordL 1 = [1, 0, 0, 0] := by decide +kernel

end Go.Proofs.YtfepinnfhcjopaaGreatDoor
end
section
namespace Go.Proofs.YtfepinnfhcjopaaGreatDoor
open Go.RowKit Go.Nst
set_option maxRecDepth 100000
set_option linter.unusedVariables false

theorem text_read (l b : List UInt8) (h : l.length ≤ 65536) : RS.text ⟨textL l ++ b, false⟩ = (l, ⟨b, false⟩) := by
  have hm : mayB (l.length : Int) = true := by rw [mayB_iff]; omega
  have hg : getL (textL l ++ b) = some ((l.length : Int), (putL (zig l.length)).length) := by
    unfold textL
    rw [List.append_assoc]
    exact get_put hm _
  have hn : RS.num ⟨textL l ++ b, false⟩ = ((l.length : Int), ⟨l ++ b, false⟩) := by
    unfold RS.num
    rw [if_neg (by simp)]
    simp only [hg]
    congr 2
    unfold textL
    rw [List.append_assoc, List.drop_left]
  unfold RS.text
  rw [hn]
  simp only
  rw [if_neg (by omega)]
  unfold RS.take
  rw [if_neg (by simp; omega)]
  simp

end Go.Proofs.YtfepinnfhcjopaaGreatDoor
end
