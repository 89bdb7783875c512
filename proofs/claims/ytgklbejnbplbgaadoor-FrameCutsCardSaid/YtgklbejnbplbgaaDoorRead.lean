/-
  The reader of bytes: From, take, Word.
-/
import Derived.Test.YtgklbejnbplbgaaDoorNumA
namespace Go.Proofs.YtgklbejnbplbgaaDoor
open Go.RowKit Go.Nst
set_option maxRecDepth 100000

/-- a reader: the bytes that are left, and whether it is bad -/
structure RS where
  l : List UInt8
  bad : Bool
/-- block g is a reader, of type T, that holds s -/
def RdT (T : TypeId) (w : World) (g : Nat) (s : RS) : Prop := ∃ A n c, Blk w g T #[.slice A n c, .bool s.bad] ∧ Bs w A n s.l ∧ n ≤ c ∧ n ≤ 140737488355328
abbrev Rd := RdT 62
theorem RdT.lt {T : TypeId} {w : World} {g : Nat} {s : RS} (h : RdT T w g s) : g < w.heap.size := by obtain ⟨_, _, _, h, _⟩ := h; exact h.lt
theorem Rd.apart {T : TypeId} {w : World} {g n c : Nat} {A : Option Addr} {b : Bool} {l : List UInt8} (h : Blk w g T #[.slice A n c, .bool b]) {A' : Option Addr} {n' : Nat} (hB : Bs w A' n' l) : ∀ ad, A' = some ad → 0 < n' → some ad.block ≠ some g := by
  intro ad e hn e2
  obtain ⟨u, b', off, e3, _, _, hc, _⟩ := hB.at hn
  rw [e] at e3
  injection e3 with e3
  subst e3
  injection e2 with e2
  simp only at e2
  subst e2
  rw [h.cell] at hc
  match off, hc with
  | 0, hc => simp at hc
  | 1, hc => simp at hc
  | k + 2, hc => simp at hc
theorem RdT.below {T : TypeId} {w w' : World} {g : Nat} {s : RS} (h : RdT T w g s) (hb : Below w.heap.size w w') : RdT T w' g s := by
  obtain ⟨A, n, c, h1, h2, h3, h4⟩ := h
  exact ⟨A, n, c, h1.below hb h1.lt, h2.below hb, h3, h4⟩
/-- another reader is read: this one stays as it is -/
theorem RdT.other {T T' : TypeId} {w w' : World} {g g' : Nat} {s s' : RS} (h : RdT T w g s) (h' : RdT T' w g' s') (hg : w.grownBy w' (some g')) (hne : g ≠ g') : RdT T w' g s := by
  obtain ⟨A, n, c, h1, h2, h3, h4⟩ := h
  obtain ⟨A', n', c', k1, _⟩ := h'
  refine ⟨A, n, c, h1.grown hg (by simpa using hne), h2.only hg (Rd.apart k1 h2), h3, h4⟩
theorem RdT.ne {T T' : TypeId} {w : World} {g g' : Nat} {s s' : RS} (h : RdT T w g s) (h' : RdT T' w g' s') (hT : T ≠ T') : g ≠ g' := by
  rintro rfl
  obtain ⟨A, n, c, h1, _⟩ := h
  obtain ⟨A', n', c', k1, _⟩ := h'
  unfold Blk at h1 k1
  rw [h1] at k1
  injection k1 with k1
  injection k1 with _ k2
  exact hT k2

def RetR (w : World) (s : RS) (e : Ending) (w' : World) : Prop := ∃ g, e = .returned (.pointer (some ⟨g, 0, none⟩)) ∧ Rd w' g s ∧ w.heap.size ≤ g ∧ Below w.heap.size w w'

theorem from_any (A : Option Addr) (n c : Nat) (l : List UInt8) (w : World) (hn : n ≤ 140737488355328) (hB : Bs w A n l) :
    Calls Tryd.prog 32 #[.slice A n c] w (RetR w ⟨l, false⟩) := by
  go_enter Tryd.func32, Tryd.ntmps32
  go_wp2_with fail
  refine (clone_any A n c l w hn hB).mono ?_
  rintro e w1 ⟨A1, n1, c1, rfl, ho1, hb1⟩
  have HC := Lib.hid (show n1 ≤ 140737488355328 from by have h1 := ho1.len; have h2 := hB.len; omega)
  go_wp2_with fail
  try go_ret
  exact ⟨_, rfl, ⟨A1, n1, c1, Blk.new w1 _ _, ho1.bs.alloc _, ho1.cap, HC.out⟩, hb1.size, hb1.alloc hb1.size _⟩

/-- so many bytes are taken -/
def RS.take (s : RS) (n : Int) : List UInt8 × RS := if s.bad = true ∨ n < 0 ∨ (s.l.length : Int) < n then ([], ⟨s.l, true⟩) else (s.l.take n.toNat, ⟨s.l.drop n.toNat, false⟩)
def RetTT (T : TypeId) (w : World) (g : Nat) (r : List UInt8 × RS) (e : Ending) (w' : World) : Prop := ∃ A n c, e = .returned (.slice A n c) ∧ Bs w' A n r.1 ∧ RdT T w' g r.2 ∧ w.grownBy w' (some g) ∧ n ≤ c
abbrev RetT := RetTT 62

theorem take_bad {T : TypeId} {w : World} {g n c : Nat} {A : Option Addr} {s : RS} {k : Int} {v : Value} (hv : v = .slice none 0 0) (hblk : Blk w g T #[.slice A n c, .bool s.bad]) (hB : Bs w A n s.l) (hnc : n ≤ c) (hn : n ≤ 140737488355328)
    (h : s.bad = true ∨ k < 0 ∨ (n : Int) < k) : RetTT T w g (s.take k) (.returned v) (w.setCell ⟨g, 1, none⟩ (.bool true)) := by
  have e : s.take k = ([], ⟨s.l, true⟩) := by unfold RS.take; rw [if_pos (by rw [hB.len]; exact h)]
  have hg : w.grownBy (w.setCell ⟨g, 1, none⟩ (.bool true)) (some g) := only_setCell (World.grownBy.refl w _) (.inl rfl) _
  rw [e]
  exact ⟨none, 0, 0, by rw [hv], Bs.nil, ⟨A, n, c, hblk.set_ 1 _, hB.only hg (Rd.apart hblk hB), hnc, hn⟩, hg, Nat.le_refl _⟩
theorem take_ok {T : TypeId} {w : World} {g n c j c2 : Nat} {A A2 : Option Addr} {l : List UInt8} {v V : Value} (hv : v = .slice A j c2) (hblk : Blk w g T #[.slice A n c, .bool false]) (hB : Bs w A n l) (hnc : n ≤ c) (hn : n ≤ 140737488355328)
    (hj : j ≤ n) (hA : A2 = if c = j then A else A.map (·.add j)) (hc2 : c2 = c) (hV : V = .slice A2 (n - j) (c - j)) : RetTT T w g (RS.take ⟨l, false⟩ j) (.returned v) (w.setCell ⟨g, 0, none⟩ V) := by
  subst hV
  have e : RS.take ⟨l, false⟩ j = (l.take j, ⟨l.drop j, false⟩) := by
    unfold RS.take
    rw [if_neg (by rw [hB.len]; simp; omega)]
    simp
  have hg : w.grownBy (w.setCell ⟨g, 0, none⟩ (.slice A2 (n - j) (c - j))) (some g) := only_setCell (World.grownBy.refl w _) (.inl rfl) _
  have hcut := hB.cut hj hnc
  rw [← hA] at hcut
  rw [e]
  exact ⟨A, j, c2, by rw [hv], (hB.upto hj).only hg (Rd.apart hblk (hB.upto hj)), ⟨A2, n - j, c - j, hblk.set_ 0 _, hcut.only hg (Rd.apart hblk hcut), by omega, by omega⟩, hg, by omega⟩

theorem take_any (g : Nat) (s : RS) (k : Int) (w : World) (hR : Rd w g s) :
    Calls Tryd.prog 43 #[.pointer (some ⟨g, 0, none⟩), .int .i64 k] w (RetT w g (s.take k)) := by
  obtain ⟨A, n, c, hblk, hB, hnc, hn⟩ := hR
  have c0 : w.cell? ⟨g, 0, none⟩ = some (.slice A n c) := hblk.cell 0
  have c1 : w.cell? ⟨g, 1, none⟩ = some (.bool s.bad) := hblk.cell 1
  have f0 := hblk.frozen 0
  have f1 := hblk.frozen 1
  obtain ⟨sl, sb⟩ := s
  simp only at *
  have HB := Lib.hid hblk
  cases sb with
  | true =>
    go_enter Tryd.func43, Tryd.ntmps43
    go_wp2_with fail
    go_ret
    exact take_bad rfl HB.out hB hnc hn (.inl rfl)
  | false =>
    by_cases h0 : k < 0
    · go_enter Tryd.func43, Tryd.ntmps43
      go_wp2_with fail
      go_ret
      exact take_bad rfl HB.out hB hnc hn (.inr (.inl h0))
    · by_cases h1 : (n : Int) < k
      · go_enter Tryd.func43, Tryd.ntmps43
        go_wp2_with fail
        go_ret
        exact take_bad rfl HB.out hB hnc hn (.inr (.inr h1))
      · obtain ⟨j, rfl⟩ := Int.eq_ofNat_of_zero_le (Int.not_lt.1 h0)
        have hj : j ≤ n := by omega
        by_cases hcj : c = j
        · subst hcj
          obtain rfl : n = c := by omega
          go_enter Tryd.func43, Tryd.ntmps43
          go_wp2_with fail
          go_ret
          exact take_ok rfl HB.out hB hnc hn hj (if_pos rfl).symm rfl (by simp)
        · go_enter Tryd.func43, Tryd.ntmps43
          go_wp2_with fail
          go_ret
          exact take_ok rfl HB.out hB hnc hn hj (if_neg hcj).symm rfl rfl
end Go.Proofs.YtgklbejnbplbgaaDoor
