/-
  Feeds: entries in memory; whether two feeds are the same.
-/
import Derived.Test.YtjmmgekildlckaaRsF
namespace Go.Proofs.Ytjmmgekildlckaa
open Go.ChangeShapes Go.WideShapes Go.ChangeAt Go.Deep
open Go.RowKit Go.Nst
set_option maxRecDepth 100000
set_option linter.unusedVariables false
set_option linter.unusedSimpArgs false

def EnP (w : World) (S : Nat → Prop) (v : Array Value) (x : Ent) : Prop := v = enV x
theorem enP : ElP 5 EnP where
  pos := by omega
  size := by rintro w S v x rfl; rfl
  one := by
    rintro w S v x rfl u hu
    simp only [enV, List.mem_cons, List.not_mem_nil, or_false] at hu
    rcases hu with rfl | rfl | rfl | rfl | rfl <;> rfl
  keep := by rintro w w' S S' v x _ _ _ h; exact h
abbrev EnA := RwA 5 EnP
abbrev EnR := RwR 5 EnP
abbrev EnO := RwO 41 5 EnP
theorem iEns : Info Try.prog 29 41 (.agg #[.string ⟨#[]⟩, .string ⟨#[]⟩, .string ⟨#[]⟩, .int .i64 0, .bool false]) 5 64 := Info.mk_ Try.underlying29 (by kernel_rfl) rfl (by omega)
section
variable {w w' : World} {S S' : Nat → Prop} {A : Option Addr} {k n c base : Nat}
theorem en_at {l : List Ent} (h : EnA w S A k l) {i : Nat} (hi : i < k) : ∃ (x : Ent) (b off : Nat), Hid (l[i]? = some x) ∧ A = some ⟨b, off, none⟩ ∧ S b ∧ b < w.heap.size ∧
    w.cell? ⟨b, off + i * 5, none⟩ = some (.string ⟨x.gu.toArray⟩) ∧ w.cell? ⟨b, off + i * 5 + 1, none⟩ = some (.string ⟨x.ti.toArray⟩) ∧ w.cell? ⟨b, off + i * 5 + 2, none⟩ = some (.string ⟨x.li.toArray⟩) ∧ w.cell? ⟨b, off + i * 5 + 3, none⟩ = some (.int .i64 x.da) ∧ w.cell? ⟨b, off + i * 5 + 4, none⟩ = some (.bool x.dd) := by
  obtain ⟨x, v, b, off, h1, h2, h3, h4, rfl, h7⟩ := h.get hi
  exact ⟨x, b, off, h1, h2, h3, h4, h7 0 _ rfl, h7 1 _ rfl, h7 2 _ rfl, h7 3 _ rfl, h7 4 _ rfl⟩
end
/-- a feed -/
structure Docs where
  ti : List UInt8
  li : List UInt8
  en : List Ent
deriving DecidableEq
theorem take_sn {α : Type} {l l2 : List α} {k : Nat} {a b : α} (h1 : l[k]? = some a) (h2 : l2[k]? = some b) (h : l.take k = l2.take k) (he : a = b) : l.take (k + 1) = l2.take (k + 1) := by
  rw [List.take_add_one, List.take_add_one, h1, h2, h, he]
theorem ne_at_ {α : Type} {l l2 : List α} {k : Nat} {a b : α} (h1 : l[k]? = some a) (h2 : l2[k]? = some b) (he : a ≠ b) : l ≠ l2 := by
  rintro rfl
  rw [h1] at h2
  injection h2 with h2
  exact he h2
theorem bel_dn {w w' : World} (h : ∃ m, w' = w.drewN m) : Below w.heap.size w w' := by
  obtain ⟨m, rfl⟩ := h
  exact Nst.below_drewN (Below.refl _ _) m
set_option maxHeartbeats 4000000 in
theorem sameE10_any (l l2 : List Ent) (A A2 : Option Addr) (n n2 c c2 : Nat) (w : World) (S S2 : Nat → Prop) (hk : EnA w S A n l) (hk2 : EnA w S2 A2 n2 l2) (hc : n ≤ c ∧ c ≤ 9223372036854775807) (hc2 : n2 ≤ c2 ∧ c2 ≤ 9223372036854775807) :
    Calls Try.prog 8 #[.slice A n c, .slice A2 n2 c2] w fun e w' => e = .returned (.bool (decide (l = l2))) ∧ ∃ m, w' = w.drewN m := by
  have hl1 := hk.len
  have hl2 := hk2.len
  have hc1 := hc.1
  have hcc := hc.2
  have hc3 := hc2.1
  have hc4 := hc2.2
  clear hc hc2
  by_cases hlen : n = n2
  · subst hlen
    have HL := Lib.hid (And.intro hl1 hl2)
    clear hl1 hl2
    go_enter Try.func8, Try.ntmps8
    go_wp2_with fail
    go_loopw [5] (fun i wr => ∃ k : Nat, k ≤ n ∧ i = .int .i64 k ∧ Hid (l.take k = l2.take k) ∧ ∃ m, wr = w.drewN m) (fun i _ => n - (intOf i).toNat)
    case atStart => exact ⟨0, Nat.zero_le _, rfl, Lib.hid (by simp), 0, rfl⟩
    case round =>
      obtain ⟨k, hkl, rfl, hsofar, md, rfl⟩ := hrel
      by_cases hlt : k < n
      · obtain ⟨a, b, off, hg, rfl, -, hbs, f0, f1, f2, f3, f4⟩ := en_at hk hlt
        obtain ⟨a2, b2, off2, hg2, rfl, -, hbs2, h0, h1, h2, h3, h4⟩ := en_at hk2 hlt
        have hlt' : decide (k < n) = true := by simpa using hlt
        have hki : (k : Int) < (n : Int) := by omega
        cases e0 : (a.gu == a2.gu) with
        | false =>
          have HN : Hid (decide (l = l2) = false) := Lib.hid (by simpa using ne_at_ hg.out hg2.out (fun e => by subst e; simp at e0))
          go_wp2_with fail
          go_quiet (fail)
          go_wp2_with fail
          go_ret
          exact ⟨by rw [HN.out]; rfl, md + nq, by simp⟩
        | true =>
          cases e1 : (a.ti == a2.ti) with
          | false =>
            have HN : Hid (decide (l = l2) = false) := Lib.hid (by simpa using ne_at_ hg.out hg2.out (fun e => by subst e; simp at e1))
            go_wp2_with fail
            go_quiet (fail)
            go_wp2_with fail
            go_ret
            exact ⟨by rw [HN.out]; rfl, md + nq, by simp⟩
          | true =>
            cases e2 : (a.li == a2.li) with
            | false =>
              have HN : Hid (decide (l = l2) = false) := Lib.hid (by simpa using ne_at_ hg.out hg2.out (fun e => by subst e; simp at e2))
              go_wp2_with fail
              go_quiet (fail)
              go_wp2_with fail
              go_ret
              exact ⟨by rw [HN.out]; rfl, md + nq, by simp⟩
            | true =>
              cases e3 : (decide (a.da = a2.da)) with
              | false =>
                have HN : Hid (decide (l = l2) = false) := Lib.hid (by simpa using ne_at_ hg.out hg2.out (fun e => by subst e; simp at e3))
                have e3b : (a.da == a2.da) = false := by simpa using e3
                go_wp2_with fail
                go_quiet (fail)
                go_wp2_with fail
                go_ret
                exact ⟨by rw [HN.out]; rfl, md + nq, by simp⟩
              | true =>
                cases e4 : (a.dd == a2.dd) with
                | false =>
                  have e3b : (a.da == a2.da) = true := by simpa using e3
                  have HN : Hid (decide (l = l2) = false) := Lib.hid (by simpa using ne_at_ hg.out hg2.out (fun e => by subst e; simp at e4))
                  go_wp2_with fail
                  go_quiet (fail)
                  go_wp2_with fail
                  go_ret
                  exact ⟨by rw [HN.out]; rfl, md + nq, by simp⟩
                | true =>
                  have ee : a = a2 := by
                    obtain ⟨x0, x1, x2, x3, x4⟩ := a
                    obtain ⟨y0, y1, y2, y3, y4⟩ := a2
                    simp at e0 e1 e2 e3 e4
                    rw [e0, e1, e2, e3, e4]
                  have HN := Lib.hid (take_sn hg.out hg2.out hsofar.out ee)
                  have e3b : (a.da == a2.da) = true := by simpa using e3
                  clear ee
                  go_wp2_with fail
                  go_quiet (fail)
                  go_wp2_with fail
                  go_roundw
                  case rel => exact ⟨k + 1, by omega, by go_num, HN, md + nq, by simp⟩
                  case measure => simp [intOf] <;> omega
      · obtain rfl : k = n := by omega
        have hlt' : decide (k < k) = false := by simp
        have HN : Hid (decide (l = l2) = true) := Lib.hid (by
          have := hsofar.out
          rw [List.take_of_length_le (by have := HL.out; omega), List.take_of_length_le (by have := HL.out; omega)] at this
          simpa using this)
        clear hsofar
        go_wp2_with fail
        go_ret
        exact ⟨by rw [HN.out]; rfl, md, rfl⟩
  · have HN : Hid (decide (l = l2) = false) := Lib.hid (by
      simp
      rintro rfl
      omega)
    have hb : ((n : Int) != (n2 : Int)) = true := by simp; omega
    have hb2 : (n != n2) = true := by simpa using hlen
    clear hl1 hl2
    go_enter Try.func8, Try.ntmps8
    go_wp2_with fail
    go_ret
    exact ⟨by rw [HN.out]; rfl, 0, rfl⟩
end Go.Proofs.Ytjmmgekildlckaa
