/-
  Dates of the mail: Mail (printed by gen_dtu.py).
-/
import Derived.Test.YtjmmgekildlckaaDtM
import Derived.Test.YtjmmgekildlckaaTak
namespace Go.Proofs.Ytjmmgekildlckaa
open Go.RowKit Go.Nst
set_option maxRecDepth 100000
set_option linter.unusedVariables false
set_option linter.unusedSimpArgs false

/-- the world while a date of the mail is read: the words' row, the reader -/
structure MS (w W : World) (gw gr : Nat) (cs : Array Value) (r : RD) : Prop where
  qq : Blk W gw 9 cs
  rr : Rdd W gr r
  bel : Below w.heap.size w W
  h1 : w.heap.size ≤ gw
  h2 : gw < gr
theorem MS.drew {w W : World} {gw gr : Nat} {cs : Array Value} {r : RD} (h : MS w W gw gr cs r) : MS w W.drew gw gr cs r := ⟨h.qq, h.rr, h.bel.drew, h.h1, h.h2⟩
theorem MS.step {w W W' : World} {gw gr : Nat} {cs : Array Value} {r r' : RD} (h : MS w W gw gr cs r) (h1 : Rdd W' gr r') (h2 : W.grownBy W' (some gr)) : MS w W' gw gr cs r' :=
  ⟨h.qq.grown h2 (by intro e; injection e with e; have := h.h2; omega), h1, below_only h.bel h2 (by have := h.h1; have := h.h2; omega) h.bel.size, h.h1, h.h2⟩
theorem MS.R {w W W' : World} {gw gr : Nat} {cs : Array Value} {r : RD} (h : MS w W gw gr cs r) (h2 : W.grownBy W' (some gr)) : Below gr W W' :=
  below_only (Below.refl gr W) h2 (Nat.le_refl _) (Nat.le_of_lt (Blk.lt h.rr))
theorem MS.alloc {w W : World} {gw gr : Nat} {cs : Array Value} {r : RD} (h : MS w W gw gr cs r) (o : Obj) : MS w (W.alloc o) gw gr cs r ∧ Below gr W (W.alloc o) :=
  ⟨⟨h.qq.alloc o, h.rr.alloc o, bel_alloc h.bel o, h.h1, h.h2⟩, (Below.refl gr W).alloc (Nat.le_of_lt (Blk.lt h.rr)) o⟩
theorem MS.put {w W : World} {gw gr gd : Nat} {cs : Array Value} {r : RD} (h : MS w W gw gr cs r) (hd : gr < gd) (i : Nat) (v : Value) : MS w (W.setCell ⟨gd, i, none⟩ v) gw gr cs r :=
  ⟨Blk.far h.qq (by have := h.h2; simp only; omega) v, Blk.far h.rr (by simp only; omega) v, h.bel.setCell (by have := h.h1; have := h.h2; simp only; omega) v, h.h1, h.h2⟩
theorem MS.put6 {w W : World} {gw gr gd : Nat} {cs : Array Value} {r : RD} (h : MS w W gw gr cs r) (hd : gr < gd) (v0 v1 v2 v3 v4 v5 : Value) : MS w ((((((W.setCell ⟨gd, 0, none⟩ v0).setCell ⟨gd, 1, none⟩ v1).setCell ⟨gd, 2, none⟩ v2).setCell ⟨gd, 3, none⟩ v3).setCell ⟨gd, 4, none⟩ v4).setCell ⟨gd, 5, none⟩ v5) gw gr cs r :=
  (((((h.put hd 0 v0).put hd 1 v1).put hd 2 v2).put hd 3 v3).put hd 4 v4).put hd 5 v5
theorem blk_put6 {W : World} {gd : Nat} {T : TypeId} {c0 c1 c2 c3 c4 c5 : Value} (h : Blk W gd T #[c0, c1, c2, c3, c4, c5]) (v0 v1 v2 v3 v4 v5 : Value) : Blk ((((((W.setCell ⟨gd, 0, none⟩ v0).setCell ⟨gd, 1, none⟩ v1).setCell ⟨gd, 2, none⟩ v2).setCell ⟨gd, 3, none⟩ v3).setCell ⟨gd, 4, none⟩ v4).setCell ⟨gd, 5, none⟩ v5) gd T #[v0, v1, v2, v3, v4, v5] := by
  have := (((((h.set_ 0 v0).set_ 1 v1).set_ 2 v2).set_ 3 v3).set_ 4 v4).set_ 5 v5
  simpa using this
theorem below_put6 {W : World} {gr gd : Nat} (hd : gr < gd) (v0 v1 v2 v3 v4 v5 : Value) : Below gr W ((((((W.setCell ⟨gd, 0, none⟩ v0).setCell ⟨gd, 1, none⟩ v1).setCell ⟨gd, 2, none⟩ v2).setCell ⟨gd, 3, none⟩ v3).setCell ⟨gd, 4, none⟩ v4).setCell ⟨gd, 5, none⟩ v5) := by
  have hle := Nat.le_of_lt hd
  exact ((((((Below.refl gr W).setCell (p := ⟨gd, 0, none⟩) hle v0).setCell (p := ⟨gd, 1, none⟩) hle v1).setCell (p := ⟨gd, 2, none⟩) hle v2).setCell (p := ⟨gd, 3, none⟩) hle v3).setCell (p := ⟨gd, 4, none⟩) hle v4).setCell (p := ⟨gd, 5, none⟩) hle v5
theorem below_realloc4 {B : Nat} {w : World} (o o' : Obj) (h : B ≤ w.heap.size) : Below B (w.alloc o) (w.alloc o') :=
  ⟨rfl, rfl, rfl, by simp, fun i hi => (Below.heap_alloc w o' i (by omega)).trans (Below.heap_alloc w o i (by omega)).symm⟩
theorem MS.max {w W : World} {gw gr : Nat} {cs : Array Value} {r : RD} {m : Int} (h : MS w W gw gr cs r) (hm : w.cell? ⟨0, 0, none⟩ = some (.int .i64 m)) : W.cell? ⟨0, 0, none⟩ = some (.int .i64 m) :=
  (h.bel.cell (World.block_lt_of_cell? w _ hm)).trans hm
theorem five_of {α : Type} {l : List α} (h : l.length = 5) : ∃ a b c d e, l = [a, b, c, d, e] := by
  match l, h with
  | [a, b, c, d, e], _ => exact ⟨a, b, c, d, e, rfl⟩
theorem six_of {α : Type} {l : List α} (h : l.length = 6) : ∃ x a b c d e, l = [x, a, b, c, d, e] := by
  match l, h with
  | [x, a, b, c, d, e], _ => exact ⟨x, a, b, c, d, e, rfl⟩
theorem mail5_len {w : List (List UInt8)} (h : w.length ≠ 5) : mail5C w = none := by
  unfold mail5C
  split
  · simp at h
  · rfl
theorem indexL_ge : ∀ (l : List (List UInt8)) (s : List UInt8), -1 ≤ indexL l s
  | [], _ => by simp [indexL]
  | x :: l, s => by
    have := indexL_ge l s
    unfold indexL
    split
    · omega
    · split <;> omega
theorem indexL_len : ∀ (l : List (List UInt8)) (s : List UInt8), indexL l s ≤ l.length
  | [], _ => by simp [indexL]
  | x :: l, s => by
    have := indexL_len l s
    unfold indexL
    split
    · simp; omega
    · split <;> (simp; omega)
theorem indexL_le (l : List (List UInt8)) (s : List UInt8) : indexL namesM s ≤ 12 := indexL_len namesM s
theorem clock_bd (r : RD) : 0 ≤ (rdClock r).1 ∧ (rdClock r).1 ≤ 400000 := by
  have h1 := dig2_bd r
  have h2 := dig2_bd (rdSign [58] (clk1 r).2).2
  have h3 := dig2_bd (rdSign [58] (clk2 r).2).2
  have e1 : clk1 r = rdDig 2 r := rfl
  have e2 : clk2 r = rdDig 2 (rdSign [58] (clk1 r).2).2 := rfl
  have e3 : 0 ≤ (clk3 r).1 ∧ (clk3 r).1 ≤ 99 := by
    unfold clk3
    split
    · simp
    · exact h3
  rw [← e2] at h2
  rw [← e1] at h1
  unfold rdClock
  simp only
  omega
theorem zoneC_bd (e : List UInt8) : -400000 ≤ (zoneC e).1 ∧ (zoneC e).1 ≤ 400000 := by
  have h := off_bd false ⟨e, false⟩
  unfold zoneC
  cases hz : zoneN e with
  | none => exact h
  | some z =>
    unfold zoneN at hz
    simp only
    (repeat' split at hz) <;> first | (injection hz with hz; omega) | (cases hz)
theorem mail5_at (a b c d e : List UInt8) : mail5C [a, b, c, d, e] = if 1 ≤ a.length ∧ a.length ≤ 2 then
      toldC ⟨[], partB (rdDig a.length ⟨a, false⟩).2 || partB (rdYear ⟨c, false⟩).2 || partB (rdClock ⟨d, false⟩).2 || (zoneC e).2⟩
        ⟨(rdYear ⟨c, false⟩).1, indexL namesM b + 1, (rdDig a.length ⟨a, false⟩).1, (rdClock ⟨d, false⟩).1 / 3600, (rdClock ⟨d, false⟩).1 / 60 % 60, (rdClock ⟨d, false⟩).1 % 60⟩ (zoneC e).1
    else none := rfl
theorem split_lens (b : UInt8) : ∀ l : List UInt8, ∀ p ∈ splitL b l, p.length ≤ l.length
  | [], p, hp => by simp [splitL] at hp; simp [hp]
  | c :: t, p, hp => by
    have ih := split_lens b t
    simp only [splitL] at hp
    split at hp
    · simp at hp
      rcases hp with rfl | hp
      · simp
      · have := ih p hp; simp; omega
    · split at hp
      · simp at hp; simp [hp]
      · rename_i q qs hs
        rw [hs] at ih
        simp at hp
        rcases hp with rfl | hp
        · have := ih q (by simp); simp; omega
        · have := ih p (by simp [hp]); simp; omega
end Go.Proofs.Ytjmmgekildlckaa
