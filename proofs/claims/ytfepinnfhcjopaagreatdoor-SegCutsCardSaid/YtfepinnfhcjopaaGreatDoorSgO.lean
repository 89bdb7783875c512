/-
  An argument that is a segment, opened; the two laid variables.
-/
import Derived.Test.YtfepinnfhcjopaaGreatDoorFrame
import Derived.Test.YtfepinnfhcjopaaGreatDoorFrmO
import Derived.Test.YtfepinnfhcjopaaGreatDoorNms
import Derived.Lib.SmallJoins
import Derived.Lib.LaidTab
namespace Go.Proofs.YtfepinnfhcjopaaGreatDoor
open Go.ChangeShapes Go.WideShapes Go.ChangeAt Go.RowKit Go.Nst Go.Deep
set_option maxRecDepth 100000
set_option linter.unusedVariables false

section
variable {H : Type} {enc : TypeId × Value → H} {P : Program} {w : World} {base : Nat} {spare : TypeId → Bool} {held : Bool}
theorem array3 {α : Type} {cs : Array α} (h : cs.size = 3) : ∃ c0 c1 c2, cs = #[c0, c1, c2] := by
  obtain ⟨l⟩ := cs
  match l, h with
  | [c0, c1, c2], _ => exact ⟨c0, c1, c2, rfl⟩
theorem trod_struct3 {t : TypeId} {f0 f1 f2 : Field} {fuel : Nat} {cs : List Value} {x : DataW H × List MemPlace} (ht : P.underlying t = some (.struct #[f0, f1, f2])) (h : DataW.trod enc P w base spare held fuel t cs = some x) :
    ∃ y0 y1 y2 n, cs.length = P.cellsOf t ∧ DataW.trod enc P w base spare held n f0.type ((cs.drop f0.offset).take (P.cellsOf f0.type)) = some y0 ∧ DataW.trod enc P w base spare held n f1.type ((cs.drop f1.offset).take (P.cellsOf f1.type)) = some y1 ∧ DataW.trod enc P w base spare held n f2.type ((cs.drop f2.offset).take (P.cellsOf f2.type)) = some y2 := by
  obtain ⟨xs, n, _, rfl, hl, hlen, hf⟩ := DataW.trod_struct ht h
  match xs, hlen with
  | [y0, y1, y2], _ => exact ⟨y0, y1, y2, n, hl, by simpa using hf 0 f0 rfl, by simpa using hf 1 f1 rfl, by simpa using hf 2 f2 rfl⟩
theorem open_agg3 {r : Reach} {b0 : Nat} {t : TypeId} {f0 f1 f2 : Field} {v : Value} {d : DataW H} {p : List MemPlace} (hs : P.underlying t = some (.struct #[f0, f1, f2])) (hone : oneCellFields P #[f0, f1, f2] = true) (hC : P.cellsOf t = 3)
    (hv : Value.okWide P w r b0 t v) (h : DataW.Trod enc P w base spare held t v d p) :
    ∃ (v0 v1 v2 : Value) (y0 y1 y2 : DataW H × List MemPlace) (n : Nat), v = .agg #[v0, v1, v2] ∧ DataW.trod enc P w base spare held n f0.type [v0] = some y0 ∧ DataW.trod enc P w base spare held n f1.type [v1] = some y1 ∧ DataW.trod enc P w base spare held n f2.type [v2] = some y2 := by
  obtain ⟨cs, rfl, hsz⟩ := okWide_struct hs hv
  obtain ⟨c0, c1, c2, rfl⟩ := array3 (hsz.trans hC)
  obtain ⟨fuel, hf⟩ := h
  obtain ⟨y0, y1, y2, n, _, h0, h1, h2⟩ := trod_struct3 hs hf
  obtain ⟨o0, k0⟩ := hone_of hone 0 f0 rfl
  obtain ⟨o1, k1⟩ := hone_of hone 1 f1 rfl
  obtain ⟨o2, k2⟩ := hone_of hone 2 f2 rfl
  exact ⟨c0, c1, c2, y0, y1, y2, n, rfl, by simpa [Value.cells, o0, k0] using h0, by simpa [Value.cells, o1, k1] using h1, by simpa [Value.cells, o2, k2] using h2⟩
end

theorem seg_int_of {H : Type} {enc : TypeId × Value → H} {W : World} {v : Value} {n : Nat} {y : DataW H × List MemPlace} (h : DataW.trod enc Tryz.prog W 0 (fun _ => true) true n 3 [v] = some y) : ∃ z, v = .int .i64 z := by
  obtain ⟨z, h1, _, h3⟩ := DataW.trod_int Tryz.underlying3 h
  injection h1 with h1
  exact ⟨z, h1⟩
/-- a slice of slices of bytes that came in -/
theorem open_bytess_t {H : Type} {enc : TypeId × Value → H} {W : World} {v : Value} {fuel : Nat} {y : DataW H × List MemPlace} (hf : DataW.trod enc Tryz.prog W 0 (fun _ => true) true fuel 24 [v] = some y) :
    ∃ A n c, ∃ ps : List Part, v = .slice A n c ∧ (Reads W W.heap.size 1 A n (ps.map Part.val) ∧ ∀ p ∈ ps, Bs W p.A p.n p.l ∧ p.n ≤ p.c ∧ p.c ≤ 9223372036854775807) ∧ n ≤ c ∧ c ≤ 9223372036854775807 := by
  rcases Deep.open_int_rows Tryz.underlying24 Tryz.underlying22 Tryz.underlying5 (by kernel_rfl) (by kernel_rfl) hf with ⟨hcs, _⟩ | ⟨x, ln, c, A, L, C, Z, hcs, _, hl, hm, _, hrow⟩
  · injection hcs with hcs
    subst hcs
    exact ⟨none, 0, 0, [], rfl, ⟨Reads.none_, by simp⟩, Nat.le_refl _, by omega⟩
  · injection hcs with hcs
    subst hcs
    have hlen : (((List.range ln).map fun r => (⟨A r, L r, C r, ((Z r).take (L r)).map fun z => UInt8.ofNat z.toNat⟩ : Part)).map Part.val).length = ln := by simp
    refine ⟨some x, ln, c, (List.range ln).map fun r => ⟨A r, L r, C r, ((Z r).take (L r)).map fun z => UInt8.ofNat z.toNat⟩, rfl, ⟨⟨by rw [hlen]; omega, fun hpos => ⟨x, rfl, ?_, fun j u hu => ?_⟩⟩, ?_⟩, hl, hm⟩
    · have h0 := (hrow 0 (by omega)).1
      have := World.block_lt_of_cell? W _ h0
      rwa [block_of_add] at this
    · have hj : j < ln := by
        rcases Nat.lt_or_ge j ln with h | h
        · exact h
        · rw [List.getElem?_eq_none (by rw [hlen]; exact h)] at hu; cases hu
      rw [(hrow j (by omega)).1]
      simp only [List.getElem?_map, List.getElem?_range hj, Option.map_some] at hu
      exact hu
    · intro p hp
      simp only [List.mem_map, List.mem_range] at hp
      obtain ⟨r, hr, rfl⟩ := hp
      obtain ⟨_, h1, h2, h3, h4, h5, h6⟩ := hrow r (by omega)
      unfold maxLen at h2
      refine ⟨⟨by rw [bv_len]; simp; omega, fun hpos => ?_⟩, h1, h2⟩
      simp only at hpos
      cases hA : A r with
      | none => have := h5 hA; omega
      | some a' =>
        obtain ⟨_, hc⟩ := h6 a' hA
        refine ⟨a', rfl, ?_, fun j u hu => ?_⟩
        · have := World.block_lt_of_cell? W _ (hc 0 (by omega))
          rwa [block_of_add] at this
        · have hj : j < L r := by
            rcases Nat.lt_or_ge j (L r) with h | h
            · exact h
            · rw [List.getElem?_eq_none (by rw [bv_len]; simp; omega)] at hu; cases hu
          have hzj : (Z r)[j]? = some ((Z r)[j]'(by omega)) := List.getElem?_eq_getElem (by omega)
          rw [hc j (by omega)]
          have hb := h4 ((Z r)[j]'(by omega)) (List.getElem_mem _)
          have hb2 := bounds_u8 hb
          simp only [bv, List.map_map, List.getElem?_map, List.getElem?_take, hj, if_true, hzj, Option.map_some] at hu
          injection hu with hu
          rw [← hu, List.getD_eq_getElem?_getD, hzj]
          simp
          omega

/-- a segment that came in -/
theorem open_seg {H : Type} {enc : TypeId × Value → H} {W : World} {base : Nat} {v : Value} {d : DataW H} {p : List MemPlace} (hv : Value.okWide Tryz.prog W .any base 26 v) (h0 : DataW.Trod enc Tryz.prog W 0 (fun _ => true) true 26 v d p) :
    ∃ f A n c, ∃ ps : List Part, ∃ z, v = .agg #[.int .i64 f, .slice A n c, .int .i64 z] ∧ (Reads W W.heap.size 1 A n (ps.map Part.val) ∧ ∀ p ∈ ps, Bs W p.A p.n p.l ∧ p.n ≤ p.c ∧ p.c ≤ 9223372036854775807) ∧ n ≤ c ∧ c ≤ 9223372036854775807 := by
  obtain ⟨v0, v1, v2, y0, y1, y2, m, rfl, h0, h1, h2⟩ := open_agg3 Tryz.underlying26 (by kernel_rfl) (by kernel_rfl) hv h0
  obtain ⟨f, rfl⟩ := seg_int_of h0
  obtain ⟨A, n, c, ps, rfl, hq, hn, hc⟩ := open_bytess_t h1
  obtain ⟨z, rfl⟩ := seg_int_of h2
  exact ⟨f, A, n, c, ps, z, rfl, hq, hn, hc⟩
/-- the rest of what is laid -/
theorem laid_tail {P : Program} {x : String × DataW Unit} {rest : List (String × DataW Unit)} {W : World} (h : laidMet P (x :: rest) W) : laidMet P rest W := by
  obtain ⟨ps, ⟨g, t, cs, fuel, p, q, h1, h2, h3, h4, h5, rfl⟩, hnd, hall⟩ := h
  exact ⟨q, h5, (List.nodup_append.1 hnd).2.1, fun b off hm => hall b off (List.mem_append.2 (.inr hm))⟩
theorem two_laid {W : World} (h : laidMet Tryz.prog (("newsstand/crc.halves", .agg (([0, 498536548, 997073096, 651767980, 1994146192, 1802195444, 1303535960, 1342533948, 3988292384, 4027552580, 3604390888, 3412177804, 2607071920, 2262029012, 2685067896, 3183342108] : List Int).map fun n => .lit (.int .u32 n))) :: ("newsstand/event.names", .agg ([nameL 0, nameL 1, nameL 2, nameL 3, nameL 4, nameL 5, nameL 6, nameL 7, nameL 8, nameL 9, nameL 10, nameL 11, nameL 12, nameL 13].map fun s => .lit (.string s))) :: []) W) : Tab W ∧ Nms W := by
  refine ⟨?_, nms_of (laid_tail h)⟩
  have ht : Lib.TabIs Tryz.prog W "newsstand/crc.halves" .u32 [0, 498536548, 997073096, 651767980, 1994146192, 1802195444, 1303535960, 1342533948, 3988292384, 4027552580, 3604390888, 3412177804, 2607071920, 2262029012, 2685067896, 3183342108] :=
    Lib.tabIs_of_head (show Tryz.prog.globalNamed "newsstand/crc.halves" = some 0 by kernel_rfl) (show (Tryz.prog.globals[0]?).map (·.type) = some 133 by kernel_rfl) Tryz.underlying133 Tryz.underlying82 (by kernel_rfl) (by kernel_rfl) h
  intro k hk
  have hc := ht.cell (show Tryz.prog.globalNamed "newsstand/crc.halves" = some 0 by kernel_rfl) k (by simpa using hk)
  have e : ∀ j : Fin 16, ([0, 498536548, 997073096, 651767980, 1994146192, 1802195444, 1303535960, 1342533948, 3988292384, 4027552580, 3604390888, 3412177804, 2607071920, 2262029012, 2685067896, 3183342108] : List Int).getD j.1 0 = (halfT j.1 : Int) := by decide
  have := e ⟨k, hk⟩
  simp only at this
  rw [← this]
  simpa using hc
end Go.Proofs.YtfepinnfhcjopaaGreatDoor
