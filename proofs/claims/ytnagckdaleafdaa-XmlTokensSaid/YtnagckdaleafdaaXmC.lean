/-
  Blanks: strings.ContainsRune at any rune; blank$1.
-/
import Derived.Test.YtnagckdaleafdaaXmB
import Derived.Test.YtnagckdaleafdaaShelf
import Derived.BigQuiet
import Derived.Laws.Runes
import Derived.WalkMore
namespace Go.Proofs.Ytnagckdaleafdaa
open Go.RowKit Go.Nst
set_option maxRecDepth 100000
set_option linter.unusedVariables false
set_option linter.unusedSimpArgs false

theorem quiet_same2 {P : Program} {f : FuncId} {args : Array Value} {w : World} {q n : Nat} {v : Value}
    (h : Calls P f args (w.drewN (q + n)) fun e w' => e = .returned v ∧ w.drewN (q + n) = w') : Calls P f args (w.drewN (q + n)) fun e w'' => e = .returned v ∧ ∃ m, w'' = w.drewN (q + m) :=
  h.mono fun _ _ ⟨he, hm⟩ => ⟨he, n, hm.symm⟩
theorem ib_high (u : UInt8) (hu : 128 ≤ u.toNat) : ∀ (l : List UInt8) (hl : ∀ c ∈ l, c.toNat < 128), Lib.indexByte l ((u.toNat : Int).toNat.toUInt8) = -1
  | [], _ => rfl
  | c :: l, hl => by
    have e : (u.toNat : Int).toNat.toUInt8 = u := by simp
    have ih := ib_high u hu l (fun c hc => hl c (by simp [hc]))
    rw [e] at ih ⊢
    have hne : (c == u) = false := by
      rw [beq_eq_false_iff_ne]
      rintro rfl
      have := hl c (by simp)
      omega
    unfold Lib.indexByte
    rw [hne, ih]
    rfl
theorem ib_any (s : ByteArray) (u : UInt8) (hu : 128 ≤ u.toNat) (hl : ∀ c ∈ s.data.toList, c.toNat < 128) (w : World) : ∀ n, Calls Try.prog 96 #[.string s, .int .u8 (u.toNat : Int)] (w.drewN n) fun e w' => e = .returned (.int .i64 (-1)) ∧ w.drewN n = w' := fun n => by
  have := Try.strings_IndexByte s (u.toNat : Int) (w.drewN n)
  rw [ib_high u hu _ hl] at this
  exact this.mono fun e w' ⟨h1, h2⟩ => ⟨h1, h2.symm⟩
theorem blk_low : ∀ c ∈ (⟨#[32, 9, 13, 10]⟩ : ByteArray).data.toList, c.toNat < 128 := by decide
set_option maxHeartbeats 4000000 in
theorem indexHigh_any (r : Int) (w : World) (h0 : 128 ≤ r) (h1 : r ≤ 1114111) : Calls Try.prog 86 #[.string ⟨#[32, 9, 13, 10]⟩, .int .i32 r] w fun e w' => e = .returned (.int .i64 (-1)) ∧ Below w.heap.size w w' := by
  have g0 : decide ((0 : Int) ≤ r) = true := by simp; omega
  have g1 : decide (r < 128) = false := by simp; omega
  by_cases hr : r = 65533
  · subst hr
    have hbs : bl ⟨#[32, 9, 13, 10]⟩ = [32, 9, 13, 10] := rfl
    obtain ⟨s, hs⟩ : ∃ s : ByteArray, s = ⟨#[32, 9, 13, 10]⟩ := ⟨_, rfl⟩
    have hsz : s.size = 4 := by rw [hs]; rfl
    have HS := Lib.hid hs
    rw [← hs]
    clear hs hbs
    go_enter Try.func86, Try.ntmps86
    go_wp2_with fail
    go_loopw [] (fun wr => ∃ (pos : Nat), pos ≤ s.size ∧ wr.heap[w.heap.size]? = some (.stringIter s pos) ∧ Below w.heap.size w wr) (fun wr => s.size - wr.iterPos w.heap.size)
    case atStart =>
      refine ⟨0, by omega, ?_, bel_alloc (Below.refl _ _) _⟩
      have := World.iter_heap w s 0
      simpa using this
    case round =>
      obtain ⟨pos, hps, hit, hbw⟩ := hrel
      have hlt : w.heap.size < wr.heap.size := (Array.getElem?_eq_some_iff.1 hit).1
      by_cases hp : pos < s.size
      · have hnx : ∀ ty, (Instr.next (.pointer (some ⟨w.heap.size, 0, none⟩)) true ty).run Try.prog wr = _ := fun ty => Lib.run_next_any_at wr w.heap.size s pos ty hit hp
        rw [decode_bl s pos hp] at hnx
        have hf : ∃ n : Nat, firstL ((bl s).drop pos) = (n, 1) ∧ n < 100 := by
          rw [HS.out] at hp ⊢
          have hp4 : pos < 4 := hp
          match pos, hp4 with
          | 0, _ => exact ⟨32, rfl, by omega⟩
          | 1, _ => exact ⟨9, rfl, by omega⟩
          | 2, _ => exact ⟨13, rfl, by omega⟩
          | 3, _ => exact ⟨10, rfl, by omega⟩
        obtain ⟨n, hf, hn⟩ := hf
        rw [hf] at hnx
        simp only at hnx
        have hit2 := Lib.iterAt_heap wr w.heap.size s pos (pos + 1) hit
        have hbw2 := Lib.below_iterAt hbw (k := w.heap.size) (by omega) s (pos + 1)
        have hne : ((n : Int) == 65533) = false := by simp; omega
        clear hf
        go_wp2_with fail
        go_roundw
        case rel => exact ⟨pos + 1, by omega, hit2, hbw2⟩
        case measure =>
          simp only [World.iterPos, hit2, hit]
          omega
      · have hnx : ∀ ty, (Instr.next (.pointer (some ⟨w.heap.size, 0, none⟩)) true ty).run Try.prog wr = _ := fun ty => Lib.run_next_end_at wr w.heap.size s pos ty hit hp
        go_wp2_with fail
        go_ret
        exact ⟨rfl, hbw⟩
  · have g2 : (r == 65533) = false := by simpa using hr
    have HV := Lib.hid (Try.utf8_ValidRune r w)
    by_cases hv : Lib.validRune r = true
    · have hval : Utf8.valid r = true := by
        rw [Go.validRune_eq]
        unfold Lib.validRune at hv
        unfold Go.validRune
        simpa using hv
      obtain ⟨z1, z2, z3⟩ := Go.encode_facts r hval h0
      have hcv : ∀ W : World, (convert 21 9 (.int .i32 r)).run Try.prog W = .ok (.string (Utf8.encode r)) W := fun W => run_convert_int_string W _ _ _ _ (by rw [Try.underlying21]; rfl) Try.underlying9
      generalize Utf8.encode r = e at *
      rw [hv] at HV
      have z3 := Lib.hid z3
      clear hval hv
      rcases (show e.size = 2 ∨ e.size = 3 ∨ e.size = 4 by omega) with e2 | e2 | e2
      · obtain ⟨u, hu⟩ : ∃ u, e[1] = u := ⟨_, rfl⟩
        have hu8 : 128 ≤ u.toNat := by
          have := z3.out (by omega)
          rw [← hu]
          simpa [e2] using this
        have hi : (1 : Nat) < e.size := by omega
        have hu9 := u.toNat_lt
        have hne : (((⟨#[32, 9, 13, 10]⟩ : ByteArray)[1].toNat : Int) != (u.toNat : Int)) = true := by
          have hk : (⟨#[32, 9, 13, 10]⟩ : ByteArray)[1].toNat = 9 := rfl
          rw [hk]
          simp
          omega
        have HC := Lib.hid (fun W => ib_any ((⟨#[32, 9, 13, 10]⟩ : ByteArray).extract 2 4) u hu8 (fun c hc => blk_low c (Go.mem_extract hc)) W)
        have hw2 : IntKind.i64.wrap 2 = 2 := by decide
        have hw3 : IntKind.i64.wrap 3 = 3 := by decide
        have hw4 : IntKind.i64.wrap 4 = 4 := by decide
        go_enter Try.func86, Try.ntmps86
        go_wp2_with fail
        (with_reducible refine (HV.out).mono ?_)
        rintro e' w2 ⟨rfl, rfl⟩
        have hcv2 := hcv w2
        clear hcv z3
        go_wp2_with fail
        go_step3
        go_wp2_with fail
        go_loopw [9, 10] (fun i f wr => i = .int .i64 1 ∧ f = .int .i64 0 ∧ wr = w2) (fun _ _ _ => 0)
        case atStart => exact ⟨by go_num, rfl, rfl⟩
        case round =>
          obtain ⟨rfl, rfl, rfl⟩ := hrel
          go_wp2_with fail
          go_step3
          go_wp2_with fail
          go_quiet (fail)
          go_wp2_with fail
          go_quiet ((go_at_call 96; exact quiet_same2 (HC.out _ _)))
          go_wp2_with fail
          simp +zetaDelta only [Exit.noGoto_ret, Exit.inBlock, Exit.then]
          go_ret
          exact ⟨rfl, Nst.below_drewN (Below.refl _ _) _⟩
      · obtain ⟨u, hu⟩ : ∃ u, e[2] = u := ⟨_, rfl⟩
        have hu8 : 128 ≤ u.toNat := by
          have := z3.out (by omega)
          rw [← hu]
          simpa [e2] using this
        have hi : (2 : Nat) < e.size := by omega
        have hu9 := u.toNat_lt
        have hne : (((⟨#[32, 9, 13, 10]⟩ : ByteArray)[2].toNat : Int) != (u.toNat : Int)) = true := by
          have hk : (⟨#[32, 9, 13, 10]⟩ : ByteArray)[2].toNat = 13 := rfl
          rw [hk]
          simp
          omega
        have HC := Lib.hid (fun W => ib_any ((⟨#[32, 9, 13, 10]⟩ : ByteArray).extract 3 4) u hu8 (fun c hc => blk_low c (Go.mem_extract hc)) W)
        have hw2 : IntKind.i64.wrap 2 = 2 := by decide
        have hw3 : IntKind.i64.wrap 3 = 3 := by decide
        have hw4 : IntKind.i64.wrap 4 = 4 := by decide
        go_enter Try.func86, Try.ntmps86
        go_wp2_with fail
        (with_reducible refine (HV.out).mono ?_)
        rintro e' w2 ⟨rfl, rfl⟩
        have hcv2 := hcv w2
        clear hcv z3
        go_wp2_with fail
        go_step3
        go_wp2_with fail
        go_loopw [9, 10] (fun i f wr => i = .int .i64 2 ∧ f = .int .i64 0 ∧ wr = w2) (fun _ _ _ => 0)
        case atStart => exact ⟨by go_num, rfl, rfl⟩
        case round =>
          obtain ⟨rfl, rfl, rfl⟩ := hrel
          go_wp2_with fail
          go_step3
          go_wp2_with fail
          go_quiet (fail)
          go_wp2_with fail
          go_quiet ((go_at_call 96; exact quiet_same2 (HC.out _ _)))
          go_wp2_with fail
          simp +zetaDelta only [Exit.noGoto_ret, Exit.inBlock, Exit.then]
          go_ret
          exact ⟨rfl, Nst.below_drewN (Below.refl _ _) _⟩
      · obtain ⟨u, hu⟩ : ∃ u, e[3] = u := ⟨_, rfl⟩
        have hu8 : 128 ≤ u.toNat := by
          have := z3.out (by omega)
          rw [← hu]
          simpa [e2] using this
        have hi : (3 : Nat) < e.size := by omega
        have hu9 := u.toNat_lt
        have hne : (((⟨#[32, 9, 13, 10]⟩ : ByteArray)[3].toNat : Int) != (u.toNat : Int)) = true := by
          have hk : (⟨#[32, 9, 13, 10]⟩ : ByteArray)[3].toNat = 10 := rfl
          rw [hk]
          simp
          omega
        have HC := Lib.hid (fun W => ib_any ((⟨#[32, 9, 13, 10]⟩ : ByteArray).extract 4 4) u hu8 (fun c hc => blk_low c (Go.mem_extract hc)) W)
        have hw2 : IntKind.i64.wrap 2 = 2 := by decide
        have hw3 : IntKind.i64.wrap 3 = 3 := by decide
        have hw4 : IntKind.i64.wrap 4 = 4 := by decide
        go_enter Try.func86, Try.ntmps86
        go_wp2_with fail
        (with_reducible refine (HV.out).mono ?_)
        rintro e' w2 ⟨rfl, rfl⟩
        have hcv2 := hcv w2
        clear hcv z3
        go_wp2_with fail
        go_step3
        go_wp2_with fail
        go_loopw [9, 10] (fun i f wr => i = .int .i64 3 ∧ f = .int .i64 0 ∧ wr = w2) (fun _ _ _ => 0)
        case atStart => exact ⟨by go_num, rfl, rfl⟩
        case round =>
          obtain ⟨rfl, rfl, rfl⟩ := hrel
          go_wp2_with fail
          go_step3
          go_wp2_with fail
          go_quiet (fail)
          go_wp2_with fail
          go_quiet ((go_at_call 96; exact quiet_same2 (HC.out _ _)))
          go_wp2_with fail
          simp +zetaDelta only [Exit.noGoto_ret, Exit.inBlock, Exit.then]
          go_ret
          exact ⟨rfl, Nst.below_drewN (Below.refl _ _) _⟩
    · have hv : Lib.validRune r = false := by simpa using hv
      rw [hv] at HV
      go_enter Try.func86, Try.ntmps86
      go_wp2_with fail
      (with_reducible refine (HV.out).mono ?_)
      rintro e w2 ⟨rfl, rfl⟩
      go_wp2_with fail
      go_ret
      exact ⟨rfl, Below.refl _ _⟩
end Go.Proofs.Ytnagckdaleafdaa
