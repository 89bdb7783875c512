/-
  close: a tag that closes.
-/
import Derived.Test.YtnagckdaleafdaaXmJ
namespace Go.Proofs.Ytnagckdaleafdaa
open Go.RowKit Go.Nst
set_option maxRecDepth 100000
set_option linter.unusedVariables false
set_option linter.unusedSimpArgs false

def cClose (s : XS) : XS := cMust [62] (cBlank (cName s).2)
set_option maxHeartbeats 4000000 in
theorem close8_any (g : Nat) (s : XS) (w : World) (hB : XrB w g s.1 s.2) (hl : s.1.length ≤ 100000) :
    Calls Try.prog 35 #[.pointer (some ⟨g, 0, none⟩)] w (RetTk w g [⟨2, (cName s).1, [], []⟩] (cClose s)) := by
  have hg := Blk.lt hB
  have HC1 := Lib.hid (name8_any g s w hB (by omega))
  have l1 := cName_len s
  have hc3 : cClose s = cMust [62] (cBlank (cName s).2) := rfl
  generalize cClose s = s5 at *
  generalize cName s = r at *
  obtain ⟨n, s2⟩ := r
  simp only at *
  have HC2 := Lib.hid (fun (W : World) (h : XrB W g s2.1 s2.2) => blank8_any g s2 W h (by omega))
  generalize (!(s2.1.takeWhile blkB).isEmpty) = q2 at *
  generalize cBlank s2 = s3 at *
  have HC3 := Lib.hid (fun (W : World) (h : XrB W g s3.1 s3.2) => must8_any g [62] s3 W h)
  rw [← hc3] at HC3
  clear hc3 hB
  have hn : n.length ≤ 9223372036854775807 := by omega
  go_enter Try.func35, Try.ntmps35
  go_wp2_with fail
  (with_reducible refine (HC1.out).mono ?_)
  rintro e w1 ⟨rfl, h1, h2⟩
  have hsz1 := h2.size
  have h1' := h1.alloc (.cells #[.int .i64 2, .string ⟨n.toArray⟩, .slice none 0 0, .string ⟨#[]⟩] 36)
  have a1 := Blk.new w1 36 #[.int .i64 2, .string ⟨n.toArray⟩, .slice none 0 0, .string ⟨#[]⟩]
  have g1 := grown_alloc h2 (.cells #[.int .i64 2, .string ⟨n.toArray⟩, .slice none 0 0, .string ⟨#[]⟩] 36)
  have HC2' := Lib.hid (HC2.out _ h1')
  obtain ⟨k, hk⟩ : ∃ k, w1.heap.size = k := ⟨_, rfl⟩
  rw [hk] at a1 hsz1
  have F1 := Lib.hid (And.intro h1' (And.intro a1 g1))
  clear HC2 h1 h2 h1' a1 g1 HC1
  go_wp2_with fail
  (with_reducible refine (HC2'.out).mono ?_)
  rintro e w2 ⟨rfl, h1, h2⟩
  have F2 := Lib.hid (And.intro h1 (And.intro (Blk.grown F1.out.2.1 h2 (by simp; omega)) (grown_two F1.out.2.2 h2)))
  have HC3' := Lib.hid (HC3.out _ h1)
  clear HC3 HC2' F1 h1 h2
  go_wp2_with fail
  (with_reducible refine (HC3'.out).mono ?_)
  rintro e w3 ⟨rfl, h1, h2⟩
  have F3 := Lib.hid (And.intro h1 (And.intro (Blk.grown F2.out.2.1 h2 (by simp; omega)) (grown_two F2.out.2.2 h2)))
  have x0 := F3.out.2.1.cell 0
  have x1 := F3.out.2.1.cell 1
  have x2 := F3.out.2.1.cell 2
  have x3 := F3.out.2.1.cell 3
  simp at x0 x1 x2 x3
  have hsz3 := F3.out.2.2.size
  clear HC3' F2 h1 h2
  go_wp2_with fail
  go_ret
  exact ⟨_, _, _, rfl, xt_lit hsz3 (xt_plain 2 n [] (by omega) hn (by simp)), Nat.le_refl _, by omega, F3.out.1.alloc _, grown_alloc F3.out.2.2 _⟩
end Go.Proofs.Ytnagckdaleafdaa
