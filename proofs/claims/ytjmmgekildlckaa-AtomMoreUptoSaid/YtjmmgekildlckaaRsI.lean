/-
  The document's element of tokens, Build, Parse.
-/
import Derived.Test.YtjmmgekildlckaaRsH
import Derived.Test.YtjmmgekildlckaaXmZ
namespace Go.Proofs.Ytjmmgekildlckaa
open Go.ChangeShapes Go.WideShapes Go.ChangeAt Go.Deep
open Go.RowKit Go.Nst
set_option maxRecDepth 100000
set_option linter.unusedVariables false
set_option linter.unusedSimpArgs false

/-- the rounds of an element that is open -/
def elGo (rec_ : List Xtk → Option (Elm × Nat)) (l : List Xtk) (nm : List UInt8) (ats : List Xat) : Nat → List UInt8 → List Elm → Nat → Option (Elm × Nat)
  | 0, _, _, _ => none
  | g + 1, tx, ks, i => match l[i]? with
    | none => none
    | some t => if t.kd = 3 then elGo rec_ l nm ats g (tx ++ t.tx) ks (i + 1)
      else if t.kd = 1 then (match rec_ (l.drop i) with
        | none => none
        | some (k, n) => elGo rec_ l nm ats g tx (ks ++ [k]) (i + n))
      else if t.kd = 2 then (if t.nm = nm then some (.mk nm ats tx ks, i + 1) else none)
      else none
/-- the element with which tokens begin; how many they are -/
def elemD : Nat → List Xtk → Option (Elm × Nat)
  | 0, _ => none
  | f + 1, l => match l[0]? with
    | none => none
    | some t => if t.kd = 1 then elGo (elemD f) l t.nm t.ats (l.length + 1) [] [] 1 else none
/-- few tokens, of short texts -/
def TkSm (l : List Xtk) : Prop := l.length ≤ 1000 ∧ ∀ t ∈ l, t.nm.length ≤ 1000 ∧ t.tx.length ≤ 1000 ∧ t.ats.length ≤ 1000 ∧ ∀ a ∈ t.ats, a.nm.length ≤ 1000 ∧ a.vl.length ≤ 1000
theorem TkSm.drop {l : List Xtk} (h : TkSm l) (i : Nat) : TkSm (l.drop i) := ⟨by rw [List.length_drop]; have := h.1; omega, fun t ht => h.2 t (List.mem_of_mem_drop ht)⟩
section
variable {w w' : World} {S S' : Nat → Prop}
theorem xt_drop {l : List Xtk} {b off n i : Nat} (h : XtA w S (some ⟨b, off, none⟩) n l) (hi : i < n) : XtA w S (some ⟨b, off + i * 4, none⟩) (n - i) (l.drop i) := by
  obtain ⟨hk, V, hA, hq⟩ := h
  refine ⟨by rw [List.length_drop, hk], fun j => V (i + j), fun _ => ?_, fun j x hx => hq (i + j) x (by rw [List.getElem?_drop] at hx; exact hx)⟩
  obtain ⟨b', off', e, h1, h2, h3⟩ := hA (by omega)
  injection e with e
  injection e with e1 e2 e3
  subst e1
  subst e2
  refine ⟨_, _, rfl, h1, h2, fun j u v hj hv => ?_⟩
  have := h3 (i + j) u v (by omega) hv
  rw [show off + (i + j) * 4 + u = off + i * 4 + j * 4 + u by rw [Nat.add_mul]; omega] at this
  exact this
end
/-- an element handed back, how many tokens it is, whether it is one -/
def RetEe (w : World) (S : Nat → Prop) (n : Nat) (o : Option (Elm × Nat)) (e : Ending) (w' : World) : Prop :=
  ∃ (E : Elm) (A1 : Option Addr) (c1 : Nat) (B1 : Option Addr) (d1 k : Nat), e = .returned (.tuple #[.agg (emV E A1 E.ats.length c1 B1 E.kids.length d1), .int .i64 (k : Int), .bool o.isSome]) ∧ EmF w' (fun b => S b ∨ w.heap.size ≤ b) E A1 c1 B1 d1 ∧ k ≤ n ∧ (∀ E' k', o = some (E', k') → E' = E ∧ k' = k ∧ 1 ≤ k) ∧ Below w.heap.size w w'
def elP (f : Nat) : Prop := ∀ (l : List Xtk) (A : Option Addr) (n c : Nat) (w : World) (S : Nat → Prop), XtA w S A n l → n ≤ c → c ≤ 9223372036854775807 → TkSm l →
  Calls Try.prog 29 #[.slice A n c, .int .i64 (33 - (f : Int))] w (RetEe w S n (elemD f l))
/-- what holds at each round -/
structure ElF (w wr : World) (S : Nat → Prop) (nm : List UInt8) (ats : List Xat) (At : Option Addr) (ct : Nat) (tx : List UInt8) (Ak : Option Addr) (n c : Nat) (ks : List Elm) : Prop where
  blk : Blk wr (w.heap.size + 1) 25 #[.string ⟨nm.toArray⟩, .slice At ats.length ct, .string ⟨tx.toArray⟩, .slice Ak n c]
  res : Blk wr w.heap.size 25 #[.string ⟨#[]⟩, .slice none 0 0, .string ⟨#[]⟩, .slice none 0 0]
  row : EmO wr (w.heap.size + 2) (fun b => S b ∨ w.heap.size + 2 ≤ b) Ak n c ks
  bel : Below w.heap.size w wr
theorem ElF.step {w wr w' : World} {S : Nat → Prop} {nm : List UInt8} {ats : List Xat} {At : Option Addr} {ct : Nat} {tx : List UInt8} {Ak : Option Addr} {n c : Nat} {ks : List Elm} (h : ElF w wr S nm ats At ct tx Ak n c ks) (hb : Below wr.heap.size wr w') : ElF w w' S nm ats At ct tx Ak n c ks :=
  ⟨h.blk.below hb h.blk.lt, h.res.below hb h.res.lt, h.row.bel emP hb, bel_step h.bel hb⟩
theorem bel4_zero {w : World} {E : Elm} {S : Nat → Prop} : EmF w S Elm.zero none 0 none 0 := em_zero none none 0 0 (by omega) (by omega)
set_option maxHeartbeats 16000000 in
theorem element9_any : ∀ f, f ≤ 32 → elP f := by
  intro f
  induction f with
  | zero =>
    intro _ l A n c w S hA hn hc hsm
    have B0 := Lib.hid (bel_alloc (Below.refl w.heap.size w) (.cells #[.string ⟨#[]⟩, .slice none 0 0, .string ⟨#[]⟩, .slice none 0 0] 25))
    have hlen := hA.len
    have fin : Hid (∀ w', Below w.heap.size w w' → RetEe w S n (elemD 0 l) (.returned (.tuple #[.agg #[.string ⟨#[]⟩, .slice none 0 0, .string ⟨#[]⟩, .slice none 0 0], .int .i64 0, .bool false])) w') := Lib.hid (fun w' hb => ⟨.zero, none, 0, none, 0, 0, rfl, bel4_zero (E := .zero), Nat.zero_le _, fun E' k' h => by simp [elemD] at h, hb⟩)
    rw [show (33 - ((0 : Nat) : Int)) = 33 by omega]
    cases n with
    | zero =>
      clear hA hlen hsm
      go_enter Try.func29, Try.ntmps29
      go_wp2_with fail
      exact bodyPost_ret (v := .tuple #[.agg #[.string ⟨#[]⟩, .slice none 0 0, .string ⟨#[]⟩, .slice none 0 0], .int .i64 0, .bool false]) (by simp [results, Try.results29, go_sem]) rfl (fin.out _ (by first | exact bel4c B0.out (Nat.le_refl _) _ _ _ _ | exact B0.out))
    | succ n =>
      obtain ⟨t, B, d, b, off, hg, rfl, hS, hbs, hP, k1, k2, k3, k4, k5, HA, f0, f1, f2, f3⟩ := xt_at (hA.bel xtP B0.out) (Nat.zero_lt_succ n)
      simp only [Nat.zero_mul, Nat.add_zero] at f0 f1 f2 f3
      have hn0 : decide (((n + 1 : Nat) : Int) = 0) = false := by simp; omega
      by_cases hk : t.kd = 1
      · have hk1 : decide (t.kd = 1) = true := by simpa using hk
        clear hA hlen hsm hP HA
        go_enter Try.func29, Try.ntmps29
        go_wp2_with fail
        exact bodyPost_ret (v := .tuple #[.agg #[.string ⟨#[]⟩, .slice none 0 0, .string ⟨#[]⟩, .slice none 0 0], .int .i64 0, .bool false]) (by simp [results, Try.results29, go_sem]) rfl (fin.out _ (by first | exact bel4c B0.out (Nat.le_refl _) _ _ _ _ | exact B0.out))
      · have hk1 : decide (t.kd = 1) = false := by simpa using hk
        clear hA hlen hsm hP HA
        go_enter Try.func29, Try.ntmps29
        go_wp2_with fail
        exact bodyPost_ret (v := .tuple #[.agg #[.string ⟨#[]⟩, .slice none 0 0, .string ⟨#[]⟩, .slice none 0 0], .int .i64 0, .bool false]) (by simp [results, Try.results29, go_sem]) rfl (fin.out _ (by first | exact bel4c B0.out (Nat.le_refl _) _ _ _ _ | exact B0.out))
  | succ f ih =>
    intro hf l A n c w S hA hn hc hsm
    have hlen := hA.len
    have IH := Lib.hid (ih (by omega))
    have HSM := Lib.hid hsm
    have hl1 := hsm.1
    have B0 := Lib.hid (bel_alloc (Below.refl w.heap.size w) (.cells #[.string ⟨#[]⟩, .slice none 0 0, .string ⟨#[]⟩, .slice none 0 0] 25))
    have K0 := Lib.hid (Blk.new w 25 #[.string ⟨#[]⟩, .slice none 0 0, .string ⟨#[]⟩, .slice none 0 0])
    have hA1 := hA.wide xtP (S' := fun b => S b ∧ b < w.heap.size) (fun b h k => ⟨h, k⟩)
    have HA := Lib.hid hA1
    have dep : (33 : Int) - ((f + 1 : Nat) : Int) = 32 - (f : Int) := by omega
    have dep2 : decide ((32 : Int) < 32 - (f : Int)) = false := by simp; omega
    have w1 : IntKind.i64.wrap (32 - (f : Int) + 1) = 33 - (f : Int) := by rw [show (32 - (f : Int) + 1) = 33 - (f : Int) by omega]; exact IntWalk.i64_in _ (by omega)
    rw [dep]
    clear hA hA1 ih hsm dep
    obtain ⟨tot, htot⟩ : ∃ tot, tot = elemD (f + 1) l := ⟨_, rfl⟩
    have HT := Lib.hid htot
    have FAIL : Hid (∀ w', tot = none → Below w.heap.size w w' → RetEe w S n tot (.returned (.tuple #[.agg #[.string ⟨#[]⟩, .slice none 0 0, .string ⟨#[]⟩, .slice none 0 0], .int .i64 0, .bool false])) w') := Lib.hid (fun w' ht hb => by
      rw [ht]
      exact ⟨.zero, none, 0, none, 0, 0, rfl, bel4_zero (E := .zero), Nat.zero_le _, fun E' k' h => (by cases h), hb⟩)
    rw [← htot]
    clear htot
    cases n with
    | zero =>
      have HTN : Hid (tot = none) := Lib.hid (by
        rw [HT.out]
        have : l = [] := List.eq_nil_of_length_eq_zero hlen
        subst this
        rfl)
      clear hlen HT
      go_enter Try.func29, Try.ntmps29
      go_wp2_with fail
      exact bodyPost_ret (v := .tuple #[.agg #[.string ⟨#[]⟩, .slice none 0 0, .string ⟨#[]⟩, .slice none 0 0], .int .i64 0, .bool false]) (by simp [results, Try.results29, go_sem]) rfl (FAIL.out _ HTN.out (by first | exact bel4c B0.out (Nat.le_refl _) _ _ _ _ | exact B0.out))
    | succ n =>
      obtain ⟨t, B, d, b, off, hg, rfl, hS, hbs, hP, k1, k2, k3, k4, k5, HAt, f0, f1, f2, f3⟩ := xt_at (HA.out.bel xtP B0.out) (Nat.zero_lt_succ n)
      have hlb : b < w.heap.size := hS.2
      simp only [Nat.zero_mul, Nat.add_zero] at f0 f1 f2 f3
      have hn0 : decide (((n + 1 : Nat) : Int) = 0) = false := by simp; omega
      have htok := HSM.out.2 t (List.mem_of_getElem? hg.out)
      by_cases hk : t.kd = 1
      · have hk1 : decide (t.kd = 1) = true := by simpa using hk
        have hk2 : (t.kd != 1) = false := by simpa using hk
        obtain ⟨kd, nm, ats, tx⟩ := t
        simp only at hk f0 f1 f2 f3 k1 k2 k3 k4 k5 HAt htok
        subst hk
        have HTG : Hid (tot = elGo (elemD f) l nm ats (l.length + 1) [] [] 1) := Lib.hid (by
          rw [HT.out]
          simp only [elemD, hg.out, if_true])
        have hk3 := Blk.new (w.alloc (.cells #[.string ⟨#[]⟩, .slice none 0 0, .string ⟨#[]⟩, .slice none 0 0] 25)) 25 #[.string ⟨nm.toArray⟩, .slice B ats.length d, .string ⟨#[]⟩, .slice none 0 0]
        rw [show (w.alloc (.cells #[.string ⟨#[]⟩, .slice none 0 0, .string ⟨#[]⟩, .slice none 0 0] 25)).heap.size = w.heap.size + 1 by simp] at hk3
        have H0 : Hid (ElF w (((w.alloc (.cells #[.string ⟨#[]⟩, .slice none 0 0, .string ⟨#[]⟩, .slice none 0 0] 25)).alloc (.cells #[.string ⟨nm.toArray⟩, .slice B ats.length d, .string ⟨#[]⟩, .slice none 0 0] 25)).drew) (fun b => S b ∧ b < w.heap.size) nm ats B d [] none 0 0 []) := Lib.hid
          ⟨hk3.drew, (K0.out.alloc _).drew, RwO.nil, (bel_alloc B0.out _).drew⟩
        have HATS : Hid (XaA (w.alloc (.cells #[.string ⟨#[]⟩, .slice none 0 0, .string ⟨#[]⟩, .slice none 0 0] 25)) (fun b => S b ∧ b < w.heap.size) B ats.length ats) := HAt
        have HTOK := Lib.hid htok
        clear hk3 hP HAt HT htok
        go_enter Try.func29, Try.ntmps29
        go_wp2_with fail
        go_region
        go_wp2_with fail
        go_loopw [8] (fun i wr => ∃ (k g : Nat) (tx : List UInt8) (Ak : Option Addr) (m ck : Nat) (ks : List Elm), i = .int .i64 k ∧ 1 ≤ k ∧ k ≤ n + 1 ∧ l.length + 1 ≤ g + k ∧ tx.length ≤ 1000 * k ∧ m ≤ k ∧ Hid (tot = elGo (elemD f) l nm ats g tx ks k) ∧ Hid (ElF w wr (fun b => S b ∧ b < w.heap.size) nm ats B d tx Ak m ck ks)) (fun i _ => n + 1 - (intOf i).toNat)
        case atStart => exact ⟨1, l.length + 1, [], none, 0, 0, [], rfl, by omega, by omega, by omega, by simp, by omega, HTG, H0⟩
        case round =>
          obtain ⟨k, g, tx, Ak, m, ck, ks, rfl, hk1', hkn, hgk, htx, hmk, HG, HE⟩ := hrel
          by_cases hlt : k < n + 1
          · obtain ⟨g, rfl⟩ : ∃ g', g = g' + 1 := ⟨g - 1, by omega⟩
            obtain ⟨u, Bu, du, b', off', hgu, hbb, hS', hbs', hPu, u1, u2, u3, u4, u5, HAu, e0, e1, e2, e3⟩ := xt_at (HA.out.bel xtP HE.out.bel) hlt
            injection hbb with hbb
            injection hbb with hbb1 hbb2
            subst hbb1 hbb2
            have hlt' : decide (k < n + 1) = true := by simpa using hlt
            have hki : (k : Int) < ((n + 1 : Nat) : Int) := by omega
            have hut := HSM.out.2 u (List.mem_of_getElem? hgu.out)
            obtain ⟨ukd, unm, uat, utx⟩ := u
            simp only at u1 u2 u3 u4 u5 HAu e0 e1 e2 e3 hut
            have HGE : Hid (tot = if ukd = 3 then elGo (elemD f) l nm ats g (tx ++ utx) ks (k + 1) else if ukd = 1 then (match elemD f (l.drop k) with
                | none => none
                | some (q, j) => elGo (elemD f) l nm ats g tx (ks ++ [q]) (k + j)) else if ukd = 2 then (if unm = nm then some (.mk nm ats tx ks, k + 1) else none) else none) := Lib.hid (by
              rw [HG.out]
              simp only [elGo, hgu.out])
            clear HG hPu HAu hS'
            by_cases hk3 : ukd = 3
            · have t3 : decide (ukd = 3) = true := by simpa using hk3
              have HG2 : Hid (tot = elGo (elemD f) l nm ats g (tx ++ utx) ks (k + 1)) := Lib.hid (by rw [HGE.out, if_pos hk3])
              subst hk3
              clear HGE
              have hsum : ¬ 9223372036854775807 < tx.length + utx.length := by omega
              have hcat : (⟨tx.toArray⟩ : ByteArray) ++ ⟨utx.toArray⟩ = ⟨(tx ++ utx).toArray⟩ := by
                apply ByteArray.ext
                simp
              have FIN : Hid (ElF w ((wr.setCell ⟨w.heap.size + 1, 2, none⟩ (.string ((⟨tx.toArray⟩ : ByteArray) ++ ⟨utx.toArray⟩))).drew) (fun b => S b ∧ b < w.heap.size) nm ats B d (tx ++ utx) Ak m ck ks) := Lib.hid (by
                rw [hcat]
                have hg1 : wr.grownBy (wr.setCell ⟨w.heap.size + 1, 2, none⟩ (.string ⟨(tx ++ utx).toArray⟩)) (some (w.heap.size + 1)) := only_setCell (World.grownBy.refl _ _) (.inl rfl) _
                refine ⟨by simpa using (HE.out.blk.set_ 2 (.string ⟨(tx ++ utx).toArray⟩)).drew, (HE.out.res.far (p := ⟨w.heap.size + 1, 2, none⟩) (by show w.heap.size ≠ w.heap.size + 1; omega) _).drew, ?_, (HE.out.bel.setCell (p := ⟨w.heap.size + 1, 2, none⟩) (by show w.heap.size ≤ w.heap.size + 1; omega) _).drew⟩
                have := HE.out.row.grown emP hg1 (fun g hg => by
                  injection hg with hg
                  subst hg
                  refine ⟨fun h => ?_, fun he => ?_⟩
                  · rcases h with h | h
                    · have := h.2; omega
                    · omega
                  · have := (HE.out.row.lt _ he).1
                    omega)
                exact this.bel emP (Below.refl _ _).drew)
              clear hcat
              have xf := HE.out.blk.frozen
              have x2 := HE.out.blk.cell 2
              simp at x2
              go_wp2_with fail
              go_region
              go_wp2_with fail
              go_roundw
              case rel => exact ⟨k + 1, g, tx ++ utx, Ak, m, ck, ks, by go_num, by omega, by omega, by omega, by rw [List.length_append]; omega, by omega, HG2, FIN⟩
              case measure => simp [intOf] <;> omega
            by_cases hk1 : ukd = 1
            · have t3 : decide (ukd = 3) = false := by simpa using hk3
              have t1 : decide (ukd = 1) = true := by simpa using hk1
              have HG2 : Hid (tot = (match elemD f (l.drop k) with
                | none => none
                | some (q, j) => elGo (elemD f) l nm ats g tx (ks ++ [q]) (k + j))) := Lib.hid (by rw [HGE.out, if_neg hk3, if_pos hk1])
              subst hk1
              clear HGE
              have HR := Lib.hid (IH.out (l.drop k) (some ⟨b, off + k * 4, none⟩) (n + 1 - k) (c - k) wr _ (xt_drop (HA.out.bel xtP HE.out.bel) hlt) (by omega) (by omega) (HSM.out.drop k))
              generalize elemD f (l.drop k) = o at *
              go_wp2_with fail
              (with_reducible refine (HR.out).mono ?_)
              rintro _ wq ⟨E, A1, c1, B1, d1, j, rfl, hF, hj, hoj, hbq⟩
              simp only [emV]
              have hbk := bel_alloc hbq (.cells #[.string ⟨E.nm.toArray⟩, .slice A1 E.ats.length c1, .string ⟨E.tx.toArray⟩, .slice B1 E.kids.length d1] 25)
              have HF2 := Lib.hid (em_bel (em_wide (S' := fun b => ((S b ∧ b < w.heap.size) ∨ wr.heap.size ≤ b) ∧ b < wq.heap.size) hF (fun b h k => ⟨h, k⟩)) (bel_alloc (Below.refl wq.heap.size wq) (.cells #[.string ⟨E.nm.toArray⟩, .slice A1 E.ats.length c1, .string ⟨E.tx.toArray⟩, .slice B1 E.kids.length d1] 25)))
              have HE2 := Lib.hid (HE.out.step hbk)
              have hzq := hbq.size
              have HOJ := Lib.hid hoj
              obtain ⟨hca, hcb⟩ := hF.hc
              obtain ⟨hda, hdb⟩ := hF.hd
              cases o with
              | none =>
                have HTN : Hid (tot = none) := Lib.hid HG2.out
                have HBQ := Lib.hid hbk
                clear hF hbq hoj hbk
                simp only [Option.isSome_none]
                have zf := HE2.out.res.frozen
                have z0 := HE2.out.res.cell 0
                have z1 := HE2.out.res.cell 1
                have z2 := HE2.out.res.cell 2
                have z3 := HE2.out.res.cell 3
                simp at z0 z1 z2 z3
                go_wp2_with fail
                have y := set4c HE2.out.res rfl (.string ⟨#[]⟩) (.slice none 0 0) (.string ⟨#[]⟩) (.slice none 0 0)
                have y0 := y.cell 0
                have y1 := y.cell 1
                have y2 := y.cell 2
                have y3 := y.cell 3
                simp at y0 y1 y2 y3
                exact bodyPost_ret (v := .tuple #[.agg #[.string ⟨#[]⟩, .slice none 0 0, .string ⟨#[]⟩, .slice none 0 0], .int .i64 0, .bool false]) (by simp [results, Try.results29, go_sem, y0, y1, y2, y3]) rfl (FAIL.out _ HTN.out (bel4c HE2.out.bel (Nat.le_refl _) _ _ _ _))
              | some qj =>
                obtain ⟨q, j'⟩ := qj
                obtain ⟨hqE, hjj, hj1⟩ := HOJ.out q j' rfl
                have hqE := hqE.symm
                have hjj := hjj.symm
                subst hqE
                subst hjj
                have HG3 : Hid (tot = elGo (elemD f) l nm ats g tx (ks ++ [E]) (k + j)) := HG2
                have hbk2 := bel_alloc hbk (.cells #[.string ⟨E.nm.toArray⟩, .slice A1 E.ats.length c1, .string ⟨E.tx.toArray⟩, .slice B1 E.kids.length d1] 25)
                have HE3 := Lib.hid (HE.out.step hbk2)
                have hcp := HE3.out.row.cap
                have hcp1 := hcp.1
                have hcp2 := hcp.2
                have x3 := HE3.out.blk.cell 3
                have x3b := HE2.out.blk.cell 3
                have x3c := (HE.out.step hbq).blk.cell 3
                simp at x3 x3b x3c
                have ho := HE3.out.row
                have hr : EmR ((wq.alloc (.cells #[.string ⟨E.nm.toArray⟩, .slice A1 E.ats.length c1, .string ⟨E.tx.toArray⟩, .slice B1 E.kids.length d1] 25)).alloc (.cells #[.string ⟨E.nm.toArray⟩, .slice A1 E.ats.length c1, .string ⟨E.tx.toArray⟩, .slice B1 E.kids.length d1] 25)) (fun b => ((S b ∧ b < w.heap.size) ∨ w.heap.size + 2 ≤ b) ∧ some b ≠ (Value.slice Ak m ck).ownBlock) (some ⟨wq.heap.size + 1, 0, none⟩) 1 [E] := by
                  have hb2 := Blk.new (wq.alloc (.cells #[.string ⟨E.nm.toArray⟩, .slice A1 E.ats.length c1, .string ⟨E.tx.toArray⟩, .slice B1 E.kids.length d1] 25)) 25 #[.string ⟨E.nm.toArray⟩, .slice A1 E.ats.length c1, .string ⟨E.tx.toArray⟩, .slice B1 E.kids.length d1]
                  rw [show (wq.alloc (.cells #[.string ⟨E.nm.toArray⟩, .slice A1 E.ats.length c1, .string ⟨E.tx.toArray⟩, .slice B1 E.kids.length d1] 25)).heap.size = wq.heap.size + 1 by simp] at hb2
                  have hrl := HE.out.blk.lt
                  refine RwR.blk1 hb2 (emP.bel (emP.wide (em_make HF2.out) (fun b hb _ => ⟨?_, fun e => ?_⟩)) (bel_alloc (Below.refl _ _) _))
                  · rcases hb.1 with h | h
                    · exact .inl h
                    · exact .inr (by omega)
                  · have hl := HE.out.row.lt b e.symm
                    rcases hb.1 with h | h
                    · have := h.2; omega
                    · omega
                have hba : w.heap.size + 2 ≤ ((wq.alloc (.cells #[.string ⟨E.nm.toArray⟩, .slice A1 E.ats.length c1, .string ⟨E.tx.toArray⟩, .slice B1 E.kids.length d1] 25)).alloc (.cells #[.string ⟨E.nm.toArray⟩, .slice A1 E.ats.length c1, .string ⟨E.tx.toArray⟩, .slice B1 E.kids.length d1] 25)).heap.size := by
                  have hrl := HE.out.blk.lt
                  simp
                  omega
                clear hF hbq hoj hbk hbk2
                simp only [Option.isSome_some]
                go_wp2_with (at_builtin; go_loud (refine wpList_appZ emP iEms rfl rfl rfl ho rfl hr (by omega) (by omega) hba ?_; intro A7 c7 w7 ho7 hb7 hgr7; have HB7 := Lib.hid hb7; have HO7 := Lib.hid ho7; have HD8 : Hid (Blk w7 (w.heap.size + 1) 25 #[.string ⟨nm.toArray⟩, .slice B ats.length d, .string ⟨tx.toArray⟩, .slice Ak m ck]) := Lib.hid (HE3.out.blk.below HB7.out (by omega)); have e9 := HD8.out.cell 3; have ef := HD8.out.frozen; simp at e9; clear ho7 hb7 hgr7))
                go_wp2_with fail
                go_roundw
                case rel =>
                  refine ⟨k + j, g, tx, A7, m + 1, c7, ks ++ [E], by go_num, by omega, by omega, by omega, by omega, by omega, HG3, Lib.hid ?_⟩
                  refine ⟨by simpa using HD8.out.set_ 3 (.slice A7 (m + 1) c7), (HE3.out.res.below HB7.out (by omega)).far (p := ⟨w.heap.size + 1, 3, none⟩) (by show w.heap.size ≠ w.heap.size + 1; omega) _, ?_, ((HE3.out.bel.trans (HB7.out.mono (by omega)))).setCell (p := ⟨w.heap.size + 1, 3, none⟩) (by show w.heap.size ≤ w.heap.size + 1; omega) _⟩
                  refine HO7.out.grown emP (only_setCell (World.grownBy.refl _ _) (.inl rfl) _) (row := some (w.heap.size + 1)) (fun g hg => ?_)
                  injection hg with hg
                  subst hg
                  refine ⟨fun h => ?_, fun he => ?_⟩
                  · rcases h with h | h
                    · have := h.2; omega
                    · omega
                  · have := (HO7.out.lt _ he).1
                    omega
                case measure => simp [intOf] <;> omega
            by_cases hk2 : ukd = 2
            · have t3 : decide (ukd = 3) = false := by simpa using hk3
              have t1 : decide (ukd = 1) = false := by simpa using hk1
              have t2 : decide (ukd = 2) = true := by simpa using hk2
              have HG2 : Hid (tot = if unm = nm then some (.mk nm ats tx ks, k + 1) else none) := Lib.hid (by rw [HGE.out, if_neg hk3, if_neg hk1, if_pos hk2])
              subst hk2
              clear HGE
              cases hnm : (unm == nm) with
              | true =>
                have hnn : unm = nm := by simpa using hnm
                have HG3 : Hid (tot = some (.mk nm ats tx ks, k + 1)) := Lib.hid (by rw [HG2.out, if_pos hnn])
                have hml := HE.out.row.len
                subst hml
                have zf := HE.out.res.frozen
                have z0 := HE.out.res.cell 0
                have z1 := HE.out.res.cell 1
                have z2 := HE.out.res.cell 2
                have z3 := HE.out.res.cell 3
                simp at z0 z1 z2 z3
                have xf := HE.out.blk.frozen
                have x0 := HE.out.blk.cell 0
                have x1 := HE.out.blk.cell 1
                have x2 := HE.out.blk.cell 2
                have x3 := HE.out.blk.cell 3
                simp at x0 x1 x2 x3
                clear HG2
                go_wp2_with fail
                go_region
                go_wp2_with fail
                have y := (set4c HE.out.res rfl (.string ⟨nm.toArray⟩) (.slice B ats.length d) (.string ⟨tx.toArray⟩) (.slice Ak ks.length ck)).drew
                have y0 := y.cell 0
                have y1 := y.cell 1
                have y2 := y.cell 2
                have y3 := y.cell 3
                simp at y0 y1 y2 y3
                exact bodyPost_ret (v := .tuple #[.agg #[.string ⟨nm.toArray⟩, .slice B ats.length d, .string ⟨tx.toArray⟩, .slice Ak ks.length ck], .int .i64 ((k + 1 : Nat) : Int), .bool true]) (by simp [results, Try.results29, go_sem, y0, y1, y2, y3]) rfl
                  (show RetEe w S (n + 1) tot _ _ from by
                    rw [HG3.out]
                    refine ⟨.mk nm ats tx ks, B, d, Ak, ck, k + 1, rfl, ?_, by omega, fun E' k' h => by injection h with h; injection h with h1 h2; exact ⟨h1.symm, h2.symm, by omega⟩, (bel4c HE.out.bel (Nat.le_refl _) _ _ _ _).drew⟩
                    have hks := HE.out.row.qs emP (S' := fun b => S b ∧ b < w.heap.size ∨ w.heap.size + 2 ≤ b) (fun b h _ => h) (fun b h _ => .inr h)
                    have hats := HATS.out.keep xaP (w' := wr) (S' := fun b => S b ∧ b < w.heap.size ∨ w.heap.size + 2 ≤ b) (fun b hb hlt => (HE.out.bel.block b hb.2).trans (B0.out.block b hb.2).symm) (by have := HE.out.blk.lt; simp; omega) (fun b h _ => .inl h)
                    have hcp := HE.out.row.cap
                    have hE : EmF wr (fun b => S b ∧ b < w.heap.size ∨ w.heap.size + 2 ≤ b) (.mk nm ats tx ks) B d Ak ck :=
                      ⟨by show nm.length ≤ _; have := HTOK.out.1; omega, by show tx.length ≤ _; omega, ⟨k4, k5⟩, hcp, ⟨by show ats.length ≤ _; have := HTOK.out.2.2.1; omega, by show ks.length ≤ _; omega⟩, fun a ha => by have := HTOK.out.2.2.2 a ha; omega, hats, hks⟩
                    refine em_bel (em_keep (fun b hb hlt => ?_) (by simp [World.setCell]) (fun b hb _ => ?_) hE) (Below.refl _ _).drew
                    · have hbn : b ≠ w.heap.size := by rcases hb with h | h <;> omega
                      simp [World.setCell, Array.getElem?_modify, Ne.symm hbn]
                    · rcases hb with h | h
                      · exact .inl h.1
                      · exact .inr (by omega))
              | false =>
                have hnn : ¬ unm = nm := by simpa using hnm
                have HTN : Hid (tot = none) := Lib.hid (by rw [HG2.out, if_neg hnn])
                have hml := HE.out.row.len
                have hcp := HE.out.row.cap
                subst hml
                have zf := HE.out.res.frozen
                have z0 := HE.out.res.cell 0
                have z1 := HE.out.res.cell 1
                have z2 := HE.out.res.cell 2
                have z3 := HE.out.res.cell 3
                simp at z0 z1 z2 z3
                have xf := HE.out.blk.frozen
                have x0 := HE.out.blk.cell 0
                have x1 := HE.out.blk.cell 1
                have x2 := HE.out.blk.cell 2
                have x3 := HE.out.blk.cell 3
                simp at x0 x1 x2 x3
                clear HG2
                go_wp2_with fail
                go_region
                go_wp2_with fail
                have y := (set4c HE.out.res rfl (.string ⟨nm.toArray⟩) (.slice B ats.length d) (.string ⟨tx.toArray⟩) (.slice Ak ks.length ck)).drew
                have y0 := y.cell 0
                have y1 := y.cell 1
                have y2 := y.cell 2
                have y3 := y.cell 3
                simp at y0 y1 y2 y3
                exact bodyPost_ret (v := .tuple #[.agg #[.string ⟨nm.toArray⟩, .slice B ats.length d, .string ⟨tx.toArray⟩, .slice Ak ks.length ck], .int .i64 ((k + 1 : Nat) : Int), .bool false]) (by simp [results, Try.results29, go_sem, y0, y1, y2, y3]) rfl
                  (show RetEe w S (n + 1) tot _ _ from by
                    rw [HTN.out]
                    refine ⟨.mk nm ats tx ks, B, d, Ak, ck, k + 1, rfl, ?_, by omega, fun E' k' h => (by cases h), (bel4c HE.out.bel (Nat.le_refl _) _ _ _ _).drew⟩
                    have hks := HE.out.row.qs emP (S' := fun b => S b ∧ b < w.heap.size ∨ w.heap.size + 2 ≤ b) (fun b h _ => h) (fun b h _ => .inr h)
                    have hats := HATS.out.keep xaP (w' := wr) (S' := fun b => S b ∧ b < w.heap.size ∨ w.heap.size + 2 ≤ b) (fun b hb hlt => (HE.out.bel.block b hb.2).trans (B0.out.block b hb.2).symm) (by have := HE.out.blk.lt; simp; omega) (fun b h _ => .inl h)
                    have hE : EmF wr (fun b => S b ∧ b < w.heap.size ∨ w.heap.size + 2 ≤ b) (.mk nm ats tx ks) B d Ak ck :=
                      ⟨by show nm.length ≤ _; have := HTOK.out.1; omega, by show tx.length ≤ _; omega, ⟨k4, k5⟩, hcp, ⟨by show ats.length ≤ _; have := HTOK.out.2.2.1; omega, by show ks.length ≤ _; omega⟩, fun a ha => by have := HTOK.out.2.2.2 a ha; omega, hats, hks⟩
                    refine em_bel (em_keep (fun b hb hlt => ?_) (by simp [World.setCell]) (fun b hb _ => ?_) hE) (Below.refl _ _).drew
                    · have hbn : b ≠ w.heap.size := by rcases hb with h | h <;> omega
                      simp [World.setCell, Array.getElem?_modify, Ne.symm hbn]
                    · rcases hb with h | h
                      · exact .inl h.1
                      · exact .inr (by omega))
            · have t3 : decide (ukd = 3) = false := by simpa using hk3
              have t1 : decide (ukd = 1) = false := by simpa using hk1
              have t2 : decide (ukd = 2) = false := by simpa using hk2
              have HTN : Hid (tot = none) := Lib.hid (by rw [HGE.out, if_neg hk3, if_neg hk1, if_neg hk2])
              clear HGE
              have zf := HE.out.res.frozen
              have z0 := HE.out.res.cell 0
              have z1 := HE.out.res.cell 1
              have z2 := HE.out.res.cell 2
              have z3 := HE.out.res.cell 3
              simp at z0 z1 z2 z3
              go_wp2_with fail
              have y := set4c HE.out.res rfl (.string ⟨#[]⟩) (.slice none 0 0) (.string ⟨#[]⟩) (.slice none 0 0)
              have y0 := y.cell 0
              have y1 := y.cell 1
              have y2 := y.cell 2
              have y3 := y.cell 3
              simp at y0 y1 y2 y3
              exact bodyPost_ret (v := .tuple #[.agg #[.string ⟨#[]⟩, .slice none 0 0, .string ⟨#[]⟩, .slice none 0 0], .int .i64 0, .bool false]) (by simp [results, Try.results29, go_sem, y0, y1, y2, y3]) rfl (FAIL.out _ HTN.out (bel4c HE.out.bel (Nat.le_refl _) _ _ _ _))
          · obtain rfl : k = n + 1 := by omega
            obtain ⟨g, rfl⟩ : ∃ g', g = g' + 1 := ⟨g - 1, by omega⟩
            have hlt' : decide (n + 1 < n + 1) = false := by simp
            have HTN : Hid (tot = none) := Lib.hid (by
              rw [HG.out]
              have : l[n + 1]? = none := List.getElem?_eq_none (by omega)
              simp only [elGo, this])
            clear HG
            have zf := HE.out.res.frozen
            have z0 := HE.out.res.cell 0
            have z1 := HE.out.res.cell 1
            have z2 := HE.out.res.cell 2
            have z3 := HE.out.res.cell 3
            simp at z0 z1 z2 z3
            go_wp2_with fail
            have y := set4c HE.out.res rfl (.string ⟨#[]⟩) (.slice none 0 0) (.string ⟨#[]⟩) (.slice none 0 0)
            have y0 := y.cell 0
            have y1 := y.cell 1
            have y2 := y.cell 2
            have y3 := y.cell 3
            simp at y0 y1 y2 y3
            exact bodyPost_ret (v := .tuple #[.agg #[.string ⟨#[]⟩, .slice none 0 0, .string ⟨#[]⟩, .slice none 0 0], .int .i64 0, .bool false]) (by simp [results, Try.results29, go_sem, y0, y1, y2, y3]) rfl (FAIL.out _ HTN.out (bel4c HE.out.bel (Nat.le_refl _) _ _ _ _))
      · have hk1 : decide (t.kd = 1) = false := by simpa using hk
        have hk2 : (t.kd != 1) = true := by simpa using hk
        have HTN : Hid (tot = none) := Lib.hid (by
          rw [HT.out]
          simp only [elemD, hg.out, if_neg hk])
        clear hlen HT hP HAt
        go_enter Try.func29, Try.ntmps29
        go_wp2_with fail
        exact bodyPost_ret (v := .tuple #[.agg #[.string ⟨#[]⟩, .slice none 0 0, .string ⟨#[]⟩, .slice none 0 0], .int .i64 0, .bool false]) (by simp [results, Try.results29, go_sem]) rfl (FAIL.out _ HTN.out (by first | exact bel4c B0.out (Nat.le_refl _) _ _ _ _ | exact B0.out))
end Go.Proofs.Ytjmmgekildlckaa
