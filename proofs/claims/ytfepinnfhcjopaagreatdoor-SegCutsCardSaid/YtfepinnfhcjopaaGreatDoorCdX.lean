/-
  The plain law of events' bytes.
  code.Put, the reference's Put: an event's bytes.
-/
import Derived.Test.YtfepinnfhcjopaaGreatDoorEvK
import Derived.Test.YtfepinnfhcjopaaGreatDoorRdr
section
namespace Go.Proofs.YtfepinnfhcjopaaGreatDoor
open Go.RowKit Go.Nst
set_option maxRecDepth 100000
set_option linter.unusedVariables false
set_option linter.unusedSimpArgs false

def bitB (m i : Nat) : Bool := m / 2 ^ i % 2 == 1
def selN (m i : Nat) (x : Int) : List UInt8 := if bitB m i then putL (zig x) else []
def selT (m i : Nat) (x : List UInt8) : List UInt8 := if bitB m i then textL x else []
def numsL (m : Nat) (a b n : Int) : Nat → List UInt8
  | 0 => []
  | 1 => selN m 0 a
  | 2 => selN m 0 a ++ selN m 1 b
  | _ => selN m 0 a ++ selN m 1 b ++ selN m 2 n
def textsL (m : Nat) (s t u : List UInt8) : Nat → List UInt8
  | 0 => []
  | 1 => selT m 0 s
  | 2 => selT m 0 s ++ selT m 1 t
  | _ => selT m 0 s ++ selT m 1 t ++ selT m 2 u
def codeT (e : Ev) : List UInt8 := numsL (usesN e.k) e.a e.b e.n 3 ++ textsL (usesT e.k) e.s e.t e.u 3
def codeL (e : Ev) : List UInt8 := [3, UInt8.ofNat e.k.toNat] ++ codeT e
def Ev.ok (e : Ev) : Bool := evOK e.k e.a e.b e.n e.s e.t e.u

def rdN (m i : Nat) (s : RS) : Int × RS := if bitB m i then s.num else (0, s)
def rdT (m i : Nat) (s : RS) : List UInt8 × RS := if bitB m i then s.text else ([], s)
def stN (m : Nat) (s : RS) : Nat → RS
  | 0 => s
  | 1 => (rdN m 0 s).2
  | 2 => (rdN m 1 (rdN m 0 s).2).2
  | _ => (rdN m 2 (rdN m 1 (rdN m 0 s).2).2).2
def vaN (m : Nat) (s : RS) (i : Nat) : Int := (rdN m i (stN m s i)).1
def stT (m : Nat) (s : RS) : Nat → RS
  | 0 => s
  | 1 => (rdT m 0 s).2
  | 2 => (rdT m 1 (rdT m 0 s).2).2
  | _ => (rdT m 2 (rdT m 1 (rdT m 0 s).2).2).2
def vaT (m : Nat) (s : RS) (i : Nat) : List UInt8 := (rdT m i (stT m s i)).1
/-- an event without its format's byte is read -/
def rdEv (s : RS) : Ev × RS :=
  (⟨(s.byte.1 : Int), vaN (usesN (s.byte.1 : Int)) s.byte.2 0, vaN (usesN (s.byte.1 : Int)) s.byte.2 1, vaN (usesN (s.byte.1 : Int)) s.byte.2 2,
    vaT (usesT (s.byte.1 : Int)) (stN (usesN (s.byte.1 : Int)) s.byte.2 3) 0, vaT (usesT (s.byte.1 : Int)) (stN (usesN (s.byte.1 : Int)) s.byte.2 3) 1, vaT (usesT (s.byte.1 : Int)) (stN (usesN (s.byte.1 : Int)) s.byte.2 3) 2⟩,
   stT (usesT (s.byte.1 : Int)) (stN (usesN (s.byte.1 : Int)) s.byte.2 3) 3)
def getE (l : List UInt8) : Option Ev :=
  if (RS.byte ⟨l, false⟩).1 = 3 then
    if (rdEv (RS.byte ⟨l, false⟩).2).2.bad = false ∧ (rdEv (RS.byte ⟨l, false⟩).2).2.l = [] ∧ (rdEv (RS.byte ⟨l, false⟩).2).1.ok = true then some (rdEv (RS.byte ⟨l, false⟩).2).1 else none
  else none

/-! ### reading what was put -/
theorem num_put {x : Int} (h : mayB x = true) (r : List UInt8) : RS.num ⟨putL (zig x) ++ r, false⟩ = (x, ⟨r, false⟩) := by
  unfold RS.num
  rw [if_neg (by simp)]
  simp only [get_put h]
  rw [List.drop_left]
theorem byte_put (u : UInt8) (r : List UInt8) : RS.byte ⟨u :: r, false⟩ = (u.toNat, ⟨r, false⟩) := by
  unfold RS.byte RS.take
  rw [if_neg (by simp; omega)]
  simp
theorem rdN_sel {m i : Nat} {x : Int} (h : mayB x = true) (h0 : bitB m i = false → x = 0) (r : List UInt8) : rdN m i ⟨selN m i x ++ r, false⟩ = (x, ⟨r, false⟩) := by
  unfold rdN selN
  cases hb : bitB m i with
  | true => simp only [if_true]; exact num_put h r
  | false => simp [h0 hb]
theorem rdT_sel {m i : Nat} {x : List UInt8} (h : x.length ≤ 65536) (h0 : bitB m i = false → x = []) (r : List UInt8) : rdT m i ⟨selT m i x ++ r, false⟩ = (x, ⟨r, false⟩) := by
  unfold rdT selT
  cases hb : bitB m i with
  | true => simp only [if_true]; exact text_read x r h
  | false => simp [h0 hb]
theorem idB_may {n : Int} (h : idB n = true) : mayB n = true := by
  unfold idB at h; rw [mayB_iff]; simp at h; omega
theorem folderB_may {n : Int} (h : folderB n = true) : mayB n = true := by
  unfold folderB idB at h; rw [mayB_iff]; simp at h; omega
theorem flagB_may {n : Int} (h : flagB n = true) : mayB n = true := by
  unfold flagB at h; rw [mayB_iff]; simp at h; omega
theorem mayM_may {n : Int} (h : mayM n = true) : mayB n = true := by
  unfold mayM at h; rw [mayB_iff]; simp at h; omega
theorem mayB_zero : mayB 0 = true := by decide
theorem textB_len {l : List UInt8} {m : Int} (h : textB l m = true) : (l.length : Int) ≤ m := by
  unfold textB at h; simp at h; omega
theorem labelB_len {l : List UInt8} (h : labelB l = true) : l.length ≤ 512 := by
  unfold labelB at h; rw [Bool.and_eq_true] at h; have := textB_len h.2; omega
theorem tagB_len {l : List UInt8} (h : tagB l = true) : l.length ≤ 512 := by
  unfold tagB at h; rw [Bool.and_eq_true] at h; exact labelB_len h.1
theorem titleB_len {l : List UInt8} (h : titleB l = true) : l.length ≤ 512 := by
  have := textB_len h; omega
theorem linkB_len {l : List UInt8} (h : linkB l = true) : l.length ≤ 512 := by
  have := textB_len h; omega
theorem placeB_len {l : List UInt8} (h : placeB l = true) : l.length ≤ 512 := by
  unfold placeB at h; rw [Bool.and_eq_true] at h; exact linkB_len h.2
theorem queryB_len {l : List UInt8} (h : queryB l = true) : l.length ≤ 512 := by
  unfold queryB at h; rw [Bool.and_eq_true] at h; have := textB_len h.2; omega
theorem nil_len : ([] : List UInt8).length ≤ 512 := by simp
structure EvF (e : Ev) : Prop where
  ka : 1 ≤ e.k
  kz : e.k ≤ 13
  a : mayB e.a = true
  b : mayB e.b = true
  n : mayB e.n = true
  s : e.s.length ≤ 512
  t : e.t.length ≤ 512
  u : e.u.length ≤ 512
  a0 : bitB (usesN e.k) 0 = false → e.a = 0
  b0 : bitB (usesN e.k) 1 = false → e.b = 0
  n0 : bitB (usesN e.k) 2 = false → e.n = 0
  s0 : bitB (usesT e.k) 0 = false → e.s = []
  t0 : bitB (usesT e.k) 1 = false → e.t = []
  u0 : bitB (usesT e.k) 2 = false → e.u = []
theorem sameB_parts {a b n : Int} {s t u : List UInt8} {a' b' n' : Int} {s' t' u' : List UInt8} (h : sameB a b n s t u a' b' n' s' t' u' = true) : a' = a ∧ b' = b ∧ n' = n ∧ s' = s ∧ t' = t ∧ u' = u := by
  unfold sameB at h
  simpa using h
theorem evF {e : Ev} (h : e.ok = true) : EvF e := by
  obtain ⟨k, a, b, n, s, t, u⟩ := e
  have hk := evOK_kind (show evOK k a b n s t u = true from h)
  unfold Ev.ok evOK at h
  simp only at h
  rw [Bool.and_eq_true] at h
  obtain ⟨hr, hsm⟩ := h
  obtain ⟨ea, eb, en, es, et, eu⟩ := sameB_parts hsm
  clear hsm
  rcases kind_cases k hk with rfl | rfl | rfl | rfl | rfl | rfl | rfl | rfl | rfl | rfl | rfl | rfl | rfl
  · rw [rightB_1] at hr
    simp only [Bool.and_eq_true] at hr
    exact ⟨hk.1, hk.2, idB_may hr.1, folderB_may hr.2.1, en ▸ mayB_zero, labelB_len hr.2.2, et ▸ nil_len, eu ▸ nil_len, (fun h => by simp [bitB, usesN, usesT] at h), (fun h => by simp [bitB, usesN, usesT] at h), fun _ => en.symm, (fun h => by simp [bitB, usesN, usesT] at h), fun _ => et.symm, fun _ => eu.symm⟩
  · rw [rightB_2] at hr
    exact ⟨hk.1, hk.2, idB_may hr, eb ▸ mayB_zero, en ▸ mayB_zero, es ▸ nil_len, et ▸ nil_len, eu ▸ nil_len, (fun h => by simp [bitB, usesN, usesT] at h), fun _ => eb.symm, fun _ => en.symm, fun _ => es.symm, fun _ => et.symm, fun _ => eu.symm⟩
  · rw [rightB_3] at hr
    simp only [Bool.and_eq_true] at hr
    exact ⟨hk.1, hk.2, idB_may hr.1, folderB_may hr.2.1, en ▸ mayB_zero, placeB_len hr.2.2.1, titleB_len hr.2.2.2, eu ▸ nil_len, (fun h => by simp [bitB, usesN, usesT] at h), (fun h => by simp [bitB, usesN, usesT] at h), fun _ => en.symm, (fun h => by simp [bitB, usesN, usesT] at h), (fun h => by simp [bitB, usesN, usesT] at h), fun _ => eu.symm⟩
  · rw [rightB_4] at hr
    exact ⟨hk.1, hk.2, idB_may hr, eb ▸ mayB_zero, en ▸ mayB_zero, es ▸ nil_len, et ▸ nil_len, eu ▸ nil_len, (fun h => by simp [bitB, usesN, usesT] at h), fun _ => eb.symm, fun _ => en.symm, fun _ => es.symm, fun _ => et.symm, fun _ => eu.symm⟩
  · rw [rightB_5] at hr
    simp only [Bool.and_eq_true] at hr
    exact ⟨hk.1, hk.2, idB_may hr.1, eb ▸ mayB_zero, en ▸ mayB_zero, es ▸ nil_len, titleB_len hr.2, eu ▸ nil_len, (fun h => by simp [bitB, usesN, usesT] at h), fun _ => eb.symm, fun _ => en.symm, fun _ => es.symm, (fun h => by simp [bitB, usesN, usesT] at h), fun _ => eu.symm⟩
  · rw [rightB_6] at hr
    simp only [Bool.and_eq_true] at hr
    exact ⟨hk.1, hk.2, idB_may hr.1, folderB_may hr.2, en ▸ mayB_zero, es ▸ nil_len, et ▸ nil_len, eu ▸ nil_len, (fun h => by simp [bitB, usesN, usesT] at h), (fun h => by simp [bitB, usesN, usesT] at h), fun _ => en.symm, fun _ => es.symm, fun _ => et.symm, fun _ => eu.symm⟩
  · rw [rightB_7] at hr
    simp only [Bool.and_eq_true] at hr
    exact ⟨hk.1, hk.2, idB_may hr.1, idB_may hr.2.1, mayM_may hr.2.2.1, placeB_len hr.2.2.2.1, titleB_len hr.2.2.2.2.1, linkB_len hr.2.2.2.2.2, (fun h => by simp [bitB, usesN, usesT] at h), (fun h => by simp [bitB, usesN, usesT] at h), (fun h => by simp [bitB, usesN, usesT] at h), (fun h => by simp [bitB, usesN, usesT] at h), (fun h => by simp [bitB, usesN, usesT] at h), (fun h => by simp [bitB, usesN, usesT] at h)⟩
  · rw [rightB_8] at hr
    simp only [Bool.and_eq_true] at hr
    exact ⟨hk.1, hk.2, idB_may hr.1, eb ▸ mayB_zero, flagB_may hr.2, es ▸ nil_len, et ▸ nil_len, eu ▸ nil_len, (fun h => by simp [bitB, usesN, usesT] at h), fun _ => eb.symm, (fun h => by simp [bitB, usesN, usesT] at h), fun _ => es.symm, fun _ => et.symm, fun _ => eu.symm⟩
  · rw [rightB_9] at hr
    simp only [Bool.and_eq_true] at hr
    exact ⟨hk.1, hk.2, idB_may hr.1, eb ▸ mayB_zero, flagB_may hr.2, es ▸ nil_len, et ▸ nil_len, eu ▸ nil_len, (fun h => by simp [bitB, usesN, usesT] at h), fun _ => eb.symm, (fun h => by simp [bitB, usesN, usesT] at h), fun _ => es.symm, fun _ => et.symm, fun _ => eu.symm⟩
  · rw [rightB_10] at hr
    simp only [Bool.and_eq_true] at hr
    exact ⟨hk.1, hk.2, idB_may hr.1, eb ▸ mayB_zero, flagB_may hr.2.1, tagB_len hr.2.2, et ▸ nil_len, eu ▸ nil_len, (fun h => by simp [bitB, usesN, usesT] at h), fun _ => eb.symm, (fun h => by simp [bitB, usesN, usesT] at h), (fun h => by simp [bitB, usesN, usesT] at h), fun _ => et.symm, fun _ => eu.symm⟩
  · rw [rightB_11] at hr
    simp only [Bool.and_eq_true] at hr
    exact ⟨hk.1, hk.2, idB_may hr.1, eb ▸ mayB_zero, en ▸ mayB_zero, labelB_len hr.2.1, queryB_len hr.2.2, eu ▸ nil_len, (fun h => by simp [bitB, usesN, usesT] at h), fun _ => eb.symm, fun _ => en.symm, (fun h => by simp [bitB, usesN, usesT] at h), (fun h => by simp [bitB, usesN, usesT] at h), fun _ => eu.symm⟩
  · rw [rightB_12] at hr
    exact ⟨hk.1, hk.2, idB_may hr, eb ▸ mayB_zero, en ▸ mayB_zero, es ▸ nil_len, et ▸ nil_len, eu ▸ nil_len, (fun h => by simp [bitB, usesN, usesT] at h), fun _ => eb.symm, fun _ => en.symm, fun _ => es.symm, fun _ => et.symm, fun _ => eu.symm⟩
  · rw [rightB_13] at hr
    exact ⟨hk.1, hk.2, ea ▸ mayB_zero, eb ▸ mayB_zero, mayM_may hr, es ▸ nil_len, et ▸ nil_len, eu ▸ nil_len, fun _ => ea.symm, fun _ => eb.symm, (fun h => by simp [bitB, usesN, usesT] at h), fun _ => es.symm, fun _ => et.symm, fun _ => eu.symm⟩

theorem rd_code {e : Ev} (h : e.ok = true) (r : List UInt8) : rdEv ⟨UInt8.ofNat e.k.toNat :: (codeT e ++ r), false⟩ = (e, ⟨r, false⟩) := by
  have f := evF h
  have hk : (((UInt8.ofNat e.k.toNat).toNat : Nat) : Int) = e.k := by
    have h1 := f.ka
    have h2 := f.kz
    rw [u8_of _ (by omega)]
    omega
  unfold rdEv
  rw [byte_put]
  simp only [hk]
  have e0 : rdN (usesN e.k) 0 ⟨codeT e ++ r, false⟩ = (e.a, ⟨selN (usesN e.k) 1 e.b ++ (selN (usesN e.k) 2 e.n ++ (textsL (usesT e.k) e.s e.t e.u 3 ++ r)), false⟩) := by
    rw [show codeT e ++ r = selN (usesN e.k) 0 e.a ++ (selN (usesN e.k) 1 e.b ++ (selN (usesN e.k) 2 e.n ++ (textsL (usesT e.k) e.s e.t e.u 3 ++ r))) by simp [codeT, numsL]]
    exact rdN_sel f.a f.a0 _
  have e1 : rdN (usesN e.k) 1 ⟨selN (usesN e.k) 1 e.b ++ (selN (usesN e.k) 2 e.n ++ (textsL (usesT e.k) e.s e.t e.u 3 ++ r)), false⟩ = _ := rdN_sel f.b f.b0 _
  have e2 : rdN (usesN e.k) 2 ⟨selN (usesN e.k) 2 e.n ++ (textsL (usesT e.k) e.s e.t e.u 3 ++ r), false⟩ = _ := rdN_sel f.n f.n0 _
  have t0 : rdT (usesT e.k) 0 ⟨textsL (usesT e.k) e.s e.t e.u 3 ++ r, false⟩ = (e.s, ⟨selT (usesT e.k) 1 e.t ++ (selT (usesT e.k) 2 e.u ++ r), false⟩) := by
    rw [show textsL (usesT e.k) e.s e.t e.u 3 ++ r = selT (usesT e.k) 0 e.s ++ (selT (usesT e.k) 1 e.t ++ (selT (usesT e.k) 2 e.u ++ r)) by simp [textsL]]
    exact rdT_sel (by have := f.s; omega) f.s0 _
  have t1 : rdT (usesT e.k) 1 ⟨selT (usesT e.k) 1 e.t ++ (selT (usesT e.k) 2 e.u ++ r), false⟩ = _ := rdT_sel (by have := f.t; omega) f.t0 _
  have t2 : rdT (usesT e.k) 2 ⟨selT (usesT e.k) 2 e.u ++ r, false⟩ = _ := rdT_sel (by have := f.u; omega) f.u0 _
  simp only [vaN, stN, vaT, stT, e0, e1, e2, t0, t1, t2]
theorem get_code {e : Ev} (h : e.ok = true) : getE (codeL e) = some e := by
  have h1 : RS.byte ⟨codeL e, false⟩ = (3, ⟨UInt8.ofNat e.k.toNat :: (codeT e ++ []), false⟩) := by
    rw [List.append_nil]
    exact byte_put 3 _
  unfold getE
  rw [h1]
  simp only [if_true]
  rw [rd_code h]
  simp [h]

/-! ### putting what was read -/
theorem num_inv {s s' : RS} {x : Int} (h : s.num = (x, s')) (hb : s'.bad = false) : s.bad = false ∧ s.l = putL (zig x) ++ s'.l := by
  obtain ⟨l, b⟩ := s
  cases b with
  | true => rw [num_bad rfl] at h; injection h with _ h; subst h; cases hb
  | false =>
    refine ⟨rfl, ?_⟩
    unfold RS.num at h
    rw [if_neg (by simp)] at h
    simp only at h
    cases hg : getL l with
    | none => rw [hg] at h; simp only at h; injection h with _ h; subst h; cases hb
    | some p =>
      obtain ⟨n, k⟩ := p
      rw [hg] at h
      simp only at h
      injection h with h1 h2
      subst h1
      subst h2
      simp only
      rw [(put_get hg).1, List.take_append_drop]
theorem text_inv {s s' : RS} {x : List UInt8} (h : s.text = (x, s')) (hb : s'.bad = false) : s.bad = false ∧ s.l = textL x ++ s'.l := by
  unfold RS.text at h
  generalize hn : s.num = q at h
  obtain ⟨n, s1⟩ := q
  simp only at h
  unfold RS.take at h
  by_cases hc : s1.bad = true ∨ (if 65536 < n then (-1 : Int) else n) < 0 ∨ (s1.l.length : Int) < (if 65536 < n then (-1 : Int) else n)
  · rw [if_pos hc] at h
    injection h with _ h
    subst h
    cases hb
  · rw [if_neg hc] at h
    have hn6 : ¬ 65536 < n := fun h6 => hc (.inr (.inl (by rw [if_pos h6]; omega)))
    rw [if_neg hn6] at h hc
    have hs1 : s1.bad = false := by
      cases hq : s1.bad with
      | true => exact absurd (.inl hq) hc
      | false => rfl
    have hn0 : 0 ≤ n := by
      rcases (by omega : n < 0 ∨ 0 ≤ n) with hlt | hge
      · exact absurd (.inr (.inl hlt)) hc
      · exact hge
    have hnl : n ≤ (s1.l.length : Int) := by
      rcases (by omega : (s1.l.length : Int) < n ∨ n ≤ (s1.l.length : Int)) with hlt | hge
      · exact absurd (.inr (.inr hlt)) hc
      · exact hge
    obtain ⟨hb0, hl⟩ := num_inv hn hs1
    injection h with h1 h2
    subst h2
    refine ⟨hb0, ?_⟩
    have hx : (x.length : Int) = n := by rw [← h1, List.length_take]; omega
    simp only
    unfold textL
    rw [hx, hl, ← h1, List.append_assoc, List.take_append_drop]
theorem byte_inv {s s' : RS} {v : Nat} (h : s.byte = (v, s')) (hb : s'.bad = false) : s.bad = false ∧ s.l = UInt8.ofNat v :: s'.l ∧ v < 256 := by
  unfold RS.byte RS.take at h
  obtain ⟨l, b⟩ := s
  by_cases hc : b = true ∨ (1 : Int) < 0 ∨ (l.length : Int) < 1
  · simp only at h
    rw [if_pos hc] at h
    injection h with _ h
    subst h
    cases hb
  · simp only at h
    rw [if_neg hc] at h
    cases b with
    | true => exact absurd (.inl rfl) hc
    | false =>
      cases l with
      | nil => exact absurd (.inr (.inr (by simp))) hc
      | cons u r =>
        injection h with h1 h2
        subst h2
        simp at h1
        refine ⟨rfl, ?_, ?_⟩
        · simp [← h1]
        · rw [← h1]; exact u.toNat_lt
theorem rdN_inv {m i : Nat} {s s' : RS} {x : Int} (h : rdN m i s = (x, s')) (hb : s'.bad = false) : s.bad = false ∧ s.l = selN m i x ++ s'.l := by
  unfold rdN at h
  unfold selN
  cases hm : bitB m i with
  | true => rw [hm] at h; simp only [if_true] at h ⊢; exact num_inv h hb
  | false => rw [hm] at h; simp at h ⊢; obtain ⟨_, rfl⟩ := h; exact ⟨hb, rfl⟩
theorem rdT_inv {m i : Nat} {s s' : RS} {x : List UInt8} (h : rdT m i s = (x, s')) (hb : s'.bad = false) : s.bad = false ∧ s.l = selT m i x ++ s'.l := by
  unfold rdT at h
  unfold selT
  cases hm : bitB m i with
  | true => rw [hm] at h; simp only [if_true] at h ⊢; exact text_inv h hb
  | false => rw [hm] at h; simp at h ⊢; obtain ⟨_, rfl⟩ := h; exact ⟨hb, rfl⟩
theorem rdEv_inv {s s' : RS} {e : Ev} (h : rdEv s = (e, s')) (hb : s'.bad = false) : s.bad = false ∧ s.l = UInt8.ofNat e.k.toNat :: (codeT e ++ s'.l) := by
  unfold rdEv at h
  generalize hby : s.byte = q at h
  obtain ⟨v, s1⟩ := q
  simp only at h
  simp only [vaN, stN, vaT, stT] at h
  generalize h0 : rdN (usesN (v : Int)) 0 s1 = q0 at h
  obtain ⟨x0, s2⟩ := q0
  simp only at h
  generalize h1 : rdN (usesN (v : Int)) 1 s2 = q1 at h
  obtain ⟨x1, s3⟩ := q1
  simp only at h
  generalize h2 : rdN (usesN (v : Int)) 2 s3 = q2 at h
  obtain ⟨x2, s4⟩ := q2
  simp only at h
  generalize h3 : rdT (usesT (v : Int)) 0 s4 = q3 at h
  obtain ⟨x3, s5⟩ := q3
  simp only at h
  generalize h4 : rdT (usesT (v : Int)) 1 s5 = q4 at h
  obtain ⟨x4, s6⟩ := q4
  simp only at h
  generalize h5 : rdT (usesT (v : Int)) 2 s6 = q5 at h
  obtain ⟨x5, s7⟩ := q5
  simp only at h
  injection h with he hs
  subst hs
  subst he
  obtain ⟨b6, l6⟩ := rdT_inv h5 hb
  obtain ⟨b5, l5⟩ := rdT_inv h4 b6
  obtain ⟨b4, l4⟩ := rdT_inv h3 b5
  obtain ⟨b3, l3⟩ := rdN_inv h2 b4
  obtain ⟨b2, l2⟩ := rdN_inv h1 b3
  obtain ⟨b1, l1⟩ := rdN_inv h0 b2
  obtain ⟨b0, l0, _⟩ := byte_inv hby b1
  refine ⟨b0, ?_⟩
  rw [l0, l1, l2, l3, l4, l5, l6]
  simp [codeT, numsL, textsL]
theorem get_inv {l : List UInt8} {e : Ev} (h : getE l = some e) : codeL e = l ∧ e.ok = true := by
  unfold getE at h
  generalize hby : RS.byte ⟨l, false⟩ = q at h
  obtain ⟨v, s1⟩ := q
  simp only at h
  by_cases hv : v = 3
  · rw [if_pos hv] at h
    generalize hr : rdEv s1 = q at h
    obtain ⟨e', s2⟩ := q
    simp only at h
    by_cases hc : s2.bad = false ∧ s2.l = [] ∧ e'.ok = true
    · rw [if_pos hc] at h
      injection h with h
      subst h
      obtain ⟨c1, c2, c3⟩ := hc
      obtain ⟨b1, l1⟩ := rdEv_inv hr c1
      obtain ⟨_, l0, _⟩ := byte_inv hby b1
      refine ⟨?_, c3⟩
      simp only at l0
      rw [l0, l1, c2, hv]
      simp [codeL]
    · rw [if_neg hc] at h; cases h
  · rw [if_neg hv] at h; cases h
theorem get_short {e : Ev} (h : e.ok = true) {n : Nat} (hn : n < (codeL e).length) : getE ((codeL e).take n) = none := by
  cases hg : getE ((codeL e).take n) with
  | none => rfl
  | some e' =>
    exfalso
    obtain ⟨h1, h2⟩ := get_inv hg
    have hsplit : codeL e = codeL e' ++ (codeL e).drop n := by rw [h1, List.take_append_drop]
    have hb : ∀ x : Ev, ∀ r, RS.byte ⟨codeL x ++ r, false⟩ = (3, ⟨UInt8.ofNat x.k.toNat :: (codeT x ++ r), false⟩) := fun x r => byte_put 3 _
    have a1 := hb e []
    rw [List.append_nil, hsplit, hb e'] at a1
    injection a1 with _ a1
    have a2 := rd_code h []
    rw [← a1, rd_code h2] at a2
    injection a2 with _ a2
    injection a2 with a2
    have := congrArg List.length a2
    simp at this
    omega
end Go.Proofs.YtfepinnfhcjopaaGreatDoor
end
section
namespace Go.Proofs.YtfepinnfhcjopaaGreatDoor
open Go.RowKit Go.Nst
set_option maxRecDepth 100000
set_option linter.unusedVariables false
set_option linter.unusedSimpArgs false

theorem arrI_0 (W : World) (x0 x1 x2 : Option Addr) : (Instr.index 109 (.agg #[.pointer x0, .pointer x1, .pointer x2]) (.int .i64 0)).run Tryz.prog W = .ok (.pointer x0) W := by kernel_rfl
theorem arrI_1 (W : World) (x0 x1 x2 : Option Addr) : (Instr.index 109 (.agg #[.pointer x0, .pointer x1, .pointer x2]) (.int .i64 1)).run Tryz.prog W = .ok (.pointer x1) W := by kernel_rfl
theorem arrI_2 (W : World) (x0 x1 x2 : Option Addr) : (Instr.index 109 (.agg #[.pointer x0, .pointer x1, .pointer x2]) (.int .i64 2)).run Tryz.prog W = .ok (.pointer x2) W := by kernel_rfl
theorem arrS_0 (W : World) (x0 x1 x2 : Option Addr) : (Instr.index 111 (.agg #[.pointer x0, .pointer x1, .pointer x2]) (.int .i64 0)).run Tryz.prog W = .ok (.pointer x0) W := by kernel_rfl
theorem arrS_1 (W : World) (x0 x1 x2 : Option Addr) : (Instr.index 111 (.agg #[.pointer x0, .pointer x1, .pointer x2]) (.int .i64 1)).run Tryz.prog W = .ok (.pointer x1) W := by kernel_rfl
theorem arrS_2 (W : World) (x0 x1 x2 : Option Addr) : (Instr.index 111 (.agg #[.pointer x0, .pointer x1, .pointer x2]) (.int .i64 2)).run Tryz.prog W = .ok (.pointer x2) W := by kernel_rfl
theorem bitT_0 {m : Nat} (h : m < 8) : (bits .and .i64 (m : Int) 1 == 1) = bitB m 0 := by
  rcases (by omega : m = 0 ∨ m = 1 ∨ m = 2 ∨ m = 3 ∨ m = 4 ∨ m = 5 ∨ m = 6 ∨ m = 7) with rfl | rfl | rfl | rfl | rfl | rfl | rfl | rfl <;> decide
theorem bitT_1 {m : Nat} (h : m < 8) : (bits .and .i64 ((m : Int) / 2) 1 == 1) = bitB m 1 := by
  rcases (by omega : m = 0 ∨ m = 1 ∨ m = 2 ∨ m = 3 ∨ m = 4 ∨ m = 5 ∨ m = 6 ∨ m = 7) with rfl | rfl | rfl | rfl | rfl | rfl | rfl | rfl <;> decide
theorem bitT_2 {m : Nat} (h : m < 8) : (bits .and .i64 ((m : Int) / 4) 1 == 1) = bitB m 2 := by
  rcases (by omega : m = 0 ∨ m = 1 ∨ m = 2 ∨ m = 3 ∨ m = 4 ∨ m = 5 ∨ m = 6 ∨ m = 7) with rfl | rfl | rfl | rfl | rfl | rfl | rfl | rfl <;> decide
theorem ow_apart {w : World} {base n c g : Nat} {A : Option Addr} {l : List UInt8} {T : TypeId} {cs : Array Value} (h : Ow w base A n c l) (k : Blk w g T cs) (hne : 5 ≠ T) : some g ≠ (Value.slice A n c).ownBlock := by
  intro hk
  rcases h.2 with ⟨e, _⟩ | ⟨g1, _, cur1, hv, _, hh, _⟩
  · rw [e] at hk; simp [Value.ownBlock] at hk
  · rw [hv] at hk
    simp [Value.ownBlock] at hk
    subst hk
    unfold Blk at k
    rw [hh] at k
    injection k with k
    injection k with _ k _
    exact hne k
theorem numsL_0 (m : Nat) (a b n : Int) : numsL m a b n 1 = numsL m a b n 0 ++ selN m 0 a := by simp [numsL]
theorem numsL_1 (m : Nat) (a b n : Int) : numsL m a b n 2 = numsL m a b n 1 ++ selN m 1 b := by simp [numsL]
theorem numsL_2 (m : Nat) (a b n : Int) : numsL m a b n 3 = numsL m a b n 2 ++ selN m 2 n := by simp [numsL]
theorem textsL_0 (m : Nat) (s t u : List UInt8) : textsL m s t u 1 = textsL m s t u 0 ++ selT m 0 s := by simp [textsL]
theorem textsL_1 (m : Nat) (s t u : List UInt8) : textsL m s t u 2 = textsL m s t u 1 ++ selT m 1 t := by simp [textsL]
theorem textsL_2 (m : Nat) (s t u : List UInt8) : textsL m s t u 3 = textsL m s t u 2 ++ selT m 2 u := by simp [textsL]
theorem selN_yes {m i : Nat} (h : bitB m i = true) (x : Int) : selN m i x = putL (zig x) := by unfold selN; rw [h]; rfl
theorem selN_no {m i : Nat} (h : bitB m i = false) (x : Int) : selN m i x = [] := by unfold selN; rw [h]; rfl
theorem selT_yes {m i : Nat} (h : bitB m i = true) (x : List UInt8) : selT m i x = textL x := by unfold selT; rw [h]; rfl
theorem selT_no {m i : Nat} (h : bitB m i = false) (x : List UInt8) : selT m i x = [] := by unfold selT; rw [h]; rfl
theorem textL_len (l : List UInt8) : (textL l).length ≤ l.length + 11 := by unfold textL; rw [List.length_append]; have := (putL_len (zig l.length)).2; omega
end Go.Proofs.YtfepinnfhcjopaaGreatDoor
end
