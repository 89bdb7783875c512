/-
  write, Write.
-/
import Derived.Test.YtnagckdaleafdaaXnB
namespace Go.Proofs.Ytnagckdaleafdaa
open Go.RowKit Go.Nst
set_option maxRecDepth 100000
set_option linter.unusedVariables false
set_option linter.unusedSimpArgs false

def KB (B b : Nat) (w W : World) : Prop := Below B w W ∧ Kept b w W
theorem KB.refl (B b : Nat) (w : World) : KB B b w w := ⟨Below.refl _ _, Lib.OthersKept.refl _ _ _⟩
theorem KB.trans {B b : Nat} (x y z : World) (h : KB B b x y) (k : KB B b y z) : KB B b x z := ⟨Below.trans h.1 k.1, Lib.OthersKept.trans h.2 k.2⟩
theorem KB.bel {B b : Nat} {w W : World} (h : Below w.heap.size w W) (hB : B ≤ w.heap.size) : KB B b w W := ⟨h.mono hB, fun k o hk _ _ => (h.block k (Array.getElem?_eq_some_iff.1 hk).1).trans hk⟩
theorem blk_kb {B b k : Nat} {w W : World} {T : TypeId} {cs : Array Value} (h : Blk w k T cs) (hb : KB B b w W) (hT : T ≠ 5) (hk : k ≠ b) : Blk W k T cs :=
  hb.2 k _ h (fun e => hk (by injection e)) (fun c fz e => by injection e with e1 e2 e3; exact hT e2)
theorem bd_lt {w : World} {B b : Nat} {l : List UInt8} (h : Bd w B b l) : b < w.heap.size := by
  have key : ∀ {p : Value} {bs : List Value}, Lib.BuilderAtF 51 5 B b p bs w → b < w.heap.size := by
    rintro p bs ⟨hB, v, hbk, _⟩
    exact (Array.getElem?_eq_some_iff.1 hbk).1
  exact h.elim (fun x => key x) (fun x => key x)
theorem flat_len {α : Type} {f : α → List UInt8} {K : Nat} : ∀ (l : List α), (∀ a ∈ l, (f a).length ≤ K) → (l.flatMap f).length ≤ K * l.length
  | [], _ => by simp
  | a :: l, h => by
    have h1 := flat_len l (fun x hx => h x (by simp [hx]))
    have h2 := h a (by simp)
    simp only [List.flatMap_cons, List.length_append, List.length_cons, Nat.mul_add, Nat.mul_one]
    omega
theorem ba_cat (a b : List UInt8) : (ByteArray.mk a.toArray) ++ (ByteArray.mk b.toArray) = ⟨(a ++ b).toArray⟩ := by
  apply ByteArray.ext
  simp
theorem wrA_len {a : Xat} {K : Nat} (h1 : a.nm.length ≤ K) (h2 : a.vl.length ≤ K) : (wrA a).length ≤ 7 * K + 4 := by
  unfold wrA
  have := (writeL_len a.vl).2
  simp only [List.length_append, List.length_cons, List.length_nil]
  omega
theorem xa_kb {w W : World} {B b : Nat} {A : Option Addr} {n : Nat} {l : List Xat} (h : XaA w (fun x => x < B) A n l) (hb : KB B b w W) (hB : B ≤ w.heap.size) (hz : w.heap.size ≤ W.heap.size) : XaA W (fun x => x < B) A n l :=
  h.keep xaP (fun x hx hlt => hb.1.block x hx) hz (fun _ h _ => h)
def RetWr (w : World) (B b : Nat) (l : List UInt8) (e : Ending) (w' : World) : Prop := e = .returned (.tuple #[]) ∧ Bd w' B b l ∧ KB B b w w' ∧ w.heap.size ≤ w'.heap.size
section
variable (nm : List UInt8) (ats : List Xat) (tx : List UInt8) (Bt : Option Addr) (d B b : Nat) (acc : List UInt8) (w : World)
set_option maxHeartbeats 4000000 in
theorem write8_2 (hBd : Bd w B b acc) (hB : B ≤ w.heap.size) (hnm : nm.length ≤ 100000) (hacc : acc.length ≤ 1000000000) :
    Calls Try.prog 23 #[.pointer (some ⟨b, 0, none⟩), .agg (xtV ⟨2, nm, ats, tx⟩ Bt ats.length d)] w (fun e w' => e = .returned (.tuple #[]) ∧ Bd w' B b (acc ++ wrT ⟨2, nm, ats, tx⟩) ∧ KB B b w w') := by
  have B0 := bel_alloc (Below.refl w.heap.size w) (.cells (xtV ⟨2, nm, ats, tx⟩ Bt ats.length d) 36)
  have hz := B0.size
  have HC := writeString_k B b acc ([60, 47] ++ nm ++ [62]) _ (bd_below hBd B0) (by simp; omega) (Nat.le_trans hB hz)
  have HK0 := Lib.hid (KB.bel (b := b) B0 hB)
  have hw : wrT ⟨2, nm, ats, tx⟩ = [60, 47] ++ nm ++ [62] := by simp [wrT]
  rw [← ba_cat, ← ba_cat] at HC
  have HC := Lib.hid HC
  rw [hw]
  simp only [xtV] at HC HK0 ⊢
  clear hBd B0 hz hw
  go_enter Try.func23, Try.ntmps23
  go_wp2_with fail
  (with_reducible refine (HC.out).mono ?_)
  rintro e w2 ⟨rfl, hbd, hb2, hk2⟩
  go_wp2_with fail
  go_end0
  exact ⟨rfl, hbd, KB.trans _ _ _ HK0.out ⟨hb2, hk2⟩⟩
set_option maxHeartbeats 4000000 in
theorem write8_3 (k : Int) (h1 : k ≠ 1) (h2 : k ≠ 2) (hBd : Bd w B b acc) (hB : B ≤ w.heap.size) (htx : tx.length ≤ 100000) (hacc : acc.length ≤ 1000000000) :
    Calls Try.prog 23 #[.pointer (some ⟨b, 0, none⟩), .agg (xtV ⟨k, nm, ats, tx⟩ Bt ats.length d)] w (fun e w' => e = .returned (.tuple #[]) ∧ Bd w' B b (acc ++ wrT ⟨k, nm, ats, tx⟩) ∧ KB B b w w') := by
  have B0 := bel_alloc (Below.refl w.heap.size w) (.cells (xtV ⟨k, nm, ats, tx⟩ Bt ats.length d) 36)
  have hz := B0.size
  have hbd0 := bd_below hBd B0
  have hwl := (writeL_len tx).2
  have HW := write7_any ⟨tx.toArray⟩ (w.alloc (.cells (xtV ⟨k, nm, ats, tx⟩ Bt ats.length d) 36)) (by rw [size_of]; omega)
  rw [bl_of] at HW
  have HW := Lib.hid HW
  have HC := Lib.hid (fun (W : World) (h : Bd W B b acc) (hh : B ≤ W.heap.size) => writeString_k B b acc (writeL tx) W h (by omega) hh)
  have HK0 := Lib.hid (And.intro (KB.bel (b := b) B0 hB) (And.intro hbd0 (Nat.le_trans hB hz)))
  have e1 : (k == 1) = false := by simpa using h1
  have e2 : (k == 2) = false := by simpa using h2
  have hw : wrT ⟨k, nm, ats, tx⟩ = writeL tx := by simp [wrT, h1, h2]
  rw [hw]
  simp only [xtV] at HC HK0 HW ⊢
  clear hBd B0 hz hw h1 h2 hbd0
  generalize writeL tx = wl at *
  go_enter Try.func23, Try.ntmps23
  go_wp2_with fail
  (with_reducible refine (HW.out).mono ?_)
  rintro e w1 ⟨rfl, hb1⟩
  have K1 := Lib.hid (KB.trans _ _ _ HK0.out.1 (KB.bel (b := b) hb1 HK0.out.2.2))
  have HCC := Lib.hid (HC.out w1 (bd_below HK0.out.2.1 hb1) (Nat.le_trans HK0.out.2.2 hb1.size))
  clear HC HK0 hb1
  go_wp2_with fail
  (with_reducible refine (HCC.out).mono ?_)
  rintro e w2 ⟨rfl, hbd, hb2, hk2⟩
  go_wp2_with fail
  go_end0
  exact ⟨rfl, hbd, KB.trans _ _ _ K1.out ⟨hb2, hk2⟩⟩
set_option maxHeartbeats 8000000 in
theorem write8_1 (hBd : Bd w B b acc) (hB : B ≤ w.heap.size) (hk : XaA w (fun x => x < B) Bt ats.length ats) (hd : ats.length ≤ d ∧ d ≤ 9223372036854775807) (hnm : nm.length ≤ 100000) (hn : ats.length ≤ 1000) (hs : ∀ a ∈ ats, a.nm.length ≤ 10000 ∧ a.vl.length ≤ 10000) (hacc : acc.length ≤ 1000000000) :
    Calls Try.prog 23 #[.pointer (some ⟨b, 0, none⟩), .agg (xtV ⟨1, nm, ats, tx⟩ Bt ats.length d)] w (fun e w' => e = .returned (.tuple #[]) ∧ Bd w' B b (acc ++ wrT ⟨1, nm, ats, tx⟩) ∧ KB B b w w') := by
  have B0 := bel_alloc (Below.refl w.heap.size w) (.cells (xtV ⟨1, nm, ats, tx⟩ Bt ats.length d) 36)
  have hz := B0.size
  have hblt := bd_lt hBd
  have HC := writeString_k B b acc ([60] ++ nm) _ (bd_below hBd B0) (by simp; omega) (Nat.le_trans hB hz)
  have HK0 := Lib.hid (KB.bel (b := b) B0 hB)
  have HX0 := Lib.hid (hk.keep xaP (w' := w.alloc (.cells (xtV ⟨1, nm, ats, tx⟩ Bt ats.length d) 36)) (S' := fun x => x < B) (fun x hx hlt => B0.block x hlt) hz (fun _ h _ => h))
  have HBX := Lib.hid (Blk.new w 36 (xtV ⟨1, nm, ats, tx⟩ Bt ats.length d))
  have hw : wrT ⟨1, nm, ats, tx⟩ = [60] ++ nm ++ ats.flatMap wrA ++ [62] := by simp [wrT]
  rw [← ba_cat] at HC
  have HC := Lib.hid HC
  rw [hw]
  have HS := Lib.hid hs
  have hzw : w.heap.size ≤ (w.alloc (.cells (xtV ⟨1, nm, ats, tx⟩ Bt ats.length d) 36)).heap.size := hz
  have HBZ := Lib.hid (Nat.le_trans hB hz)
  have hfl : ∀ i, (([60] ++ nm ++ (ats.take i).flatMap wrA) : List UInt8).length ≤ 100001 + 70004 * 1000 := fun i => by
    have h1 := flat_len (f := wrA) (K := 70004) (ats.take i) (fun a ha => by have := hs a (List.mem_of_mem_take ha); exact wrA_len this.1 this.2)
    rw [List.length_take] at h1
    simp only [List.length_append, List.length_cons, List.length_nil]
    have : 70004 * min i ats.length ≤ 70004 * 1000 := Nat.mul_le_mul_left _ (by omega)
    omega
  have HFL := Lib.hid hfl
  simp only [xtV] at HC HK0 HX0 HBX HBZ ⊢
  have hd1 := hd.1
  have hd2 := hd.2
  clear hBd B0 hz hw hk hs hd hzw hfl
  go_enter Try.func23, Try.ntmps23
  go_wp2_with fail
  (with_reducible refine (HC.out).mono ?_)
  rintro e w1 ⟨rfl, hbd1, hb1, hk1⟩
  have K1 : KB B b _ w1 := ⟨hb1, hk1⟩
  have zk := blk_kb HBX.out K1 (by decide) (by omega)
  have z2 := zk.cell 2
  simp at z2
  have KA := Lib.hid (KB.trans _ _ _ HK0.out K1)
  have hz1 : w.heap.size ≤ w1.heap.size := by have := zk.lt; omega
  have HX1 := Lib.hid (HX0.out.keep xaP (w' := w1) (S' := fun x => x < B) (fun x hx hlt => hb1.block x hx) (by have := zk.lt; simp; omega) (fun _ h _ => h))
  have HBD1 := Lib.hid hbd1
  clear hbd1 hb1 hk1 K1 zk HC HK0 HX0 HBX
  go_wp2_with fail
  go_loopw [23] (fun v wr => ∃ i : Nat, v = .int .i64 (i : Int) ∧ i ≤ ats.length ∧ Hid (Bd wr B b (acc ++ ([60] ++ nm ++ (ats.take i).flatMap wrA))) ∧ Hid (KB B b w wr) ∧ w1.heap.size ≤ wr.heap.size ∧ Hid (XaA wr (fun x => x < B) Bt ats.length ats)) (fun v _ => ats.length - (intOf v).toNat)
  case atStart => exact ⟨0, rfl, Nat.zero_le _, Lib.hid (by simpa using HBD1.out), KA, Nat.le_refl _, HX1⟩
  case round =>
    obtain ⟨i, rfl, hi, HBd, HKB, hzr, HX⟩ := hrel
    clear HBD1 KA HX1
    by_cases hlt : i < ats.length
    · obtain ⟨a, bb, off, hg, rfl, hbB, hbs, g1, g2, f0, f1⟩ := xa_at HX.out hlt
      have hlt' : decide (i < ats.length) = true := by simpa using hlt
      have hss := HS.out a (List.mem_of_getElem? hg.out)
      have hs1 := hss.1
      have hs2 := hss.2
      have hwl := (writeL_len a.vl).2
      have HNX : Hid ([60] ++ nm ++ (ats.take (i + 1)).flatMap wrA = ([60] ++ nm ++ (ats.take i).flatMap wrA) ++ wrA a) := Lib.hid (by
        rw [List.take_add_one, hg.out]
        simp)
      have hfi := HFL.out i
      have D1 := bel_alloc (Below.refl wr.heap.size wr) (.cells (xaV a) 39)
      have hblr := bd_lt HBd.out
      have hBr : B ≤ wr.heap.size := by omega
      have HBd2 := Lib.hid (bd_below HBd.out D1.drew)
      have HK2 := Lib.hid (KB.trans _ _ _ HKB.out (KB.bel (b := b) D1.drew hBr))
      have HA2 := Lib.hid ((Blk.new wr 39 (xaV a)).drew)
      have HX2 := Lib.hid (HX.out.keep xaP (S' := fun x => x < B) (fun x hx hlt => D1.drew.block x hlt) D1.drew.size (fun _ h _ => h))
      have HZ2 := Lib.hid D1.drew.size
      have hW : wrA a = [32] ++ a.nm ++ [61, 34] ++ writeL a.vl ++ [34] := rfl
      have HW := Lib.hid (fun W => write7_any ⟨a.vl.toArray⟩ W (by rw [size_of]; omega))
      rw [bl_of] at HW
      have HC := Lib.hid (fun (W : World) (h : Bd W B b (acc ++ ([60] ++ nm ++ (ats.take i).flatMap wrA))) (hh : B ≤ W.heap.size) => writeString_k B b (acc ++ ([60] ++ nm ++ (ats.take i).flatMap wrA)) (wrA a) W h (by rw [hW]; simp only [List.length_append, List.length_cons, List.length_nil] at hfi ⊢; omega) hh)
      generalize hpre : acc ++ ([60] ++ nm ++ (ats.take i).flatMap wrA) = pre at *
      have HPRE := Lib.hid hpre
      have hwa : (⟨(wrA a).toArray⟩ : ByteArray) = (ByteArray.mk ([32] : List UInt8).toArray ++ ByteArray.mk a.nm.toArray ++ ByteArray.mk ([61, 34] : List UInt8).toArray ++ ByteArray.mk (writeL a.vl).toArray ++ ByteArray.mk ([34] : List UInt8).toArray) := by
        rw [hW, ba_cat, ba_cat, ba_cat, ba_cat]
      rw [hwa] at HC
      have HL1 : a.nm.length ≤ 10000 ∧ (writeL a.vl).length ≤ 60000 := ⟨hs1, by omega⟩
      generalize hwv : writeL a.vl = wv at *
      have hl1 := HL1.1
      have hl2 := HL1.2
      have hne : wr.heap.size ≠ b := by omega
      clear hpre hW hwa hwv hss hfi HBd HKB HX D1 HL1 hwl
      simp only [xaV] at HBd2 HK2 HA2 HX2 HZ2
      go_wp2_with fail
      refine wp_region_seqD (KB B b) (KB.refl B b) KB.trans (by kernel_rfl) [(0, true), (1, true), (2, true), (3, true), (4, true), (5, true), (6, true), (7, false), (8, true), (9, true), (10, false)] (by kernel_rfl) rfl (by kernel_rfl) ?_
      generalize hw2 : (wr.alloc (Obj.cells #[.string ⟨a.nm.toArray⟩, .string ⟨a.vl.toArray⟩] 39)).drew = w2 at *
      have a0 : ∀ W, KB B b w2 W → W.cell? ⟨wr.heap.size, 0, none⟩ = some (.string ⟨a.nm.toArray⟩) := fun W hW => (blk_kb HA2.out hW (by decide) hne).cell 0
      have a1 : ∀ W, KB B b w2 W → W.cell? ⟨wr.heap.size, 1, none⟩ = some (.string ⟨a.vl.toArray⟩) := fun W hW => (blk_kb HA2.out hW (by decide) hne).cell 1
      have hB2 := Lib.hid (show B ≤ w2.heap.size from Nat.le_trans hBr HZ2.out)
      clear hw2
      have q1 : ¬ 9223372036854775807 < 1 + a.nm.length := by omega
      have q2 : ¬ 9223372036854775807 < 1 + a.nm.length + 2 := by omega
      have q3 : ¬ 9223372036854775807 < 1 + a.nm.length + 2 + wv.length := by omega
      have q4 : ¬ 9223372036854775807 < 1 + a.nm.length + 2 + wv.length + 1 := by omega
      iterate 7 (refine wpSeqR_take (o := ⟨_, _, _, _, _, _⟩) (v := ?_) rfl rfl ?_ ?_; rotate_left; (focus (intro W hW; go_simp; first | done | with_reducible rfl)); simp only [Act.put, List.setIfInBounds_toArray, List.set_cons_zero, List.set_cons_succ])
      clear a0 a1
      refine wpSeqR_exec (o := ⟨_, _, _, _, _, _⟩) rfl rfl (fun K hK => ?_)
      go_simp
      refine (HW.out w2).mono ?_
      rintro e w3 ⟨rfl, hb3⟩
      refine hK _ _ (KB.bel hb3 hB2.out) ?_
      clear hK K
      have HBd3 := Lib.hid (bd_below HBd2.out hb3)
      have HK3 := Lib.hid (KB.trans _ _ _ HK2.out (KB.bel (b := b) hb3 hB2.out))
      have HX3 := Lib.hid (HX2.out.keep xaP (S' := fun x => x < B) (fun x hx hlt => hb3.block x hlt) hb3.size (fun _ h _ => h))
      have HZ3 := Lib.hid (Nat.le_trans hzr (Nat.le_trans HZ2.out hb3.size))
      have HB3 := Lib.hid (Nat.le_trans hB2.out hb3.size)
      clear HBd2 HK2 HX2 HZ2 hb3
      iterate 2 (refine wpSeqR_take (o := ⟨_, _, _, _, _, _⟩) (v := ?_) rfl rfl ?_ ?_; rotate_left; (focus (intro W hW; go_simp; first | done | with_reducible rfl)); simp only [Act.put, List.setIfInBounds_toArray, List.set_cons_zero, List.set_cons_succ])
      refine wpSeqR_exec (o := ⟨_, _, _, _, _, _⟩) rfl rfl (fun K hK => ?_)
      go_simp
      refine (HC.out w3 HBd3.out HB3.out).mono ?_
      rintro e w4 ⟨rfl, hbd4, hb4, hk4⟩
      refine hK _ _ ⟨hb4, hk4⟩ ?_
      clear hK K
      refine wpSeqR_nil ?_
      have hz4 : w3.heap.size ≤ w4.heap.size := hb4.size
      have HBd4 := Lib.hid hbd4
      have HK4 := Lib.hid (KB.trans _ _ _ HK3.out (show KB B b w3 w4 from ⟨hb4, hk4⟩))
      have HX4 := Lib.hid (HX3.out.keep xaP (S' := fun x => x < B) (fun x hx hlt => hb4.block x hx) hz4 (fun _ h _ => h))
      clear hbd4 hb4 hk4 HBd3 HK3 HX3
      go_wp2_with fail
      go_roundw
      case rel => exact ⟨i + 1, by go_num, by omega, Lib.hid (by rw [HNX.out, ← List.append_assoc, HPRE.out]; exact HBd4.out), HK4, Nat.le_trans HZ3.out hz4, HX4⟩
      case measure => simp [intOf]; omega
    · obtain rfl : i = ats.length := by omega
      have hlt' : decide (ats.length < ats.length) = false := by simp
      rw [List.take_length] at HBd
      have hfi := HFL.out ats.length
      rw [List.take_length] at hfi
      have HC := Lib.hid (writeString_k B b (acc ++ ([60] ++ nm ++ ats.flatMap wrA)) [62] wr HBd.out (by rw [List.length_append]; simp only [List.length_cons, List.length_nil]; omega) (by omega))
      clear HBd hfi
      go_wp2_with fail
      (with_reducible refine (HC.out).mono ?_)
      rintro e w2 ⟨rfl, hbd, hb2, hk2⟩
      go_wp2_with fail
      go_end0
      exact ⟨rfl, by have h := hbd; simp only [List.append_assoc] at h ⊢; exact h, KB.trans _ _ _ HKB.out ⟨hb2, hk2⟩⟩
theorem write8_any (k : Int) (hBd : Bd w B b acc) (hB : B ≤ w.heap.size) (hk : XaA w (fun x => x < B) Bt ats.length ats) (hd : ats.length ≤ d ∧ d ≤ 9223372036854775807) (hnm : nm.length ≤ 100000) (htx : tx.length ≤ 100000) (hn : ats.length ≤ 1000) (hs : ∀ a ∈ ats, a.nm.length ≤ 10000 ∧ a.vl.length ≤ 10000) (hacc : acc.length ≤ 1000000000) :
    Calls Try.prog 23 #[.pointer (some ⟨b, 0, none⟩), .agg (xtV ⟨k, nm, ats, tx⟩ Bt ats.length d)] w (fun e w' => e = .returned (.tuple #[]) ∧ Bd w' B b (acc ++ wrT ⟨k, nm, ats, tx⟩) ∧ KB B b w w') := by
  by_cases h1 : k = 1
  · subst h1
    exact write8_1 nm ats tx Bt d B b acc w hBd hB hk hd hnm hn hs hacc
  by_cases h2 : k = 2
  · subst h2
    exact write8_2 nm ats tx Bt d B b acc w hBd hB hnm hacc
  · exact write8_3 nm ats tx Bt d B b acc w k h1 h2 hBd hB htx hacc
end
end Go.Proofs.Ytnagckdaleafdaa
