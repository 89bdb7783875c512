/-
  oddAttrs: names counted in a map.
-/
import Derived.Test.YtnagckdaleafdaaXmZ
import Derived.Maps.OwnSet
import Derived.Maps.OwnOps
namespace Go.Proofs.Ytnagckdaleafdaa
open Go.Maps (Keyed Tidy)
open Go.RowKit Go.Nst
set_option maxRecDepth 100000
set_option linter.unusedVariables false
set_option linter.unusedSimpArgs false

theorem lawS : Keyed Try.prog 9 := Maps.string_keyed Try.underlying9
theorem zeroI (w : World) : (zeroValue 3).run Try.prog w = .ok (.int .i64 0) w := by kernel_rfl
/-- a map whose keys are just these names -/
def MapIs (D : DataW Unit) (ns : List (List UInt8)) : Prop := (∀ n, Maps.has D (.string n) = decide (n ∈ ns)) ∧ Maps.size D ≤ ns.length ∧ (Maps.size D = ns.length ↔ ns.Nodup)
theorem MapIs.nil : MapIs (.map []) [] := ⟨fun n => by simp [Maps.has], by simp [Maps.size], by simp [Maps.size]⟩
theorem nodup_snoc {α : Type} {l : List α} {a : α} : (l ++ [a]).Nodup ↔ l.Nodup ∧ a ∉ l := by
  rw [List.nodup_append]
  constructor
  · rintro ⟨h1, _, h3⟩
    exact ⟨h1, fun h => h3 a h a (by simp) rfl⟩
  · rintro ⟨h1, h2⟩
    refine ⟨h1, by simp, fun x hx y hy => ?_⟩
    simp only [List.mem_cons, List.not_mem_nil, or_false] at hy
    subst hy
    rintro rfl
    exact h2 hx
theorem MapIs.put {D : DataW Unit} {ns : List (List UInt8)} (hT : Tidy D) (h : MapIs D ns) (n : List UInt8) (d : DataW Unit) : MapIs (D.put (.string n) d) (ns ++ [n]) := by
  obtain ⟨h1, h2, h3⟩ := h
  have hsz := Maps.size_put (k := .string n) hT d
  rw [h1 n] at hsz
  refine ⟨fun m => ?_, ?_, ?_⟩
  · by_cases e : m = n
    · subst e
      rw [Maps.has_put_same hT.isMap (by trivial)]
      simp
    · rw [Maps.has_put_other (by simpa using e), h1 m]
      simp [e]
  · rw [hsz, List.length_append]
    simp only [List.length_cons, List.length_nil]
    split <;> omega
  · rw [hsz, List.length_append, nodup_snoc]
    simp only [List.length_cons, List.length_nil]
    by_cases hm : n ∈ ns
    · simp only [hm, decide_true, if_true]
      constructor
      · intro h; omega
      · rintro ⟨_, h⟩; exact absurd trivial h
    · simp only [hm, decide_false, Bool.false_eq_true, if_false]
      rw [← h3]
      constructor
      · intro h; exact ⟨by omega, fun h => h⟩
      · rintro ⟨h, _⟩; omega
theorem odd_bad {l : List Xat} {k : Nat} {a : Xat} (hg : l[k]? = some a) (h : isName a.nm = false) : attrsOk l = false := by
  unfold attrsOk
  have : l.all (fun a => isName a.nm) = false := by
    rw [List.all_eq_false]
    exact ⟨a, List.mem_of_getElem? hg, by simp [h]⟩
  rw [this]
  rfl
set_option maxHeartbeats 4000000 in
theorem oddAttrs8_any (l : List Xat) (A : Option Addr) (n c : Nat) (w : World) (S : Nat → Prop) (hk : XaA w S A n l) (hc : n ≤ c ∧ c ≤ 9223372036854775807) (hs : ∀ a ∈ l, a.nm.length ≤ 100000) (hn : n ≤ 100000) :
    Calls Try.prog 46 #[.slice A n c] w fun e w' => e = .returned (.bool (!attrsOk l)) ∧ Below w.heap.size w w' := by
  have hmm := @run_makeMap Try.prog
  have HLN := Lib.hid hk.len
  have HS := Lib.hid hs
  have hc1 := hc.1
  have hc2 := hc.2
  clear hc hs
  go_enter Try.func46, Try.ntmps46
  go_wp2_with fail
  go_loopw [9] (fun i wr => ∃ (k : Nat) (D : DataW Unit), k ≤ n ∧ i = .int .i64 k ∧ Hid ((l.take k).all (fun a => isName a.nm) = true) ∧ Hid (wr.ownsMap Try.prog 9 (plainElem Try.prog 3) w.heap.size k D) ∧ Hid (MapIs D ((l.map Xat.nm).take k)) ∧ Below w.heap.size w wr) (fun i _ => n - (intOf i).toNat)
  case atStart => exact ⟨0, .map [], Nat.zero_le _, rfl, Lib.hid (by simp), Lib.hid (World.ownsMap_made _ _ _ _), Lib.hid (by simpa using MapIs.nil), bel_alloc (Below.refl _ _) _⟩
  case round =>
    obtain ⟨k, D, hkl, rfl, hall, HO, HI, hb⟩ := hrel
    have hsz := hb.size
    have hlt0 := HO.out.lt
    by_cases hlt : k < n
    · obtain ⟨a, b, off, hg, rfl, -, hbs, g1, g2, f0, f1⟩ := xa_at (hk.bel xaP hb) hlt
      have hlt' : decide (k < n) = true := by simpa using hlt
      have hal := HS.out a (List.mem_of_getElem? hg.out)
      have hkey : keyOf Try.prog 9 (.string ⟨a.nm.toArray⟩) = some (.string a.nm) := by
        have := Go.WideMaps.keyOf_string_mk Try.underlying9 (s := ⟨a.nm.toArray⟩) (by rw [size_of]; unfold maxLen; omega)
        simpa using this
      have hown1 := HO.out.alloc (.cells (xaV a) 39)
      have HA := Lib.hid (Blk.new wr 39 (xaV a))
      have HB1 := Lib.hid (bel_alloc hb (.cells (xaV a) 39))
      have HT := Lib.hid (HO.out.tidy lawS)
      have HIN : Hid (∀ d, MapIs (D.put (.string a.nm) d) ((l.map Xat.nm).take (k + 1))) := Lib.hid (fun d => by
        have := HI.out.put HT.out a.nm d
        rw [List.take_add_one, List.getElem?_map, hg.out]
        exact this)
      have HN := Lib.hid (fun W => Name8_any a.nm W (by omega))
      have hne : ¬ wr.heap.size = w.heap.size := by omega
      clear HO HI
      simp only [xaV] at hown1 HA HB1
      go_wp2_with (first
        | (at_lookup; refine wpList_lookup_own_int _ rfl _ _ 88 rfl 9 3 .i64 lawS Try.underlying88 Try.underlying3 (zeroI _) w.heap.size k _ rfl hown1 _ _ rfl hkey ?_; intro cc hat hwc)
        | (at_mapUpdate; refine wpList_mapUpdate_own _ rfl _ _ _ 88 rfl 9 3 lawS Try.underlying88 _ w.heap.size k _ rfl hown1 (by unfold maxLen; omega) _ _ _ rfl rfl hkey _ [] (plainElem_int Try.underlying3 (wrap64_wf _)) ?_; intro w1 hown2 hgrow2; have y0 := (HA.out.grown hgrow2 (by simp; omega)).cell 0; have y1 := (HA.out.grown hgrow2 (by simp; omega)).cell 1; simp at y0 y1))
      have B1 := HB1.out.grown hgrow2 HB1.out.size (fun j hj => by cases hj; exact Nat.le_refl _)
      have HB2 := Lib.hid B1
      have HO2 := Lib.hid hown2
      clear hown1 hown2 hgrow2 B1 HA HB1
      cases hnm : isName a.nm with
      | true =>
        rw [hnm] at HN
        have HAL : Hid ((l.take (k + 1)).all (fun a => isName a.nm) = true) := Lib.hid (by rw [List.take_add_one, hg.out, List.all_append, hall.out]; simp [hnm])
        clear hnm
        (with_reducible refine (HN.out _).mono ?_)
        rintro e w2 ⟨rfl, hb2⟩
        have HO3 := Lib.hid (HO2.out.kept (only_of_below hb2 none) (by simp))
        have HB3 := Lib.hid (bel_step HB2.out hb2)
        clear HO2 HB2 hb2
        go_wp2_with fail
        go_roundw
        case rel => exact ⟨k + 1, _, by omega, by go_num, HAL, HO3, Lib.hid (HIN.out _), HB3.out⟩
        case measure => simp [intOf]; omega
      | false =>
        rw [hnm] at HN
        have HE := Lib.hid (odd_bad hg.out hnm)
        clear hnm
        (with_reducible refine (HN.out _).mono ?_)
        rintro e w2 ⟨rfl, hb2⟩
        go_wp2_with fail
        go_ret
        exact ⟨by rw [HE.out]; rfl, bel_step HB2.out hb2⟩
    · obtain rfl : k = n := by omega
      have hlt' : decide (k < k) = false := by simp
      have hta : l.take k = l := List.take_of_length_le (by have := HLN.out; omega)
      have htm : (l.map Xat.nm).take k = l.map Xat.nm := List.take_of_length_le (by rw [List.length_map]; have := HLN.out; omega)
      rw [hta] at hall
      rw [htm] at HI
      have hlen : (l.map Xat.nm).length = k := by rw [List.length_map]; exact HLN.out
      have h2 := HI.out.2.1
      have h3 := HI.out.2.2
      rw [hlen] at h2 h3
      have hown := HO.out
      have hE : attrsOk l = (decide ((l.map Xat.nm).Nodup) && decide (k ≤ 32)) := by unfold attrsOk; rw [hall.out, HLN.out, Bool.true_and]
      by_cases hnd : (l.map Xat.nm).Nodup
      · have hsize := h3.2 hnd
        have hd : decide ((Maps.size D : Int) < (k : Int)) = false := by simp; omega
        have hd' : decide (Maps.size D < k) = false := by simp; omega
        by_cases h32 : 32 < k
        · have d1 : decide ((32 : Int) < (k : Int)) = true := by simp; omega
          have d1' : decide (32 < k) = true := by simpa using h32
          have HE : Hid (attrsOk l = false) := Lib.hid (by rw [hE]; simp; intro _; omega)
          clear hE hnd h2 h3 hsize hlen hta htm HI hall
          go_wp2_with (at_len; refine wpList_len_own _ rfl _ 88 rfl 9 3 Try.underlying88 _ w.heap.size k D rfl hown ?_)
          go_ret
          exact ⟨by rw [HE.out]; rfl, hb⟩
        · have d1 : decide ((32 : Int) < (k : Int)) = false := by simp; omega
          have d1' : decide (32 < k) = false := by simpa using h32
          have HE : Hid (attrsOk l = true) := Lib.hid (by rw [hE]; simp; exact ⟨hnd, by omega⟩)
          clear hE hnd h2 h3 hsize hlen hta htm HI hall
          go_wp2_with (at_len; refine wpList_len_own _ rfl _ 88 rfl 9 3 Try.underlying88 _ w.heap.size k D rfl hown ?_)
          go_ret
          exact ⟨by rw [HE.out]; rfl, hb⟩
      · have hsize : Maps.size D < k := by
          rcases Nat.lt_or_ge (Maps.size D) k with h | h
          · exact h
          · exact absurd (h3.1 (by omega)) hnd
        have hd : decide ((Maps.size D : Int) < (k : Int)) = true := by simp; omega
        have hd' : decide (Maps.size D < k) = true := by simpa using hsize
        have HE : Hid (attrsOk l = false) := Lib.hid (by rw [hE]; simp [hnd])
        clear hE hnd h2 h3 hlen hta htm HI hall
        go_wp2_with (at_len; refine wpList_len_own _ rfl _ 88 rfl 9 3 Try.underlying88 _ w.heap.size k D rfl hown ?_)
        go_ret
        exact ⟨by rw [HE.out]; rfl, hb⟩
end Go.Proofs.Ytnagckdaleafdaa
