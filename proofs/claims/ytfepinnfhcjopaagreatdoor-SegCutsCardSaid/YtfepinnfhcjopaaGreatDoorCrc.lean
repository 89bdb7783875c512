/-
  crc.More, crc.Sum and the reference's: what each returns.
  The reference's More, both Sums: what each returns.
  slices.Grow on nil, slices.Concat.
  crc.Seal and the reference's.
  crc.Open.
  The run with which each statement on sums begins.
  The reference's Seal and Open; CrcSeals: the walk.
-/
import Derived.Test.YtfepinnfhcjopaaGreatDoorRows
import Derived.Test.YtfepinnfhcjopaaGreatDoorBas
import Derived.Test.YtfepinnfhcjopaaGreatDoorPla
import Derived.Test.YtfepinnfhcjopaaGreatDoorNm1
import Derived.Lib.AppendZeros
import Derived.Test.YtfepinnfhcjopaaGreatDoorRdr
import Derived.Deep.RegionHeld3
import Derived.Deep.DrawnRows
import Derived.Deep.QuietTactic
import Derived.BigQuiet
import Derived.Lib.SlBytesConst
section
namespace Go.Proofs.YtfepinnfhcjopaaGreatDoor
open Go.RowKit Go.Nst
set_option maxRecDepth 100000

/-- the table lies in the block of its variable -/
def Tab (w : World) : Prop := ∀ k, k < 16 → w.cell? ⟨0, k, none⟩ = some (.int .u32 (halfT k : Int))
theorem Tab.below {w w' : World} (h : Tab w) (hb : Below w.heap.size w w') : Tab w' := fun k hk => by
  have h1 := h k hk
  rw [hb.cell (p := ⟨0, k, none⟩) (World.block_lt_of_cell? w _ h1)]
  exact h1

theorem bits_xor (a b : Nat) (ha : a < 4294967296) (hb : b < 4294967296) : bits .xor .u32 (a : Int) (b : Int) = ((a ^^^ b : Nat) : Int) := u32_xor_nat a b ha hb
theorem bits_and15 (a : Nat) (ha : a < 4294967296) : bits .and .u32 (a : Int) 15 = ((a % 16 : Nat) : Int) := by
  have := u32_and_nat a 15 ha (by omega)
  rw [nat_mask4] at this
  exact this
theorem bits_xor16 (a b : Nat) (ha : a < 4294967296) (hb : b < 4294967296) : bits .xor .u32 (a : Int) ((b : Int) / 16) = ((a ^^^ (b / 16) : Nat) : Int) := by
  have := u32_xor_nat a (b / 16) ha (by omega)
  rw [Int.natCast_ediv] at this
  exact this
theorem bits_not (a : Nat) (ha : a < 4294967296) : bits .xor .u32 IntKind.u32.max (a : Int) = ((a ^^^ 4294967295 : Nat) : Int) := by
  have := u32_xor_nat 4294967295 a (by omega) ha
  rw [Nat.xor_comm] at this
  exact this

theorem take_snoc {l : List UInt8} {k : Nat} {u : UInt8} (h : l[k]? = some u) : l.take (k + 1) = l.take k ++ [u] := by
  rw [List.take_add_one, h]; rfl

theorem more_round {l : List UInt8} {k c y y1 z1 z2 : Nat} {u : UInt8} (hu : l[k]? = some u) (e0 : y = crcL c (l.take k)) (e1 : y1 = y ^^^ u.toNat) (e2 : z1 = halfT (y1 % 16) ^^^ (y1 / 16)) (e3 : z2 = halfT (z1 % 16) ^^^ (z1 / 16)) :
    z2 = crcL c (l.take (k + 1)) := by
  rw [take_snoc hu, crcL_snoc, ← e0, e3, e2, e1]
  rfl

theorem more_end {l : List UInt8} {k c y res : Nat} (hl : l.length = k) (e0 : y = crcL c (l.take k)) (hf : res = crcL c l ^^^ 4294967295) : res = y ^^^ 4294967295 := by
  rw [List.take_of_length_le (by omega)] at e0
  rw [hf, e0]

set_option maxHeartbeats 400000 in
theorem more_any (s : Nat) (hs : s < 4294967296) (A : Option Addr) (n c : Nat) (l : List UInt8) (w : World) (hn : n ≤ 9223372036854775807) (hB : Bs w A n l) (ht : Tab w) :
    Calls Tryz.prog 82 #[.int .u32 s, .slice A n c] w fun e w' => e = .returned (.int .u32 (crcMore s l : Int)) ∧ w = w' := by
  have e0 := bits_not s hs
  obtain ⟨s1, hs1⟩ : ∃ s1, s1 = s ^^^ 4294967295 := ⟨_, rfl⟩
  rw [← hs1] at e0
  have hs1l : s1 < 4294967296 := by rw [hs1]; exact xor_lt hs (by omega)
  have HF : Hid (crcMore s l = crcL s1 l ^^^ 4294967295) := by rw [hs1]; rfl
  clear hs1
  have HL := Lib.hid hB.len
  generalize hres : crcMore s l = res at *
  have HR := Lib.hid hres
  clear hres
  go_enter Tryz.func82, Tryz.ntmps82
  go_wp2
  go_loop [5, 12] (fun x i => ∃ k y : Nat, k ≤ n ∧ i = .int .i64 k ∧ x = .int .u32 (y : Int) ∧ y < 4294967296 ∧ Hid (y = crcL s1 (l.take k))) (fun _ i => n - (intOf i).toNat)
  case atStart => exact ⟨0, s1, Nat.zero_le _, rfl, rfl, hs1l, rfl⟩
  case round =>
    obtain ⟨k, y, hk, rfl, rfl, hy, HY⟩ := hrel
    by_cases hlt : k < n
    · obtain ⟨u, b, off, rfl, hu, hb, hc, h256⟩ := hB.at hlt
      have e1 := bits_xor y u.toNat hy (u8_lt u)
      obtain ⟨y1, hy1⟩ : ∃ x, x = y ^^^ u.toNat := ⟨_, rfl⟩
      rw [← hy1] at e1
      have hl1 : y1 < 4294967296 := by rw [hy1]; exact xor_lt hy (u8_lt u)
      have e2 := bits_and15 y1 hl1
      have c2 := ht (y1 % 16) (by omega)
      have hm1 : y1 % 16 < 16 := by omega
      have e3 := bits_xor16 (halfT (y1 % 16)) y1 (halfT_lt _) hl1
      obtain ⟨z1, hz1⟩ : ∃ x, x = halfT (y1 % 16) ^^^ (y1 / 16) := ⟨_, rfl⟩
      rw [← hz1] at e3
      have hl2 : z1 < 4294967296 := by rw [hz1]; exact xor_lt (halfT_lt _) (by omega)
      have e4 := bits_and15 z1 hl2
      have c4 := ht (z1 % 16) (by omega)
      have hm2 : z1 % 16 < 16 := by omega
      have e5 := bits_xor16 (halfT (z1 % 16)) z1 (halfT_lt _) hl2
      obtain ⟨z2, hz2⟩ : ∃ x, x = halfT (z1 % 16) ^^^ (z1 / 16) := ⟨_, rfl⟩
      rw [← hz2] at e5
      have hl3 : z2 < 4294967296 := by rw [hz2]; exact xor_lt (halfT_lt _) (by omega)
      have HN : Hid (z2 = crcL s1 (l.take (k + 1))) := more_round hu.out HY.out hy1 hz1 hz2
      clear hy1 hz1 hz2
      generalize halfT (y1 % 16) = t1 at *
      generalize halfT (z1 % 16) = t2 at *
      go_wp2
      go_round
      case rel => exact ⟨k + 1, z2, by omega, by go_num, rfl, hl3, HN⟩
      case measure => simp [intOf]; omega
    · have hkn : k = n := by omega
      subst hkn
      have e1 := bits_not y hy
      have HE : Hid (res = y ^^^ 4294967295) := more_end HL.out HY.out HF.out
      generalize y ^^^ 4294967295 = r at *
      go_wp2
      go_ret
      exact ⟨by rw [HE.out]; rfl, rfl⟩
end Go.Proofs.YtfepinnfhcjopaaGreatDoor
end
section
namespace Go.Proofs.YtfepinnfhcjopaaGreatDoor
open Go.RowKit Go.Nst
set_option maxRecDepth 100000

theorem bits_xorP (a : Nat) (ha : a < 4294967296) : bits .xor .u32 (a : Int) 3988292384 = ((a ^^^ 3988292384 : Nat) : Int) := u32_xor_nat a 3988292384 ha (by omega)
theorem bits_xorP2 (a : Nat) (ha : a < 4294967296) : bits .xor .u32 ((a : Int) / 2) 3988292384 = (((a / 2) ^^^ 3988292384 : Nat) : Int) := by
  have := u32_xor_nat (a / 2) 3988292384 (by omega) (by omega)
  rw [Int.natCast_ediv] at this
  exact this
theorem bits_xorF (a : Nat) (ha : a < 4294967296) : bits .xor .u32 (a : Int) 4294967295 = ((a ^^^ 4294967295 : Nat) : Int) := u32_xor_nat a 4294967295 ha (by omega)
theorem refL_snoc (c : Nat) (a : List UInt8) (u : UInt8) : refL c (a ++ [u]) = refB (refL c a) u := by unfold refL; rw [List.foldl_append]; rfl
theorem ref_round {l : List UInt8} {k c y y1 z : Nat} {u : UInt8} (hu : l[k]? = some u) (e0 : y = refL c (l.take k)) (e1 : y1 = y ^^^ u.toNat) (e2 : z = stN 8 y1) : z = refL c (l.take (k + 1)) := by
  rw [take_snoc hu, refL_snoc, ← e0, e2, e1]
  rfl
theorem ref_end {l : List UInt8} {k c y res : Nat} (hl : l.length = k) (e0 : y = refL c (l.take k)) (hf : res = refL c l ^^^ 4294967295) : res = y ^^^ 4294967295 := by
  rw [List.take_of_length_le (by omega)] at e0
  rw [hf, e0]
theorem st_odd {j y z : Nat} (h : z = stN j y) (h1 : z % 2 = 1) : (z / 2) ^^^ 3988292384 = stN (j + 1) y := by
  rw [stN_succ, ← h]; unfold st; rw [if_pos h1]
theorem st_even {j y z : Nat} (h : z = stN j y) (h1 : ¬ z % 2 = 1) : z / 2 = stN (j + 1) y := by
  rw [stN_succ, ← h]; unfold st; rw [if_neg h1]

set_option maxHeartbeats 400000 in
theorem refMore_any (s : Nat) (hs : s < 4294967296) (A : Option Addr) (n c : Nat) (l : List UInt8) (w : World) (hn : n ≤ 9223372036854775807) (hB : Bs w A n l) :
    Calls Tryz.prog 74 #[.int .u32 s, .slice A n c] w fun e w' => e = .returned (.int .u32 (crcMore s l : Int)) ∧ w = w' := by
  have e0 := bits_xorF s hs
  obtain ⟨s1, hs1⟩ : ∃ s1, s1 = s ^^^ 4294967295 := ⟨_, rfl⟩
  rw [← hs1] at e0
  have hs1l : s1 < 4294967296 := by rw [hs1]; exact xor_lt hs (by omega)
  have HF : Hid (crcMore s l = refL s1 l ^^^ 4294967295) := by rw [crcMore_ref, hs1]; rfl
  clear hs1
  have HL := Lib.hid hB.len
  generalize crcMore s l = res at *
  go_enter Tryz.func74, Tryz.ntmps74
  go_wp2
  go_loop [5, 6] (fun x i => ∃ k y : Nat, k ≤ n ∧ i = .int .i64 k ∧ x = .int .u32 (y : Int) ∧ y < 4294967296 ∧ Hid (y = refL s1 (l.take k))) (fun _ i => n - (intOf i).toNat)
  case atStart => exact ⟨0, s1, Nat.zero_le _, rfl, rfl, hs1l, rfl⟩
  case round =>
    obtain ⟨k, y, hk, rfl, rfl, hy, HY⟩ := hrel
    by_cases hlt : k < n
    · obtain ⟨u, b, off, rfl, hu, hb, hc, h256⟩ := hB.at hlt
      have e1 := bits_xor y u.toNat hy (u8_lt u)
      obtain ⟨y1, hy1⟩ : ∃ x, x = y ^^^ u.toNat := ⟨_, rfl⟩
      rw [← hy1] at e1
      have hl1 : y1 < 4294967296 := by rw [hy1]; exact xor_lt hy (u8_lt u)
      have HY1 := Lib.hid hy1
      clear hy1
      go_wp2
      go_loop [5, 7] (fun x i => ∃ j z : Nat, j ≤ 8 ∧ i = .int .i64 j ∧ x = .int .u32 (z : Int) ∧ z < 4294967296 ∧ Hid (z = stN j y1)) (fun _ i => 8 - (intOf i).toNat)
      case atStart => exact ⟨0, y1, by omega, rfl, rfl, hl1, rfl⟩
      case round =>
        obtain ⟨j, z, hj, rfl, rfl, hz, HZ⟩ := hrel
        by_cases hlt8 : j < 8
        · by_cases hodd : z % 2 = 1
          · have b1 : (((z : Int) % 2) == 1) = true := by rw [beq_iff_eq]; omega
            have e2 := bits_xorP2 z hz
            have HN : Hid ((z / 2) ^^^ 3988292384 = stN (j + 1) y1) := st_odd HZ.out hodd
            have hl2 : (z / 2) ^^^ 3988292384 < 4294967296 := xor_lt (by omega) (by omega)
            generalize (z / 2) ^^^ 3988292384 = z2 at *
            clear hodd
            go_wp2
            go_round
            case rel => exact ⟨j + 1, z2, by omega, by go_num, rfl, hl2, HN⟩
            case measure => simp [intOf]; omega
          · have b1 : (((z : Int) % 2) == 1) = false := by rw [beq_eq_false_iff_ne]; omega
            have HN : Hid (z / 2 = stN (j + 1) y1) := st_even HZ.out hodd
            clear hodd
            go_wp2
            go_round
            case rel => exact ⟨j + 1, z / 2, by omega, by go_num, by go_num, by omega, HN⟩
            case measure => simp [intOf]; omega
        · have hj8 : j = 8 := by omega
          subst hj8
          have HN : Hid (z = refL s1 (l.take (k + 1))) := ref_round hu.out HY.out HY1.out HZ.out
          go_wp2
          go_round
          case rel => exact ⟨k + 1, z, by omega, by go_num, rfl, hz, HN⟩
          case measure => simp [intOf]; omega
    · have hkn : k = n := by omega
      subst hkn
      have e1 := bits_xorF y hy
      have HE : Hid (res = y ^^^ 4294967295) := ref_end HL.out HY.out HF.out
      generalize y ^^^ 4294967295 = r at *
      go_wp2
      go_ret
      exact ⟨by rw [HE.out]; rfl, rfl⟩

theorem sum_any (A : Option Addr) (n c : Nat) (l : List UInt8) (w : World) (hn : n ≤ 9223372036854775807) (hB : Bs w A n l) (ht : Tab w) :
    Calls Tryz.prog 69 #[.slice A n c] w fun e w' => e = .returned (.int .u32 (crcSum l : Int)) ∧ w = w' := by
  have H := Lib.hid (more_any 0 (by omega) A n c l w hn hB ht)
  go_enter Tryz.func69, Tryz.ntmps69
  go_wp2_with fail
  refine H.out.mono ?_
  rintro e w' ⟨rfl, rfl⟩
  go_wp2_with fail
  go_ret
  exact ⟨rfl, rfl⟩
theorem refSum_any (A : Option Addr) (n c : Nat) (l : List UInt8) (w : World) (hn : n ≤ 9223372036854775807) (hB : Bs w A n l) :
    Calls Tryz.prog 58 #[.slice A n c] w fun e w' => e = .returned (.int .u32 (crcSum l : Int)) ∧ w = w' := by
  have H := Lib.hid (refMore_any 0 (by omega) A n c l w hn hB)
  go_enter Tryz.func58, Tryz.ntmps58
  go_wp2_with fail
  refine H.out.mono ?_
  rintro e w' ⟨rfl, rfl⟩
  go_wp2_with fail
  go_ret
  exact ⟨rfl, rfl⟩
end Go.Proofs.YtfepinnfhcjopaaGreatDoor
end
section
namespace Go.Proofs.YtfepinnfhcjopaaGreatDoor
open Go.RowKit Go.Nst
set_option maxRecDepth 100000

theorem grow_cells (w : World) (n : Nat) (cs : Array Value) (hcs : cs.size = grownCap w n 0 5) (hn : n ≤ maxLen) :
    Ow (w.drew.alloc (.cells cs 5)) w.heap.size (some ⟨w.heap.size, 0, none⟩) 0 (grownCap w n 0 5) [] :=
  ⟨by simp [bv], .inr ⟨w.heap.size, _, cs, rfl, Nat.le_refl _, heap_alloc_new w.drew _, Nat.zero_le _, grownCap_le_maxLen w n 0 _ hn, by omega, by simp [bv]⟩⟩

theorem grow_nil (n : Nat) (hn : n ≤ 140737488355328) (w : World) :
    Calls Tryz.prog 62 #[.slice none 0 0, .int .i64 n] w (RetB w []) := by
  by_cases h0 : n = 0
  · subst h0
    go_enter Tryz.func62, Tryz.ntmps62
    go_wp2_with fail
    try go_ret
    exact RetB.of rfl Ow.nil (Below.refl _ _)
  · obtain ⟨i0, hi0, hz0, hz1, hz2⟩ := iBytes.info
    have HR := Lib.hid (fun ty => Lib.run_append_nil_zeros (P := Tryz.prog) w 22 3 ty 5 i0 (.int .u8 0) .i64 .i64 iBytes.slice Tryz.underlying3 hi0 hz0 n (by omega) (by omega) (by omega) (by rw [hz2]; omega))
    have hge := grownCap_ge w n 0 5
    have HO := Lib.hid (grow_cells w n (Builtin.zeroCells (Value.int .u8 0).cells n ++ Builtin.zeroCells (Value.int .u8 0).cells (grownCap w n 0 5 - n)) (by simp [size_zeroCells, Value.cells]; omega) (by unfold maxLen; omega))
    generalize grownCap w n 0 5 = gc at *
    clear hz0 hz1 hz2 hi0
    go_enter Tryz.func62, Tryz.ntmps62
    go_wp2_with (at_builtin; refine Lib.wpList_append_run _ rfl _ _ _ _ rfl _ _ rfl rfl _ _ (HR.out _) ?_)
    try go_ret
    exact RetB.of rfl HO.out ((Below.refl _ _).drew.alloc (Nat.le_refl _) _)

/-- one of the parts of a Concat -/
structure Part where
  A : Option Addr
  n : Nat
  c : Nat
  l : List UInt8
def Part.val (p : Part) : Value := .slice p.A p.n p.c
def partSum (ps : List Part) : Nat := (ps.map (·.n)).sum
def partBytes (ps : List Part) : List UInt8 := ps.flatMap (·.l)
theorem partSum_snoc {ps : List Part} {k : Nat} {p : Part} (h : ps[k]? = some p) : partSum (ps.take (k + 1)) = partSum (ps.take k) + p.n := by
  rw [List.take_add_one, h]; simp [partSum]
theorem partBytes_snoc {ps : List Part} {k : Nat} {p : Part} (h : ps[k]? = some p) : partBytes (ps.take (k + 1)) = partBytes (ps.take k) ++ p.l := by
  rw [List.take_add_one, h]; simp [partBytes]
theorem partSum_le (ps : List Part) (k : Nat) : partSum (ps.take k) ≤ partSum ps := by
  induction ps generalizing k with
  | nil => simp [partSum]
  | cons p ps ih =>
    cases k with
    | zero => simp [partSum]
    | succ k => have := ih k; simp only [partSum, List.take_succ_cons, List.map_cons, List.sum_cons] at *; omega
theorem part_at {w : World} {B m : Nat} {A : Option Addr} {ps : List Part} {k : Nat} (hR : Reads w B 1 A m (ps.map Part.val)) (hk : k < m) :
    ∃ (p : Part) (b off : Nat), A = some ⟨b, off, none⟩ ∧ Hid (ps[k]? = some p) ∧ b < B ∧ w.cell? ⟨b, off + k, none⟩ = some (.slice p.A p.n p.c) := by
  obtain ⟨u, b, off, e, hu, hb, hc⟩ := hR.plain hk
  have hu := hu.out
  rw [List.getElem?_map, Option.map_eq_some_iff] at hu
  obtain ⟨p, hp, rfl⟩ := hu
  exact ⟨p, b, off, e, hp, hb, hc⟩

set_option maxHeartbeats 800000 in
theorem concat_any (A : Option Addr) (m c : Nat) (ps : List Part) (w : World) (hm : m ≤ 9223372036854775806) (hR : Reads w w.heap.size 1 A m (ps.map Part.val)) (hP : ∀ p ∈ ps, Bs w p.A p.n p.l) (hS : partSum ps ≤ 140737488355328) :
    Calls Tryz.prog 40 #[.slice A m c] w (RetB w (partBytes ps)) := by
  have HM := Lib.hid hR.1
  generalize hS0 : partSum ps = S at *
  have HS0 := Lib.hid hS0
  clear hS0
  go_enter Tryz.func40, Tryz.ntmps40
  go_wp2_with fail
  go_loop [3, 11] (fun x i => ∃ k y : Nat, k ≤ m ∧ i = .int .i64 k ∧ x = .int .i64 (y : Int) ∧ y ≤ S ∧ Hid (y = partSum (ps.take k))) (fun _ i => m - (intOf i).toNat)
  case atStart => exact ⟨0, 0, Nat.zero_le _, rfl, rfl, by omega, rfl⟩
  case round =>
    obtain ⟨k, y, hk, rfl, rfl, hy, HY⟩ := hrel
    by_cases hlt : k < m
    · obtain ⟨p, b, off, rfl, hp, hb, hc⟩ := part_at hR hlt
      have HN : Hid (y + p.n = partSum (ps.take (k + 1))) := by rw [partSum_snoc hp.out, ← HY.out]; rfl
      have hle : y + p.n ≤ S := by rw [HN.out, ← HS0.out]; exact partSum_le _ _
      generalize p.n = pn at *
      go_wp2_with fail
      go_round
      case rel => exact ⟨k + 1, y + pn, by omega, by go_num, by go_num, hle, HN⟩
      case measure => simp [intOf]; omega
    · obtain rfl : k = m := by omega
      have hyS : y = S := by rw [HY.out, ← HS0.out, List.take_of_length_le (by have := HM.out; simp at this; omega)]
      have HYS := Lib.hid hyS
      clear hyS
      go_wp2_with fail
      refine (grow_nil y (by omega) _).mono ?_
      rintro e w1 ⟨A1, n1, c1, rfl, ho1, hb1⟩
      have hn1 : n1 = 0 := by have := ho1.len; simpa using this.symm
      subst hn1
      go_wp2_with fail
      go_loopw [6, 27] (fun v i wr => ∃ (j y : Nat) (A2 : Option Addr) (c2 : Nat), j ≤ k ∧ i = .int .i64 j ∧ v = .slice A2 y c2 ∧ y ≤ S ∧ Hid (y = partSum (ps.take j)) ∧ Ow wr w.heap.size A2 y c2 (partBytes (ps.take j)) ∧ Below w.heap.size w wr) (fun _ i _ => k - (intOf i).toNat)
      case atStart => exact ⟨0, 0, A1, c1, Nat.zero_le _, rfl, rfl, by omega, rfl, ho1, hb1⟩
      case round =>
        obtain ⟨j, z, A2, c2, hj, rfl, rfl, hz, HZ, hO, hbw⟩ := hrel
        by_cases hlt : j < k
        · obtain ⟨p, b, off, rfl, hp, hb, hc⟩ := part_at (hR.below hbw) hlt
          have HN : Hid (z + p.n = partSum (ps.take (j + 1))) := by rw [partSum_snoc hp.out, ← HZ.out]; rfl
          have hle : z + p.n ≤ S := by rw [HN.out, ← HS0.out]; exact partSum_le _ _
          have hpb := (hP p (List.mem_of_getElem? hp.out)).below hbw
          have HB := Lib.hid (partBytes_snoc hp.out)
          have hbs := hbw.size
          obtain ⟨pA, pn, pc, pl⟩ := p
          simp only at *
          go_wp2_with (at_builtin; refine wpList_appB _ iBytes rfl rfl rfl hO rfl hpb (by omega) (by omega) ?_; intro A' c' w' ho hb _ _)
          rw [← HB.out] at ho
          go_roundw
          case rel => exact ⟨j + 1, z + pn, A', c', by omega, by go_num, rfl, hle, HN, ho, hbw.trans hb⟩
          case measure => simp [intOf]; omega
        · obtain rfl : j = k := by omega
          go_wp2_with fail
          try go_ret
          refine RetB.of rfl ?_ hbw
          rw [List.take_of_length_le (by have := HM.out; simp at this; omega)] at hO
          exact hO
end Go.Proofs.YtfepinnfhcjopaaGreatDoor
end
section
namespace Go.Proofs.YtfepinnfhcjopaaGreatDoor
open Go.RowKit Go.Nst
set_option maxRecDepth 100000

/-- bytes with their sum behind them -/
def sealL (l : List UInt8) : List UInt8 := l ++ wordL (crcSum l)

theorem two_parts (w : World) (t : TypeId) (p q : Part) : Reads (w.alloc (.cells #[.slice p.A p.n p.c, .slice q.A q.n q.c] t)) (w.heap.size + 1) 1 (some ⟨w.heap.size, 0, none⟩) 2 ([p, q].map Part.val) := by
  refine ⟨rfl, fun _ => ⟨_, rfl, by simp, fun j u hu => ?_⟩⟩
  rw [add_lit, Nat.zero_add, (Blk.new w t _).cell]
  match j, hu with
  | 0, hu => simpa [Part.val] using hu
  | 1, hu => simpa [Part.val] using hu
  | k + 2, hu => simp at hu

theorem RetB.base {w w1 : World} {l : List UInt8} {e : Ending} {w' : World} (h : RetB w1 l e w') (hb : Below w.heap.size w w1) : RetB w l e w' := by
  obtain ⟨A, n, c, rfl, h1, h2⟩ := h
  exact ⟨A, n, c, rfl, h1.mono hb.size, hb.trans (h2.mono hb.size)⟩

theorem seal_any (A : Option Addr) (n c : Nat) (l : List UInt8) (w : World) (hn : n ≤ 140737488350000) (hB : Bs w A n l) (ht : Tab w) :
    Calls Tryz.prog 61 #[.slice A n c] w (RetB w (sealL l)) := by
  have HS := Lib.hid (sum_any A n c l w (by omega) hB ht)
  have hsl := crcSum_lt l
  have HE : Hid (sealL l = l ++ wordL (crcSum l)) := rfl
  generalize crcSum l = s at *
  go_enter Tryz.func61, Tryz.ntmps61
  go_wp2_with fail
  refine HS.out.mono ?_
  rintro e w0 ⟨rfl, rfl⟩
  go_wp2_with fail
  refine (word_any s hsl w).mono ?_
  rintro e w1 ⟨A1, n1, c1, rfl, ho1, hb1⟩
  have hn1 : n1 = 4 := by have := ho1.len; simpa [wordL] using this.symm
  subst hn1
  have HR := Lib.hid (two_parts w1 22 ⟨A, n, c, l⟩ ⟨A1, 4, c1, wordL s⟩)
  go_wp2_with fail
  refine (concat_any _ 2 _ [⟨A, n, c, l⟩, ⟨A1, 4, c1, wordL s⟩] _ (by omega) ?_ ?_ ?_).mono ?_
  · simpa using HR.out
  · intro p hp
    simp only [List.mem_cons, List.not_mem_nil, or_false] at hp
    rcases hp with rfl | rfl
    · exact (hB.below hb1).alloc _
    · exact ho1.bs.alloc _
  · simp [partSum]; omega
  · intro e w2 hr
    have hr2 := RetB.base hr (hb1.alloc hb1.size _)
    obtain ⟨A2, n2, c2, rfl, ho2, hb2⟩ := hr2
    go_wp2_with fail
    try go_ret
    rw [HE.out]
    refine RetB.of rfl ?_ hb2
    simpa [partBytes] using ho2
end Go.Proofs.YtfepinnfhcjopaaGreatDoor
end
section
namespace Go.Proofs.YtfepinnfhcjopaaGreatDoor
open Go.RowKit Go.Nst
set_option maxRecDepth 100000


/-- what was sealed -/
def openL (l : List UInt8) : List UInt8 × Bool := if l.length < 4 ∨ leN (l.drop (l.length - 4)) ≠ crcSum (l.take (l.length - 4)) then ([], false) else (l.take (l.length - 4), true)
def RetO (w : World) (r : List UInt8 × Bool) (e : Ending) (w' : World) : Prop := ∃ A n c, e = .returned (.tuple #[.slice A n c, .int .i64 (if r.2 then 0 else 20)]) ∧ Ow w' w.heap.size A n c r.1 ∧ Below w.heap.size w w'

theorem openL_eq {l : List UInt8} {m : Nat} (h : l.length = m + 4) : openL l = if leN (l.drop m) ≠ crcSum (l.take m) then ([], false) else (l.take m, true) := by
  unfold openL
  rw [h, Nat.add_sub_cancel]
  by_cases hx : leN (l.drop m) ≠ crcSum (l.take m)
  · rw [if_pos (.inr hx), if_pos hx]
  · rw [if_neg (by rintro (h1 | h1); exact absurd h1 (by omega); exact hx h1), if_neg hx]
theorem readWord_word {P : Program} {f : FuncId} {args : Array Value} {w : World} {g : Nat} {l : List UInt8} (hl : l.length = 4) (h : Calls P f args w (RetN w g (RS.word ⟨l, false⟩))) :
    Calls P f args w fun e w' => e = .returned (.int .u32 (leN l : Int)) ∧ w.grownBy w' (some g) :=
  h.mono fun e w' hh => by
    obtain ⟨h1, _, h3⟩ := hh
    refine ⟨?_, h3⟩
    rw [h1]
    have : (RS.word ⟨l, false⟩).1 = leN l := by
      unfold RS.word RS.take
      rw [if_neg (by simp [hl])]
      simp [List.take_of_length_le, hl]
    rw [this]

set_option maxHeartbeats 1000000 in
theorem open_any (A : Option Addr) (n c : Nat) (l : List UInt8) (w : World) (hn : n ≤ 140737488350000) (hB : Bs w A n l) (ht : Tab w) (hnc : n ≤ c) :
    Calls Tryz.prog 50 #[.slice A n c] w (RetO w (openL l)) := by
  by_cases h4 : n < 4
  · have hd : decide ((n : Int) - 4 < 0) = true := by simp; omega
    have HO : Hid (openL l = ([], false)) := by
      unfold openL
      rw [if_pos (.inl (by rw [hB.len]; exact h4))]
      exact Lib.hid rfl
    go_enter Tryz.func50, Tryz.ntmps50
    go_wp2_with fail
    go_quiet (fail)
    go_wp2_with fail
    go_ret2
    exact ⟨none, 0, 0, by rw [HO.out]; rfl, by rw [HO.out]; exact Ow.nil, below_drewN (Below.refl _ _) nq⟩
  · obtain ⟨m, hm⟩ : ∃ m, n = m + 4 := ⟨n - 4, by omega⟩
    have e4 : (n : Int) - 4 = (m : Int) := by omega
    have hd : decide ((m : Int) < 0) = false := by simp
    have hcm : ¬ c = m := by omega
    have b1 : (m : Int) ≤ (c : Int) := by omega
    have b2 : (0 : Int) ≤ (m : Int) := by omega
    have b3 : (m : Int) ≤ (n : Int) := by omega
    have b4 : m ≤ n := by omega
    have HM := Lib.hid hm
    clear hm
    have hCut := hB.cut b4 hnc
    rw [if_neg hcm] at hCut
    have hUp := hB.upto b4
    have HWd := Lib.hid (fun (g : Nat) (W : World) (hR : Rd W g ⟨l.drop m, false⟩) => readWord_word (by rw [List.length_drop, hB.len]; omega) (readWord_any g _ W hR))
    have HSm := Lib.hid (fun (W : World) (hb : Below w.heap.size w W) => sum_any A m c (l.take m) W (by omega) (hUp.below hb) (ht.below hb))
    have HO : Hid (openL l = if leN (l.drop m) ≠ crcSum (l.take m) then ([], false) else (l.take m, true)) := openL_eq (by rw [hB.len]; exact HM.out)
    by_cases hx : leN (l.drop m) = crcSum (l.take m)
    · have hneq : (((leN (l.drop m) : Nat) : Int) != ((crcSum (l.take m) : Nat) : Int)) = false := by simp [hx]
      have HO2 : Hid (openL l = (l.take m, true)) := by rw [HO.out, if_neg (by simpa using hx)]; exact Lib.hid rfl
      clear hx HO
      generalize leN (l.drop m) = x at *
      generalize crcSum (l.take m) = y at *
      go_enter Tryz.func50, Tryz.ntmps50
      go_wp2_with fail
      go_region_held3 (fun w' => Below w.heap.size w w') (first | exact S2 | exact S1 | exact (Below.refl _ _).drew)
        (first
          | (go_at_call 43; refine (from_any _ _ _ _ _ (by omega) (hCut.below (Below.refl _ _).drew)).mono ?_; rintro e w1 ⟨g, rfl, hR1, hg1, hb1⟩; have S1 : Below w.heap.size w w1 := bel_step (Below.refl _ _).drew hb1)
          | (go_at_call 68; refine (HWd.out _ _ hR1).mono ?_; rintro e w2 ⟨rfl, hg2⟩; have S2 : Below w.heap.size w w2 := below_only S1 hg2 hg1 S1.size)
          | (go_at_call 69; refine (HSm.out _ S2).mono ?_; rintro e w3 ⟨rfl, rfl⟩))
      go_wp2_with fail
      refine (clone_any A m c _ w2 (by omega) (hUp.below S2)).mono ?_
      rintro e w3 ⟨A3, n3, c3, rfl, ho3, hb3⟩
      go_wp2_with fail
      go_ret2
      rw [HO2.out]
      exact ⟨A3, n3, c3, rfl, ho3.mono S2.size, bel_step S2 hb3⟩
    · have hneq : (((leN (l.drop m) : Nat) : Int) != ((crcSum (l.take m) : Nat) : Int)) = true := by rw [bne_iff_ne]; omega
      have HO2 : Hid (openL l = ([], false)) := by rw [HO.out, if_pos (by simpa using hx)]; exact Lib.hid rfl
      clear hx HO
      generalize leN (l.drop m) = x at *
      generalize crcSum (l.take m) = y at *
      go_enter Tryz.func50, Tryz.ntmps50
      go_wp2_with fail
      go_region_held3 (fun w' => Below w.heap.size w w') (first | exact S2 | exact S1 | exact (Below.refl _ _).drew)
        (first
          | (go_at_call 43; refine (from_any _ _ _ _ _ (by omega) (hCut.below (Below.refl _ _).drew)).mono ?_; rintro e w1 ⟨g, rfl, hR1, hg1, hb1⟩; have S1 : Below w.heap.size w w1 := bel_step (Below.refl _ _).drew hb1)
          | (go_at_call 68; refine (HWd.out _ _ hR1).mono ?_; rintro e w2 ⟨rfl, hg2⟩; have S2 : Below w.heap.size w w2 := below_only S1 hg2 hg1 S1.size)
          | (go_at_call 69; refine (HSm.out _ S2).mono ?_; rintro e w3 ⟨rfl, rfl⟩))
      go_wp2_with fail
      go_ret2
      rw [HO2.out]
      exact ⟨none, 0, 0, rfl, Ow.nil, S2⟩
end Go.Proofs.YtfepinnfhcjopaaGreatDoor
end
section
namespace Go.Proofs.YtfepinnfhcjopaaGreatDoor
open Go.RowKit Go.Nst
set_option maxRecDepth 100000

theorem opened_ab : openL (sealL [97, 98]) = ([97, 98], true) := by decide +kernel
theorem opened_abcdef : openL [97, 98, 99, 100, 101, 102] = ([], false) := by decide +kernel
theorem sum_digits : crcSum [49, 50, 51, 52, 53, 54, 55, 56, 57] = 3421780262 := by decide +kernel
theorem more_digits : crcMore (crcSum [49, 50, 51, 52, 53]) [54, 55, 56, 57] = 3421780262 := by decide +kernel

end Go.Proofs.YtfepinnfhcjopaaGreatDoor
end
section
namespace Go.Proofs.YtfepinnfhcjopaaGreatDoor
open Go.RowKit Go.Nst
set_option maxRecDepth 100000

theorem refSeal_any (A : Option Addr) (n c : Nat) (l : List UInt8) (w : World) (hn : n ≤ 140737488350000) (hB : Bs w A n l) :
    Calls Tryz.prog 34 #[.slice A n c] w (RetB w (sealL l)) := by
  have hO : Ow (w.alloc (.cells #[] 5)) w.heap.size (some ⟨w.heap.size, 0, none⟩) 0 0 [] := Ow.made w [] #[] rfl (by simp [maxLen]) (Nat.le_refl _)
  have hB1 := hB.alloc (.cells #[] 5)
  have hsl := crcSum_lt l
  have HE : Hid (l ++ wordL (crcSum l) = sealL l) := rfl
  have HS := Lib.hid (fun W (hb : Below w.heap.size w W) => refSum_any A n c l W (by omega) (hB.below hb))
  generalize crcSum l = s at *
  go_enter Tryz.func34, Tryz.ntmps34
  go_wp2_with (at_builtin; have _t := hO; refine wpList_appBg _ iBytes rfl rfl rfl hO rfl hB1 n l (by simp) rfl (by omega) (by simp) ?_; intro A' c' w' ho hb _ _; clear hO; have hb3 : Below w.heap.size w w' := ((Below.refl _ _).alloc (Nat.le_refl _) _).trans hb)
  refine (HS.out w' hb3).mono ?_
  rintro e w2 ⟨rfl, rfl⟩
  go_wp2_with fail
  refine (refWord_any s hsl w').mono ?_
  rintro e w2 ⟨A2, n2, c2, rfl, ho2, hb2⟩
  have hn2 : n2 = 4 := by have := ho2.len; simpa [wordL] using this.symm
  subst hn2
  have ho1 := ho.below hb2
  have hb4 := bel_step hb3 hb2
  go_wp2_with (at_builtin; refine wpList_appBg _ iBytes rfl rfl rfl ho1 rfl ho2.bs (n + 4) (sealL l) rfl HE.out (by omega) hb4.size ?_; intro A3 c3 w3 ho3 hb3' _ _)
  try go_ret
  exact RetB.of rfl ho3 (hb4.trans hb3')

theorem leN_word (d : List UInt8) (hd : d.length = 4) : wordL (leN d) = d := by
  match d, hd with
  | [a, b, c, e], _ =>
    have ha := a.toNat_lt
    have hb := b.toNat_lt
    have hc := c.toNat_lt
    have he := e.toNat_lt
    simp only [leN, wordL]
    have h1 : (a.toNat + 256 * (b.toNat + 256 * (c.toNat + 256 * (e.toNat + 256 * 0)))) % 256 = a.toNat := by omega
    have h2 : (a.toNat + 256 * (b.toNat + 256 * (c.toNat + 256 * (e.toNat + 256 * 0)))) / 256 % 256 = b.toNat := by omega
    have h3 : (a.toNat + 256 * (b.toNat + 256 * (c.toNat + 256 * (e.toNat + 256 * 0)))) / 65536 % 256 = c.toNat := by omega
    have h4 : (a.toNat + 256 * (b.toNat + 256 * (c.toNat + 256 * (e.toNat + 256 * 0)))) / 16777216 % 256 = e.toNat := by omega
    rw [h1, h2, h3, h4]
    simp
theorem word_leN (s : Nat) (hs : s < 4294967296) : leN (wordL s) = s := by
  simp only [wordL, leN, UInt8.toNat_ofNat']
  omega
theorem seal_iff (l : List UInt8) (m : Nat) (hl : l.length = m + 4) : sealL (l.take m) = l ↔ leN (l.drop m) = crcSum (l.take m) := by
  have hd : (l.drop m).length = 4 := by rw [List.length_drop]; omega
  constructor
  · intro h
    have : l.drop m = wordL (crcSum (l.take m)) := by
      have h2 : (sealL (l.take m)).drop m = l.drop m := by rw [h]
      rw [← h2]
      unfold sealL
      rw [List.drop_append_of_le_length (by simp; omega), List.drop_eq_nil_of_le (by simp; omega)]
      rfl
    rw [this, word_leN _ (crcSum_lt _)]
  · intro h
    unfold sealL
    rw [← h, leN_word _ hd, List.take_append_drop]

def RetP (w : World) (r : List UInt8 × Bool) (e : Ending) (w' : World) : Prop := ∃ A n c, e = .returned (.tuple #[.slice A n c, .bool r.2]) ∧ Bs w' A n r.1 ∧ Below w.heap.size w w' ∧ n ≤ c

set_option maxHeartbeats 1000000 in
theorem refOpen_any (A : Option Addr) (n c : Nat) (l : List UInt8) (w : World) (hn : n ≤ 140737488350000) (hB : Bs w A n l) (hnc : n ≤ c) :
    Calls Tryz.prog 54 #[.slice A n c] w (RetP w (openL l)) := by
  by_cases h4 : n < 4
  · have hd : decide ((n : Int) - 4 < 0) = true := by simp; omega
    have HO : Hid (openL l = ([], false)) := by
      unfold openL
      rw [if_pos (.inl (by rw [hB.len]; exact h4))]
      exact Lib.hid rfl
    go_enter Tryz.func54, Tryz.ntmps54
    go_wp2_with fail
    go_quiet (fail)
    go_wp2_with fail
    go_ret2
    exact ⟨none, 0, 0, by rw [HO.out]; rfl, by rw [HO.out]; exact Bs.nil, below_drewN (Below.refl _ _) nq, Nat.le_refl _⟩
  · obtain ⟨m, hm⟩ : ∃ m, n = m + 4 := ⟨n - 4, by omega⟩
    have e4 : (n : Int) - 4 = (m : Int) := by omega
    have hd : decide ((m : Int) < 0) = false := by simp
    have b1 : (m : Int) ≤ (c : Int) := by omega
    have b2 : (0 : Int) ≤ (m : Int) := by omega
    have b3 : (m : Int) ≤ (n : Int) := by omega
    have b4 : m ≤ n := by omega
    have HI := Lib.hid (seal_iff l m (by rw [hB.len]; exact hm))
    have HO : Hid (openL l = if leN (l.drop m) ≠ crcSum (l.take m) then ([], false) else (l.take m, true)) := openL_eq (by rw [hB.len]; exact hm)
    clear hm
    have hUp := hB.upto b4
    have HS := Lib.hid (fun W (hb : Below w.heap.size w W) => refSeal_any A m c (l.take m) W (by omega) (hUp.below hb))
    have ks := fun W (hb : Below w.heap.size w W) => (hB.below hb).str (P := Tryz.prog) 22 9 5 c Tryz.underlying22 Tryz.underlying5 Tryz.underlying9
    by_cases hx : sealL (l.take m) = l
    · have heq : (sealL (l.take m) == l) = true := by rw [beq_iff_eq]; exact hx
      have HO2 : Hid (openL l = (l.take m, true)) := by rw [HO.out, if_neg (by simpa using HI.out.1 hx)]; exact Lib.hid rfl
      clear hx HO
      generalize sealL (l.take m) = y at *
      go_enter Tryz.func54, Tryz.ntmps54
      go_wp2_with fail
      refine wp_region_seq (by kernel_rfl) [(0, true), (1, true), (2, true), (3, true), (4, true), (5, true), (8, true), (9, true), (6, false), (7, true), (10, true), (11, true)] (by kernel_rfl) rfl (by kernel_rfl) ?_
      intro w0 hb0
      have tr0 : ∀ W, Below w0.heap.size w0 W → Below w.heap.size w W := fun W h => bel_step hb0 h
      iterate 8 (refine wpSeq_take (o := ⟨_, _, _, _, _, _⟩) (v := ?_) rfl rfl ?_ ?_; rotate_left; (focus (intro W hW; go_simp; first | done | with_reducible rfl)); simp only [Act.put, List.setIfInBounds_toArray, List.set_cons_zero, List.set_cons_succ])
      refine wpSeq_exec (o := ⟨_, _, _, _, _, _⟩) rfl rfl (fun K hK => ?_)
      go_simp
      refine (HS.out w0 hb0).mono ?_
      rintro e w1 ⟨A1, n1, c1, rfl, ho1, hb1⟩
      go_wp2_with fail
      refine hK _ _ hb1 ?_
      clear hK K
      have S1 := bel_step hb0 hb1
      have ks1 := fun W (hb : Below w1.heap.size w1 W) => (ho1.bs.below hb).str (P := Tryz.prog) 22 9 5 c1 Tryz.underlying22 Tryz.underlying5 Tryz.underlying9
      iterate 3 (refine wpSeq_take (o := ⟨_, _, _, _, _, _⟩) (v := ?_) rfl rfl ?_ ?_; rotate_left; (focus (intro W hW; go_simp; first | done | with_reducible rfl)); simp only [Act.put, List.setIfInBounds_toArray, List.set_cons_zero, List.set_cons_succ])
      refine wpSeq_nil ?_
      go_wp2_with fail
      go_ret2
      rw [HO2.out]
      exact ⟨A, m, c, rfl, hUp.below S1, S1, by omega⟩
    · have heq : (sealL (l.take m) == l) = false := by rw [beq_eq_false_iff_ne]; exact hx
      have HO2 : Hid (openL l = ([], false)) := by rw [HO.out, if_pos (by intro h; exact hx (HI.out.2 h))]; exact Lib.hid rfl
      clear hx HO
      generalize sealL (l.take m) = y at *
      go_enter Tryz.func54, Tryz.ntmps54
      go_wp2_with fail
      refine wp_region_seq (by kernel_rfl) [(0, true), (1, true), (2, true), (3, true), (4, true), (5, true), (8, true), (9, true), (6, false), (7, true), (10, true), (11, true)] (by kernel_rfl) rfl (by kernel_rfl) ?_
      intro w0 hb0
      have tr0 : ∀ W, Below w0.heap.size w0 W → Below w.heap.size w W := fun W h => bel_step hb0 h
      iterate 8 (refine wpSeq_take (o := ⟨_, _, _, _, _, _⟩) (v := ?_) rfl rfl ?_ ?_; rotate_left; (focus (intro W hW; go_simp; first | done | with_reducible rfl)); simp only [Act.put, List.setIfInBounds_toArray, List.set_cons_zero, List.set_cons_succ])
      refine wpSeq_exec (o := ⟨_, _, _, _, _, _⟩) rfl rfl (fun K hK => ?_)
      go_simp
      refine (HS.out w0 hb0).mono ?_
      rintro e w1 ⟨A1, n1, c1, rfl, ho1, hb1⟩
      go_wp2_with fail
      refine hK _ _ hb1 ?_
      clear hK K
      have S1 := bel_step hb0 hb1
      have ks1 := fun W (hb : Below w1.heap.size w1 W) => (ho1.bs.below hb).str (P := Tryz.prog) 22 9 5 c1 Tryz.underlying22 Tryz.underlying5 Tryz.underlying9
      iterate 3 (refine wpSeq_take (o := ⟨_, _, _, _, _, _⟩) (v := ?_) rfl rfl ?_ ?_; rotate_left; (focus (intro W hW; go_simp; first | done | with_reducible rfl)); simp only [Act.put, List.setIfInBounds_toArray, List.set_cons_zero, List.set_cons_succ])
      refine wpSeq_nil ?_
      go_wp2_with fail
      go_ret2
      rw [HO2.out]
      exact ⟨none, 0, 0, rfl, Bs.nil, S1, Nat.le_refl _⟩

theorem open_seal (l : List UInt8) : openL (sealL l) = (l, true) := by
  have hl : (sealL l).length = l.length + 4 := by simp [sealL, wordL]
  rw [openL_eq hl]
  have h1 : (sealL l).take l.length = l := by simp [sealL]
  have h2 : (sealL l).drop l.length = wordL (crcSum l) := by simp [sealL]
  rw [h1, h2, word_leN _ (crcSum_lt l), if_neg (by simp)]

end Go.Proofs.YtfepinnfhcjopaaGreatDoor
end
