/-
  crc.More, crc.Sum and the reference's: what each returns.
-/
import Derived.Test.YtgklbejnbplbgaaDoorRows
import Derived.Test.YtgklbejnbplbgaaDoorWords
import Derived.Test.YtgklbejnbplbgaaDoorCrcPlain
namespace Go.Proofs.YtgklbejnbplbgaaDoor
open Go.RowKit Go.Nst
set_option maxRecDepth 100000

/-- the table lies in the block of its variable -/
def Tab (w : World) : Prop := ∀ k, k < 16 → w.cell? ⟨0, k, none⟩ = some (.int .u32 (halfT k : Int))
theorem Tab.below {w w' : World} (h : Tab w) (hb : Below w.heap.size w w') : Tab w' := fun k hk => by
  have h1 := h k hk
  rw [hb.cell (p := ⟨0, k, none⟩) (World.block_lt_of_cell? w _ h1)]
  exact h1

theorem bits_xor (a b : Nat) (ha : a < 4294967296) (hb : b < 4294967296) : bits .xor .u32 (a : Int) (b : Int) = ((a ^^^ b : Nat) : Int) := u32_xor_nat a b ha hb
theorem bits_and15 (a : Nat) (ha : a < 4294967296) : bits .and .u32 (a : Int) 15 = ((a % 16 : Nat) : Int) := by
  have := u32_and_nat a 15 ha (by omega)
  rw [nat_mask4] at this
  exact this
theorem bits_xor16 (a b : Nat) (ha : a < 4294967296) (hb : b < 4294967296) : bits .xor .u32 (a : Int) ((b : Int) / 16) = ((a ^^^ (b / 16) : Nat) : Int) := by
  have := u32_xor_nat a (b / 16) ha (by omega)
  rw [Int.natCast_ediv] at this
  exact this
theorem bits_not (a : Nat) (ha : a < 4294967296) : bits .xor .u32 IntKind.u32.max (a : Int) = ((a ^^^ 4294967295 : Nat) : Int) := by
  have := u32_xor_nat 4294967295 a (by omega) ha
  rw [Nat.xor_comm] at this
  exact this

theorem take_snoc {l : List UInt8} {k : Nat} {u : UInt8} (h : l[k]? = some u) : l.take (k + 1) = l.take k ++ [u] := by
  rw [List.take_add_one, h]; rfl

theorem more_round {l : List UInt8} {k c y y1 z1 z2 : Nat} {u : UInt8} (hu : l[k]? = some u) (e0 : y = crcL c (l.take k)) (e1 : y1 = y ^^^ u.toNat) (e2 : z1 = halfT (y1 % 16) ^^^ (y1 / 16)) (e3 : z2 = halfT (z1 % 16) ^^^ (z1 / 16)) :
    z2 = crcL c (l.take (k + 1)) := by
  rw [take_snoc hu, crcL_snoc, ← e0, e3, e2, e1]
  rfl

theorem more_end {l : List UInt8} {k c y res : Nat} (hl : l.length = k) (e0 : y = crcL c (l.take k)) (hf : res = crcL c l ^^^ 4294967295) : res = y ^^^ 4294967295 := by
  rw [List.take_of_length_le (by omega)] at e0
  rw [hf, e0]

set_option maxHeartbeats 400000 in
theorem more_any (s : Nat) (hs : s < 4294967296) (A : Option Addr) (n c : Nat) (l : List UInt8) (w : World) (hn : n ≤ 9223372036854775807) (hB : Bs w A n l) (ht : Tab w) :
    Calls Tryd.prog 14 #[.int .u32 s, .slice A n c] w fun e w' => e = .returned (.int .u32 (crcMore s l : Int)) ∧ w = w' := by
  have e0 := bits_not s hs
  obtain ⟨s1, hs1⟩ : ∃ s1, s1 = s ^^^ 4294967295 := ⟨_, rfl⟩
  rw [← hs1] at e0
  have hs1l : s1 < 4294967296 := by rw [hs1]; exact xor_lt hs (by omega)
  have HF : Hid (crcMore s l = crcL s1 l ^^^ 4294967295) := by rw [hs1]; rfl
  clear hs1
  have HL := Lib.hid hB.len
  generalize hres : crcMore s l = res at *
  have HR := Lib.hid hres
  clear hres
  go_enter Tryd.func14, Tryd.ntmps14
  go_wp2
  go_loop [5, 12] (fun x i => ∃ k y : Nat, k ≤ n ∧ i = .int .i64 k ∧ x = .int .u32 (y : Int) ∧ y < 4294967296 ∧ Hid (y = crcL s1 (l.take k))) (fun _ i => n - (intOf i).toNat)
  case atStart => exact ⟨0, s1, Nat.zero_le _, rfl, rfl, hs1l, rfl⟩
  case round =>
    obtain ⟨k, y, hk, rfl, rfl, hy, HY⟩ := hrel
    by_cases hlt : k < n
    · obtain ⟨u, b, off, rfl, hu, hb, hc, h256⟩ := hB.at hlt
      have e1 := bits_xor y u.toNat hy (u8_lt u)
      obtain ⟨y1, hy1⟩ : ∃ x, x = y ^^^ u.toNat := ⟨_, rfl⟩
      rw [← hy1] at e1
      have hl1 : y1 < 4294967296 := by rw [hy1]; exact xor_lt hy (u8_lt u)
      have e2 := bits_and15 y1 hl1
      have c2 := ht (y1 % 16) (by omega)
      have hm1 : y1 % 16 < 16 := by omega
      have e3 := bits_xor16 (halfT (y1 % 16)) y1 (halfT_lt _) hl1
      obtain ⟨z1, hz1⟩ : ∃ x, x = halfT (y1 % 16) ^^^ (y1 / 16) := ⟨_, rfl⟩
      rw [← hz1] at e3
      have hl2 : z1 < 4294967296 := by rw [hz1]; exact xor_lt (halfT_lt _) (by omega)
      have e4 := bits_and15 z1 hl2
      have c4 := ht (z1 % 16) (by omega)
      have hm2 : z1 % 16 < 16 := by omega
      have e5 := bits_xor16 (halfT (z1 % 16)) z1 (halfT_lt _) hl2
      obtain ⟨z2, hz2⟩ : ∃ x, x = halfT (z1 % 16) ^^^ (z1 / 16) := ⟨_, rfl⟩
      rw [← hz2] at e5
      have hl3 : z2 < 4294967296 := by rw [hz2]; exact xor_lt (halfT_lt _) (by omega)
      have HN : Hid (z2 = crcL s1 (l.take (k + 1))) := more_round hu.out HY.out hy1 hz1 hz2
      clear hy1 hz1 hz2
      generalize halfT (y1 % 16) = t1 at *
      generalize halfT (z1 % 16) = t2 at *
      go_wp2
      go_round
      case rel => exact ⟨k + 1, z2, by omega, by go_num, rfl, hl3, HN⟩
      case measure => simp [intOf]; omega
    · have hkn : k = n := by omega
      subst hkn
      have e1 := bits_not y hy
      have HE : Hid (res = y ^^^ 4294967295) := more_end HL.out HY.out HF.out
      generalize y ^^^ 4294967295 = r at *
      go_wp2
      go_ret
      exact ⟨by rw [HE.out]; rfl, rfl⟩
end Go.Proofs.YtgklbejnbplbgaaDoor
