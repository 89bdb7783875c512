/-
  CrcSums, CrcMores: the walks.
-/
import Derived.Test.YtgklbejnbplbgaaDoorCrcL
namespace Go.Proofs.YtgklbejnbplbgaaDoor
open Go.RowKit Go.Nst
set_option maxRecDepth 100000

set_option maxHeartbeats 1000000 in
theorem crcSums_walk (A B : Option Addr) (n c m d : Nat) (la lb : List UInt8) (w : World) (hA : Bs w A n la) (hB : Bs w B m lb) (hn : n ≤ 9223372036854775807) (hm : m ≤ 9223372036854775807) (ht : Tab w) :
    Calls Tryd.prog 3 #[.slice A n c, .slice B m d] w (RetTrue w) := by
  by_cases hn3 : 3000 < n
  · go_enter Tryd.func3, Tryd.ntmps3
    go_wp2_with fail
    refine (lives02_any w ht).mono ?_
    rintro e w1 ⟨rfl, hb⟩
    go_wp2_with fail
    go_ret
    exact ⟨rfl, hb⟩
  by_cases hm3 : 3000 < m
  · go_enter Tryd.func3, Tryd.ntmps3
    go_wp2_with fail
    refine (lives02_any w ht).mono ?_
    rintro e w1 ⟨rfl, hb⟩
    go_wp2_with fail
    go_ret
    exact ⟨rfl, hb⟩
  have hsl := crcSum_lt la
  have HS := Lib.hid (show crcMore (crcSum la) lb = crcSum (la ++ lb) from crcMore_append 0 la lb)
  have Hsum := Lib.hid (sum_any A n c la w hn hA ht)
  have Href := Lib.hid (fun W (hb : Below w.heap.size w W) => refSum_any A n c la W hn (hA.below hb))
  generalize crcSum la = s at *
  go_enter Tryd.func3, Tryd.ntmps3
  go_wp2_with fail
  refine Hsum.out.mono ?_
  rintro e w0 ⟨rfl, rfl⟩
  go_wp2_with fail
  refine (lives02_any w ht).mono ?_
  rintro e w1 ⟨rfl, hb1⟩
  go_wp2_with fail
  refine (Href.out w1 hb1).mono ?_
  rintro e w2 ⟨rfl, rfl⟩
  go_wp2_with fail
  refine (more_any s hsl B m d lb w1 hm (hB.below hb1) (ht.below hb1)).mono ?_
  rintro e w2 ⟨rfl, rfl⟩
  have hO : Ow (w1.alloc (.cells #[] 5)) w1.heap.size (some ⟨w1.heap.size, 0, none⟩) 0 0 [] := Ow.made w1 [] #[] rfl (by simp [maxLen]) (Nat.le_refl _)
  have hA1 := (hA.below hb1).alloc (.cells #[] 5)
  have hB1 := (hB.below hb1).alloc (.cells #[] 5)
  have HL := Lib.hid hA.len
  rw [HS.out]
  go_wp2_with (first
    | (at_builtin; have _t := hO; refine wpList_appBg _ iBytes rfl rfl rfl hO rfl hA1 n la (by simp) rfl (by omega) (by simp) ?_; intro A' c' w' ho hb _ _; clear hO; have hb3 : Below w1.heap.size w1 w' := ((Below.refl _ _).alloc (Nat.le_refl _) _).trans hb)
    | (at_builtin; refine wpList_appBg _ iBytes rfl rfl rfl ho rfl ((hB.below hb1).below hb3) (n + m) (la ++ lb) rfl rfl (by omega) hb3.size ?_; intro A2' c2' w2' ho2 hb2 _ _))
  have hb4 := hb3.trans hb2
  refine (sum_any A2' (n + m) c2' (la ++ lb) w2' (by omega) ho2.bs (ht.below (bel_step hb1 hb4))).mono ?_
  rintro e w5 ⟨rfl, rfl⟩
  go_wp2_with fail
  go_ret
  exact ⟨rfl, bel_step hb1 hb4⟩

set_option maxHeartbeats 1000000 in
theorem crcMores_walk (s : Nat) (hs : s < 4294967296) (B : Option Addr) (m d : Nat) (lb : List UInt8) (w : World) (hB : Bs w B m lb) (hm : m ≤ 9223372036854775807) (ht : Tab w) :
    Calls Tryd.prog 4 #[.int .u32 s, .slice B m d] w (RetTrue w) := by
  by_cases hm3 : 3000 < m
  · go_enter Tryd.func4, Tryd.ntmps4
    go_wp2_with fail
    refine (lives02_any w ht).mono ?_
    rintro e w1 ⟨rfl, hb⟩
    go_wp2_with fail
    go_ret
    exact ⟨rfl, hb⟩
  have Hm := Lib.hid (fun W (hb : Below w.heap.size w W) => more_any s hs B m d lb W hm (hB.below hb) (ht.below hb))
  have Hr := Lib.hid (fun W (hb : Below w.heap.size w W) => refMore_any s hs B m d lb W hm (hB.below hb))
  have Hn := Lib.hid (fun W (hb : Below w.heap.size w W) => more_any s hs none 0 0 [] W (by omega) Bs.nil (ht.below hb))
  rw [crcMore_nil] at Hn
  generalize crcMore s lb = r at *
  go_enter Tryd.func4, Tryd.ntmps4
  go_wp2_with fail
  refine (lives02_any w ht).mono ?_
  rintro e w1 ⟨rfl, hb1⟩
  go_wp2_with fail
  refine (Hm.out w1 hb1).mono ?_
  rintro e w2 ⟨rfl, rfl⟩
  go_wp2_with fail
  refine (Hr.out w1 hb1).mono ?_
  rintro e w2 ⟨rfl, rfl⟩
  go_wp2_with fail
  refine (Hn.out w1 hb1).mono ?_
  rintro e w2 ⟨rfl, rfl⟩
  go_wp2_with fail
  go_ret
  exact ⟨rfl, hb1⟩
end Go.Proofs.YtgklbejnbplbgaaDoor
