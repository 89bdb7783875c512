/-
  lives; the four statements' walks.
-/
import Derived.Test.YtedliepfaibefaaGreatDoorOlE
namespace Go.Proofs.YtedliepfaibefaaGreatDoor
open Go.RowKit Go.Nst
set_option maxRecDepth 100000
set_option linter.unusedVariables false
set_option linter.unusedSimpArgs false

def olV : Ol := ⟨1, 4, 5, 0, 3, [], []⟩
theorem lv16_ok : olV.ok = true := by decide +kernel
theorem lv16_no : (⟨0, 0, 0, 0, 0, [], []⟩ : Ol).ok = false := by decide +kernel
theorem lv16_put : olL olV = [1, 4, 10, 6] := by decide +kernel
theorem lv16_get : getO [1, 4, 10, 6] = some olV := by decide +kernel
theorem lv16_none : getO [1, 6] = none := by decide +kernel
theorem lv16_second : secondO olV = [⟨2, 8, 5, 0, 1, [], []⟩, ⟨2, 9, 5, 0, 1, [], []⟩] := by decide +kernel
theorem lv16_third : thirdO olV = [⟨8, 5, 0, 1, [], [], []⟩, ⟨9, 5, 0, 1, [], [], []⟩] := by decide +kernel
theorem lv16_ev : eventsL [1, 4, 10, 6] = some [⟨8, 5, 0, 1, [], [], []⟩, ⟨9, 5, 0, 1, [], [], []⟩] := by
  have h : getE [1, 4, 10, 6] = none := by decide +kernel
  unfold eventsL
  rw [h, lv16_get]
  simp only
  rw [lv16_third]
theorem lv16_ev0 : eventsL [4, 1] = none := by
  have h : getE [4, 1] = none := by decide +kernel
  have h2 : getO [4, 1] = none := by decide +kernel
  unfold eventsL
  rw [h, h2]
set_option maxHeartbeats 4000000 in
theorem lives16_any (w : World) (hN : Nms w) : Calls Tryz.prog 6 #[] w (RetTrue w) := by
  have HP := Lib.hid (fun W h => oldPut_yes olV W h lv16_ok)
  have HP0 := Lib.hid (fun W h => oldPut_no ⟨0, 0, 0, 0, 0, [], []⟩ W (by simp) (by simp) h lv16_no)
  have HG := Lib.hid (fun A n c W (h : Bs W A n [1, 4, 10, 6]) k => oldGet_any A n c [1, 4, 10, 6] W (by have := h.len; simp at this; omega) h k)
  have HG2 := Lib.hid (fun A n c W (h : Bs W A n [1, 6]) k => oldGet_any A n c [1, 6] W (by have := h.len; simp at this; omega) h k)
  have HE := Lib.hid (fun A n c W (h : Bs W A n [1, 4, 10, 6]) k => events_any A n c [1, 4, 10, 6] W (by have := h.len; simp at this; omega) h k)
  have HE2 := Lib.hid (fun A n c W (h : Bs W A n [4, 1]) k => events_any A n c [4, 1] W (by have := h.len; simp at this; omega) h k)
  have HS := Lib.hid (fun W h => second_any olV W (by decide) (by decide) h)
  have HT := Lib.hid (fun W h => third_any olV W (by decide) (by decide) h)
  have HC := Lib.hid (fun W h => oldCheck_any 1 4 5 0 3 [] [] W (by simp) (by simp) h)
  have HM := Lib.hid (fun A B m m2 c d W h1 h2 => same14_any [⟨8, 5, 0, 1, [], [], []⟩, ⟨9, 5, 0, 1, [], [], []⟩] (by simp) A B m m2 c d W h1 h2)
  rw [lv16_put] at HP
  rw [lv16_get] at HG
  rw [lv16_none] at HG2
  rw [lv16_ev] at HE
  rw [lv16_ev0] at HE2
  rw [lv16_second] at HS
  rw [lv16_third] at HT
  rw [show Ol.ok ⟨1, 4, 5, 0, 3, [], []⟩ = true from lv16_ok] at HC
  simp only [OC, getOV, RetEvs, olV, okE, if_true, Bool.false_eq_true, if_false] at HP HP0 HG HG2 HE HE2 HS HT HC
  go_enter Tryz.func6, Tryz.ntmps6
  have B0 := bel_alloc (Below.refl w.heap.size w) (.cells #[.int .i64 1, .int .i64 4, .int .i64 5, .int .i64 0, .int .i64 3, .string ⟨#[]⟩, .string ⟨#[]⟩] 25)
  have hx0 := Blk.new w 25 #[.int .i64 1, .int .i64 4, .int .i64 5, .int .i64 0, .int .i64 3, .string ⟨#[]⟩, .string ⟨#[]⟩]
  have hN0 := hN.below B0
  go_wp2_with fail
  (with_reducible refine (HP.out _ hN0).mono ?_)
  rintro e w1 ⟨A1, n1, c1, rfl, ho1, hb1⟩
  have B1 := bel_step B0 hb1
  have hx1 := hx0.below hb1 hx0.lt
  have hN1 := hN.below B1
  clear hb1 B0 hx0 hN0
  go_wp2_with fail
  (with_reducible refine (HG.out _ _ _ _ ho1.bs hN1).mono ?_)
  rintro e w2 ⟨rfl, hb2⟩
  have B2 := bel_alloc (bel_step B1 hb2) (.cells #[.int .i64 1, .int .i64 4, .int .i64 5, .int .i64 0, .int .i64 3, .string ⟨#[]⟩, .string ⟨#[]⟩] 25)
  have hx2 := (hx1.below hb2 hx1.lt).alloc (.cells #[.int .i64 1, .int .i64 4, .int .i64 5, .int .i64 0, .int .i64 3, .string ⟨#[]⟩, .string ⟨#[]⟩] 25)
  have hy2 := Blk.new w2 25 #[.int .i64 1, .int .i64 4, .int .i64 5, .int .i64 0, .int .i64 3, .string ⟨#[]⟩, .string ⟨#[]⟩]
  have ho2 := (ho1.bs.below hb2).alloc (.cells #[.int .i64 1, .int .i64 4, .int .i64 5, .int .i64 0, .int .i64 3, .string ⟨#[]⟩, .string ⟨#[]⟩] 25)
  have hN2 := hN.below B2
  clear hb2 B1 hx1 hN1 ho1
  go_wp2_with fail
  (with_reducible refine (HE.out _ _ _ _ ho2 hN2).mono ?_)
  rintro e w3 ⟨A3, c3, he, ho3, hb3⟩
  obtain rfl : e = .returned (.tuple #[.slice A3 2 c3, .int .i64 0]) := he
  have hR3 := Rw.of_own ho3
  have K3 := bel_alloc hb3 (.cells #[.int .u8 4, .int .u8 1] 5)
  have B3 := bel_step B2 K3
  have hx3 := hx2.below K3 hx2.lt
  have hy3 := hy2.below K3 hy2.lt
  have ho3b := ho2.below K3
  have hR3 := hR3.below (bel_alloc (Below.refl _ _) (.cells #[.int .u8 4, .int .u8 1] 5))
  have hN3 := hN.below B3
  have hc3 := Bs.const w3 [4, 1] #[.int .u8 4, .int .u8 1] 5 (0, 0) 2 rfl rfl
  clear hb3 B2 hx2 hy2 hN2 ho2 ho3 K3
  go_wp2_with fail
  (with_reducible refine (HE2.out _ _ _ _ hc3 hN3).mono ?_)
  rintro e w4 ⟨he, hb4⟩
  obtain rfl : e = .returned (.tuple #[.slice none 0 0, .int .i64 150]) := he
  have B4 := bel_step B3 hb4
  have hx4 := hx3.below hb4 hx3.lt
  have hy4 := hy3.below hb4 hy3.lt
  have ho4 := ho3b.below hb4
  have hR4 := hR3.below hb4
  have hN4 := hN.below B4
  clear hb4 B3 hx3 hy3 hN3 ho3b hR3 hc3
  go_wp2_with fail
  (with_reducible refine (HP0.out _ hN4).mono ?_)
  rintro e w5 ⟨rfl, hb5⟩
  have K5 := bel_alloc hb5 (.cells #[.int .u8 1, .int .u8 6] 5)
  have B5 := bel_step B4 K5
  have hx5 := hx4.below K5 hx4.lt
  have hy5 := hy4.below K5 hy4.lt
  have ho5 := ho4.below K5
  have hR5 := hR4.below K5
  have hN5 := hN.below B5
  have hc5 := Bs.const w5 [1, 6] #[.int .u8 1, .int .u8 6] 5 (0, 0) 2 rfl rfl
  clear hb5 B4 hx4 hy4 hN4 ho4 hR4 K5
  go_wp2_with fail
  (with_reducible refine (HG2.out _ _ _ _ hc5 hN5).mono ?_)
  rintro e w6 ⟨rfl, hb6⟩
  have K6 := bel_alloc hb6 (.cells #[.int .i64 0, .int .i64 0, .int .i64 0, .int .i64 0, .int .i64 0, .string ⟨#[]⟩, .string ⟨#[]⟩] 25)
  have B6 := bel_step B5 K6
  have hx6 := hx5.below K6 hx5.lt
  have hy6 := hy5.below K6 hy5.lt
  have ho6 := ho5.below K6
  have hR6 := hR5.below K6
  clear hb6 B5 hx5 hy5 hN5 ho5 hR5 K6 hc5
  have x0 := hx6.cell 0
  have x1 := hx6.cell 1
  have x2 := hx6.cell 2
  have x3 := hx6.cell 3
  have x4 := hx6.cell 4
  have x5 := hx6.cell 5
  have x6 := hx6.cell 6
  try simp only [OC] at x0 x1 x2 x3 x4 x5 x6
  simp at x0 x1 x2 x3 x4 x5 x6
  have y0 := hy6.cell 0
  have y1 := hy6.cell 1
  have y2 := hy6.cell 2
  have y3 := hy6.cell 3
  have y4 := hy6.cell 4
  have y5 := hy6.cell 5
  have y6 := hy6.cell 6
  try simp only [OC] at y0 y1 y2 y3 y4 y5 y6
  simp at y0 y1 y2 y3 y4 y5 y6
  have hcv := ho6.str (P := Tryz.prog) 22 9 5 c1 Tryz.underlying22 Tryz.underlying5 Tryz.underlying9
  have E6 := bel_alloc (Below.refl _ (w6.alloc (.cells #[.int .i64 0, .int .i64 0, .int .i64 0, .int .i64 0, .int .i64 0, .string ⟨#[]⟩, .string ⟨#[]⟩] 25))) (.cells #[.int .i64 8, .int .i64 5, .int .i64 0, .int .i64 1, .string ⟨#[]⟩, .string ⟨#[]⟩, .string ⟨#[]⟩, .int .i64 9, .int .i64 5, .int .i64 0, .int .i64 1, .string ⟨#[]⟩, .string ⟨#[]⟩, .string ⟨#[]⟩] 45)
  have hR7 : Rw _ A3 2 (evsC [⟨8, 5, 0, 1, [], [], []⟩, ⟨9, 5, 0, 1, [], [], []⟩]) := hR6.below E6
  have hL7 : Rw ((w6.alloc (.cells #[.int .i64 0, .int .i64 0, .int .i64 0, .int .i64 0, .int .i64 0, .string ⟨#[]⟩, .string ⟨#[]⟩] 25)).alloc (.cells #[.int .i64 8, .int .i64 5, .int .i64 0, .int .i64 1, .string ⟨#[]⟩, .string ⟨#[]⟩, .string ⟨#[]⟩, .int .i64 9, .int .i64 5, .int .i64 0, .int .i64 1, .string ⟨#[]⟩, .string ⟨#[]⟩, .string ⟨#[]⟩] 45)) (some ⟨w6.heap.size + 1, 0, none⟩) 2 (evsC [⟨8, 5, 0, 1, [], [], []⟩, ⟨9, 5, 0, 1, [], [], []⟩]) := by
    refine .inr ⟨_, rfl, by simp, fun j u hu => ?_⟩
    have hb := (Blk.new (w6.alloc (.cells #[.int .i64 0, .int .i64 0, .int .i64 0, .int .i64 0, .int .i64 0, .string ⟨#[]⟩, .string ⟨#[]⟩] 25)) 45 #[.int .i64 8, .int .i64 5, .int .i64 0, .int .i64 1, .string ⟨#[]⟩, .string ⟨#[]⟩, .string ⟨#[]⟩, .int .i64 9, .int .i64 5, .int .i64 0, .int .i64 1, .string ⟨#[]⟩, .string ⟨#[]⟩, .string ⟨#[]⟩]).cell j
    have hsz6 : (w6.alloc (.cells #[.int .i64 0, .int .i64 0, .int .i64 0, .int .i64 0, .int .i64 0, .string ⟨#[]⟩, .string ⟨#[]⟩] 25)).heap.size = w6.heap.size + 1 := by simp
    rw [hsz6] at hb
    rw [hb]
    simpa [evsC, evC] using hu
  have B7 := bel_step B6 E6
  have hx7 := hx6.below E6 hx6.lt
  clear hR6
  go_wp2_with fail
  (with_reducible refine (HM.out _ _ 2 2 _ _ _ rfl rfl hR7 hL7).mono ?_)
  rintro e w8 ⟨rfl, hb8⟩
  have B8 := bel_step B7 hb8
  have hx8 := hx7.below hb8 hx7.lt
  have hN8 := hN.below B8
  have z0 := hx8.cell 0
  have z1 := hx8.cell 1
  have z2 := hx8.cell 2
  have z3 := hx8.cell 3
  have z4 := hx8.cell 4
  have z5 := hx8.cell 5
  have z6 := hx8.cell 6
  try simp only [OC] at z0 z1 z2 z3 z4 z5 z6
  simp at z0 z1 z2 z3 z4 z5 z6
  clear hb8 B7 hx7 x0 x1 x2 x3 x4 x5 x6 y0 y1 y2 y3 y4 y5 y6 hcv
  go_wp2_with fail
  (with_reducible refine (HS.out _ hN8).mono ?_)
  rintro e w9 ⟨A9, c9, rfl, ho9, hb9⟩
  have B9 := bel_step B8 hb9
  have hx9 := hx8.below hb9 hx8.lt
  have hN9 := hN.below B9
  have x0 := hx9.cell 0
  have x1 := hx9.cell 1
  have x2 := hx9.cell 2
  have x3 := hx9.cell 3
  have x4 := hx9.cell 4
  have x5 := hx9.cell 5
  have x6 := hx9.cell 6
  try simp only [OC] at x0 x1 x2 x3 x4 x5 x6
  simp at x0 x1 x2 x3 x4 x5 x6
  clear hb9 B8 hx8 ho9 z0 z1 z2 z3 z4 z5 z6 hN8
  go_wp2_with fail
  (with_reducible refine (HT.out _ hN9).mono ?_)
  rintro e wa ⟨Aa, ca, rfl, hoa, hba⟩
  have Ba := bel_step B9 hba
  have hxa := hx9.below hba hx9.lt
  have hNa := hN.below Ba
  have z0 := hxa.cell 0
  have z1 := hxa.cell 1
  have z2 := hxa.cell 2
  have z3 := hxa.cell 3
  have z4 := hxa.cell 4
  have z5 := hxa.cell 5
  have z6 := hxa.cell 6
  try simp only [OC] at z0 z1 z2 z3 z4 z5 z6
  simp at z0 z1 z2 z3 z4 z5 z6
  clear hba B9 hx9 hoa x0 x1 x2 x3 x4 x5 x6 hN9
  go_wp2_with fail
  (with_reducible refine (HC.out _ hNa).mono ?_)
  rintro e wb ⟨rfl, hbb⟩
  go_wp2_with fail
  go_ret
  exact ⟨rfl, bel_step Ba hbb⟩
end Go.Proofs.YtedliepfaibefaaGreatDoor
