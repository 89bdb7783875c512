/-
  Segments: lives.
  Segments: what is written is read, cut off or not (plain).
  Segments: SegReads, SegWrites walked.
-/
import Derived.Test.YtfepinnfhcjopaaGreatDoorSgE
section
namespace Go.Proofs.YtfepinnfhcjopaaGreatDoor
open Go.RowKit Go.Nst
set_option maxRecDepth 100000
set_option linter.unusedVariables false
set_option linter.unusedSimpArgs false

theorem lv18_ok : Ev.ok ⟨13, 0, 0, 5, [], [], []⟩ = true := by decide +kernel
theorem lv18_code : codeL ⟨13, 0, 0, 5, [], [], []⟩ = [3, 13, 10] := by decide +kernel
theorem lv18_get : getE [3, 13, 10] = some ⟨13, 0, 0, 5, [], [], []⟩ := by decide +kernel
theorem lv18_rec : recB [3, 13, 10] = true := by
  unfold recB eventsL
  rw [lv18_get]
  rfl
theorem lv18_rec9 : recB [9] = false := by
  have h : getE [9] = none := by decide +kernel
  have h2 : getO [9] = none := by decide +kernel
  unfold recB eventsL
  rw [h, h2]
  rfl
theorem lv18_wrE : wrE 65 [[3, 13, 10], [3, 13, 10]] = 0 := by
  unfold wrE
  simp [lv18_rec, knownB]
theorem lv18_wrL : wrL 65 [[3, 13, 10], [3, 13, 10]] = ([14, 8, 110, 101, 119, 115, 130, 1, 125, 131, 66, 19, 6, 3, 13, 10, 24, 240, 124, 168, 6, 3, 13, 10, 24, 240, 124, 168] : List UInt8) := by
  unfold wrL
  rw [lv18_wrE]
  decide +kernel
theorem lv18_hd : segHd (([14, 8, 110, 101, 119, 115, 130, 1, 125, 131, 66, 19, 6, 3, 13, 10, 24, 240, 124, 168, 6, 3, 13, 10, 24, 240, 124, 168] : List UInt8) ++ [1, 2]) = (65, 12, true) := by decide +kernel
theorem lv18_n1 : nextL (frameL [3, 13, 10] ++ (frameL [3, 13, 10] ++ [1, 2])) = ([3, 13, 10], 8, 1) := by decide +kernel
theorem lv18_n2 : nextL (frameL [3, 13, 10] ++ [1, 2]) = ([3, 13, 10], 8, 1) := by decide +kernel
theorem lv18_n3 : nextL [1, 2] = ([], 0, 3) ∨ (nextL [1, 2]).2.2 ≠ 1 := by decide +kernel
theorem lv18_read : segRd (([14, 8, 110, 101, 119, 115, 130, 1, 125, 131, 66, 19, 6, 3, 13, 10, 24, 240, 124, 168, 6, 3, 13, 10, 24, 240, 124, 168] : List UInt8) ++ [1, 2]) = some (65, [[3, 13, 10], [3, 13, 10]], 28) := by
  have e : (([14, 8, 110, 101, 119, 115, 130, 1, 125, 131, 66, 19, 6, 3, 13, 10, 24, 240, 124, 168, 6, 3, 13, 10, 24, 240, 124, 168] : List UInt8) ++ [1, 2] : List UInt8).drop 12 = frameL [3, 13, 10] ++ (frameL [3, 13, 10] ++ [1, 2]) := by decide +kernel
  have e2 : (frameL [3, 13, 10] ++ (frameL [3, 13, 10] ++ [1, 2])).drop 8 = frameL [3, 13, 10] ++ [1, 2] := by decide +kernel
  have e3 : (frameL [3, 13, 10] ++ [1, 2]).drop 8 = [1, 2] := by decide +kernel
  have h3 : ¬ (nextL [1, 2]).2.2 = 1 := by decide +kernel
  unfold segRd
  rw [lv18_hd, if_pos rfl]
  simp only
  rw [e]
  unfold readR
  rw [lv18_n1]
  simp only [lv18_rec]
  rw [e2]
  unfold readR
  rw [lv18_n2]
  simp only [lv18_rec]
  rw [e3]
  unfold readR
  simp [h3]
theorem lv18_nil : segRd [] = none := by decide +kernel
theorem lv18_of : of18 [108, 111, 103, 46, 48, 48, 54, 53] = (65, true) := of_hit (n := 65) (by omega) (by omega) (by decide)
theorem lv18_of2 : of18 [108, 111, 103, 46, 54, 53] = (0, false) := by rw [← of_same]; decide +kernel
theorem two_part (w : World) (t : TypeId) (p q : Part) : Reads (w.alloc (.cells #[.slice p.A p.n p.c, .slice q.A q.n q.c] t)) (w.alloc (.cells #[.slice p.A p.n p.c, .slice q.A q.n q.c] t)).heap.size 1 (some ⟨w.heap.size, 0, none⟩) 2 ([p, q].map Part.val) := by
  refine ⟨rfl, fun _ => ⟨_, rfl, by simp, fun j u hu => ?_⟩⟩
  rw [add_lit, Nat.zero_add, (Blk.new w t _).cell]
  match j, hu with
  | 0, hu => simpa [Part.val] using hu
  | 1, hu => simpa [Part.val] using hu
  | k + 2, hu => simp at hu
set_option maxHeartbeats 8000000 in
theorem lives18_any (w : World) (ht : Tab w) (hN : Nms w) : Calls Tryz.prog 7 #[] w (RetTrue w) := by
  have HP := Lib.hid (fun W => refCode_any ⟨13, 0, 0, 5, [], [], []⟩ W lv18_ok)
  rw [lv18_code] at HP
  simp only [evV] at HP
  have HW := Lib.hid (fun A c W (p : Part) (hp : p.l = [3, 13, 10]) (hR : Reads W W.heap.size 1 A 2 ([p, p].map Part.val)) (hb : Bs W p.A p.n p.l) (hn : p.n ≤ 8000) (h2 : 2 ≤ c) (h3 : c ≤ 9223372036854775807) k1 k2 => segWrite_any 65 0 A 2 c [p, p] W hR (fun x hx => by simp at hx; subst hx; exact ⟨hb, fun _ => hn⟩) h2 h3 k1 k2)
  have HR := Lib.hid (fun A n c W (h : Bs W A n (([14, 8, 110, 101, 119, 115, 130, 1, 125, 131, 66, 19, 6, 3, 13, 10, 24, 240, 124, 168, 6, 3, 13, 10, 24, 240, 124, 168] : List UInt8) ++ [1, 2])) h2 h3 k1 k2 => segRead_any A n c (([14, 8, 110, 101, 119, 115, 130, 1, 125, 131, 66, 19, 6, 3, 13, 10, 24, 240, 124, 168, 6, 3, 13, 10, 24, 240, 124, 168] : List UInt8) ++ [1, 2]) W (by have := h.len; simp at this; omega) h2 h3 h k1 k2)
  rw [lv18_read] at HR
  have HR0 := Lib.hid (fun W k1 k2 => segRead_any none 0 0 [] W (by omega) (by omega) (by omega) Bs.nil k1 k2)
  rw [lv18_nil] at HR0
  have HC := Lib.hid (fun A n c W (h : Bs W A n [9]) k => segRecord_no A n c [9] W (by have := h.len; simp at this; omega) h k lv18_rec9)
  have HH := Lib.hid (fun W => segHead_no 0 W (by decide))
  have HO := Lib.hid (fun W => segOf_any [108, 111, 103, 46, 48, 48, 54, 53] W (by simp))
  have HO2 := Lib.hid (fun W => segOf_any [108, 111, 103, 46, 54, 53] W (by simp))
  rw [lv18_of] at HO
  rw [lv18_of2] at HO2
  have HN := Lib.hid (fun W => segName_any 65 W (by omega) (by omega))
  rw [show nm18 65 = [108, 111, 103, 46, 48, 48, 54, 53] by decide] at HN
  rw [show ((65 : Nat) : Int) = 65 from rfl] at HN
  have HN0 := Lib.hid (fun W => segName_no 0 W (by decide))
  simp only [RetSeg, okS, if_true, Bool.false_eq_true, if_false] at HR HR0 HO HO2
  go_enter Tryz.func7, Tryz.ntmps7
  go_wp2_with fail
  (with_reducible refine (HP.out _).mono ?_)
  rintro e w1 ⟨A1, n1, c1, rfl, ho1, hb1⟩
  have hn1 : 3 = n1 := by have := ho1.len; simpa using this
  subst hn1
  have hc1 := ho1.cap
  have hc63 := ow_cap63 ho1
  have hR2 := two_part w1 22 ⟨A1, 3, c1, [3, 13, 10]⟩ ⟨A1, 3, c1, [3, 13, 10]⟩
  have K2 := bel_alloc (Below.refl w1.heap.size w1) (.cells #[.slice A1 3 c1, .slice A1 3 c1] 22)
  have B2 := bel_step hb1 K2
  have q2 := ho1.bs.below K2
  have ht2 := ht.below B2
  have hN2 := hN.below B2
  clear ho1 hb1
  go_wp2_with fail
  have hX := HW.out (some ⟨w1.heap.size, 0, none⟩) 2 _ ⟨A1, 3, c1, [3, 13, 10]⟩ rfl hR2 q2 (by simp) (by omega) (by omega) ht2 hN2
  simp only [List.map_cons, List.map_nil, lv18_wrE, lv18_wrL] at hX
  have HX := Lib.hid hX
  clear hX HW hR2
  (with_reducible refine (HX.out).mono ?_)
  rintro e w3 ⟨A3, n3, c3, rfl, ho3, hb3⟩
  have hn3 : 28 = n3 := by have := ho3.len; simpa using this
  subst hn3
  have hc3 := ho3.cap
  have hc363 := ow_cap63 ho3
  have B3 := bel_step B2 hb3
  have q3 := q2.below hb3
  have r3 := ho3.bs
  clear HX hb3 q2 K2 B2 ht2 hN2 ho3
  have hO : Ow (w3.alloc (.cells #[] 5)) w3.heap.size (some ⟨w3.heap.size, 0, none⟩) 0 0 [] := Ow.made w3 [] #[] rfl (by simp [maxLen]) (Nat.le_refl _)
  have qa := r3.alloc (.cells #[] 5)
  go_wp2_with (first
    | (at_builtin; have _t := hO; refine wpList_appBg _ iBytes rfl rfl rfl hO rfl qa 28 _ (by simp) rfl (by omega) (by simp) ?_; intro A4 c4 w4 ho4 hb _ _; clear hO _t; have hb4 : Below w3.heap.size w3 w4 := ((Below.refl _ _).alloc (Nat.le_refl _) _).trans hb; clear hb; have hs4 := hb4.size; have ho4 := ho4.below (bel_alloc (Below.refl _ _) (.cells #[.int .u8 1, .int .u8 2] 5)); have qq := Bs.const w4 [1, 2] #[.int .u8 1, .int .u8 2] 5 (0, 0) 2 rfl rfl)
    | (at_builtin; refine wpList_appBg _ iBytes rfl rfl rfl ho4 rfl qq 30 _ rfl rfl (by omega) (by simp; omega) ?_; intro A5 c5 w5 ho5 hb5 _ _))
  have S5 : Below w3.heap.size w3 w5 := (hb4.alloc hs4 _).trans hb5
  have B5 : Below w.heap.size w w5 := bel_step B3 S5
  have q5 := q3.below S5
  have r5 := r3.below S5
  clear ho4 hb4 hb5 qa qq hs4 S5 B3 q3 r3
  (with_reducible refine (HR.out A5 30 c5 w5 (by simpa using ho5.bs) ho5.cap (ow_cap63 ho5) (ht.below B5) (hN.below B5)).mono ?_)
  rintro e w6 ⟨A6, n6, c6, ps, rfl, hP6, hp6, hb6⟩
  rw [show okS true = .int .i64 0 from rfl]
  have hn6 : 2 = n6 := by have h1 := hP6.len; have h2 := congrArg List.length hp6; simp at h2; omega
  subst hn6
  have K6 := bel_alloc hb6 (.cells #[.int .i64 65, .slice A6 2 c6, .int .i64 28] 26)
  have B6 := bel_step B5 K6
  have q6 := q5.below K6
  have r6 := r5.below K6
  have x6 := Blk.new w6 26 #[.int .i64 65, .slice A6 2 c6, .int .i64 28]
  have p6 := hP6.below (bel_alloc (Below.refl w6.heap.size w6) (.cells #[.int .i64 65, .slice A6 2 c6, .int .i64 28] 26))
  have ht6 := ht.below B6
  have hN6 := hN.below B6
  clear B5 q5 r5 hb6 K6 hP6 ho5
  go_wp2_with fail
  (with_reducible refine (HR0.out _ ht6 hN6).mono ?_)
  rintro e w7 ⟨rfl, hb7⟩
  rw [show okS false = .int .i64 180 from rfl]
  have K7 := bel_alloc (bel_alloc hb7 (.cells #[.int .i64 0, .slice none 0 0, .int .i64 0] 26)) (.cells #[.int .u8 9] 5)
  have B7 := bel_step B6 K7
  have q7 := q6.below K7
  have x7 := x6.below K7 x6.lt
  have p7 := p6.below K7
  have c7 := Bs.const (w7.alloc (.cells #[.int .i64 0, .slice none 0 0, .int .i64 0] 26)) [9] #[.int .u8 9] 5 (0, 0) 1 rfl rfl
  have hz7 : (w7.alloc (.cells #[.int .i64 0, .slice none 0 0, .int .i64 0] 26)).heap.size = w7.heap.size + 1 := by simp
  rw [hz7] at c7
  have hN7 := hN.below B7
  clear B6 q6 x6 p6 hb7 K7 ht6 hN6 r6 hz7
  go_wp2_with fail
  (with_reducible refine (HC.out _ _ _ _ c7 hN7).mono ?_)
  rintro e w8 ⟨rfl, hb8⟩
  go_wp2_with fail
  (with_reducible refine (HH.out _).mono ?_)
  rintro e w9 ⟨rfl, hb9⟩
  go_wp2_with fail
  (with_reducible refine (HO.out _).mono ?_)
  rintro e wa ⟨rfl, hba⟩
  go_wp2_with fail
  (with_reducible refine (HO2.out _).mono ?_)
  rintro e wb ⟨rfl, hbb⟩
  have Kb := bel_step (bel_step (bel_step hb8 hb9) hba) hbb
  have Bb := bel_step B7 Kb
  have qb := q7.below Kb
  have xb := x7.below Kb x7.lt
  have pb := p7.below Kb
  clear B7 q7 x7 p7 c7 hN7 Kb hb8 hb9 hba hbb
  have z0 := xb.cell 0
  have z1 := xb.cell 1
  have z2 := xb.cell 2
  simp at z0 z1 z2
  have R2 := two_part wb 22 ⟨A1, 3, c1, [3, 13, 10]⟩ ⟨A1, 3, c1, [3, 13, 10]⟩
  have Kc := bel_alloc (Below.refl wb.heap.size wb) (.cells #[.slice A1 3 c1, .slice A1 3 c1] 22)
  have pc := pb.below Kc
  have qc := qb.below Kc
  have Bc := bel_step Bb Kc
  have HS := Lib.hid (same18_any 65 65 28 28 A6 (some ⟨wb.heap.size, 0, none⟩) 2 c6 2 2 ps [⟨A1, 3, c1, [3, 13, 10]⟩, ⟨A1, 3, c1, [3, 13, 10]⟩] (wb.alloc (.cells #[.slice A1 3 c1, .slice A1 3 c1] 22)) (by omega) pc.reads R2 pc.bs (fun p hp => by simp at hp; subst hp; exact qc) rfl rfl hp6)
  clear xb pb qb qc pc Kc R2 Bb hp6
  go_wp2_with fail
  (with_reducible refine (HS.out).mono ?_)
  rintro e wd ⟨rfl, hbd⟩
  have Bd := bel_step Bc hbd
  clear hbd Bc HS z0 z1 z2
  go_wp2_with fail
  (with_reducible refine (HN.out _).mono ?_)
  rintro e we ⟨rfl, hbe⟩
  go_wp2_with fail
  (with_reducible refine (HN0.out _).mono ?_)
  rintro e wf ⟨rfl, hbf⟩
  go_wp2_with fail
  go_ret
  exact ⟨by simp, bel_step (bel_step Bd hbe) hbf⟩
end Go.Proofs.YtfepinnfhcjopaaGreatDoor
end
section
namespace Go.Proofs.YtfepinnfhcjopaaGreatDoor
open Go.RowKit Go.Nst
set_option maxRecDepth 100000
set_option linter.unusedVariables false
set_option linter.unusedSimpArgs false

theorem frame_cut (b : List UInt8) (j : Nat) (h0 : 0 < b.length) (h1 : b.length ≤ 8192) (hj : j < (frameL b).length) : (nextL ((frameL b).take j)).2.2 ≠ 1 := by
  have hfl := frame_len b
  have hgf : getL (frameL b) = some ((b.length : Int), (putL (zig b.length)).length) := by
    unfold frameL
    exact get_put (mayLen h1) _
  cases hg : getL ((frameL b).take j) with
  | none =>
    rw [next_none hg]
    simp only
    split <;> decide
  | some r =>
    obtain ⟨n, k⟩ := r
    obtain ⟨e1, e2, e3, _⟩ := put_get hg
    rw [List.length_take] at e3
    rw [List.take_take, Nat.min_eq_left (by omega)] at e1
    have hsplit : frameL b = putL (zig n) ++ (frameL b).drop k := by rw [e1, List.take_append_drop]
    have hk : (putL (zig n)).length = k := by rw [e1, List.length_take]; omega
    have hg2 : getL (frameL b) = some (n, k) := by
      have := get_put e2 ((frameL b).drop k)
      rw [← hsplit, hk] at this
      exact this
    rw [hgf] at hg2
    injection hg2 with hg2
    injection hg2 with hn hkk
    subst hn
    rw [next_short hg (by omega) (by rw [List.length_take]; omega)]
    simp
theorem next_nil2 : (nextL []).2.2 ≠ 1 := by decide +kernel
theorem readR_no {m : Nat} {l : List UInt8} (h : (nextL l).2.2 ≠ 1) : readR m l = ([], 0) := by
  cases m with
  | zero => rfl
  | succ m => unfold readR; rw [if_neg (by intro q; exact h q.1)]
theorem cuts_read : ∀ (bs : List (List UInt8)) (m at_ k : Nat), bs.length ≤ m → (∀ b ∈ bs, recB b = true ∧ b.length ≤ 8192) → at_ ≤ (flatF bs).length → k ≤ bs.length → endL bs k ≤ at_ → (k = bs.length ∨ at_ < endL bs (k + 1)) → readR m ((flatF bs).take at_) = (bs.take k, endL bs k)
  | [], m, at_, k, _, _, hat, hk, _, _ => by
    obtain rfl : k = 0 := by simpa using hk
    obtain rfl : at_ = 0 := by simpa [flatF] using hat
    exact readR_no next_nil2
  | b :: t, m, at_, 0, _, hb, hat, _, _, h2 => by
    have hat2 : at_ < (frameL b).length := by
      rcases h2 with h2 | h2
      · simp at h2
      · simpa [endL, flatF] using h2
    have hb1 := hb b (by simp)
    have ht : (flatF (b :: t)).take at_ = (frameL b).take at_ := by
      simp only [flatF, List.flatMap_cons]
      rw [List.take_append_of_le_length (by omega)]
    rw [ht]
    have he : endL (b :: t) 0 = 0 := by simp [endL, flatF]
    rw [he]
    exact readR_no (frame_cut b at_ (rec_ne hb1.1) hb1.2 hat2)
  | b :: t, m, at_, k + 1, hm, hb, hat, hk, h1, h2 => by
    have hb1 := hb b (by simp)
    have he : endL (b :: t) (k + 1) = (frameL b).length + endL t k := by simp [endL, flatF]
    have he2 : endL (b :: t) (k + 1 + 1) = (frameL b).length + endL t (k + 1) := by simp [endL, flatF]
    rw [he] at h1 ⊢
    rw [he2] at h2
    have ht : (flatF (b :: t)).take at_ = frameL b ++ (flatF t).take (at_ - (frameL b).length) := by
      simp only [flatF, List.flatMap_cons]
      rw [List.take_append, List.take_of_length_le (by omega)]
    have hat3 : at_ - (frameL b).length ≤ (flatF t).length := by
      simp only [flatF, List.flatMap_cons, List.length_append] at hat
      simp only [flatF]
      omega
    obtain ⟨m, rfl⟩ : ∃ m', m = m' + 1 := ⟨m - 1, by simp at hm; omega⟩
    have ih := cuts_read t m (at_ - (frameL b).length) k (by simpa using hm) (fun x hx => hb x (by simp [hx])) hat3 (by simpa using hk) (by omega) (by
      rcases h2 with h2 | h2
      · left; simpa using h2
      · right; omega)
    have hn := next_frame b ((flatF t).take (at_ - (frameL b).length)) (rec_ne hb1.1) hb1.2
    rw [ht]
    unfold readR
    rw [hn]
    simp only
    rw [if_pos ⟨trivial, hb1.1⟩, List.drop_left, ih]
    rfl
theorem hd_head {fi : Int} (h : knownB fi = true) (t : List UInt8) : segHd (headL18 fi ++ t) = (fi, (headL18 fi).length, true) := by
  have hb := body_len fi
  have hn := next_frame (headBody fi) t (by omega) (by omega)
  have ht : hdT (headBody fi) = (markL, ⟨putL (zig fi), false⟩) := text_read markL _ (by decide)
  have hm : hdN (headBody fi) = (fi, ⟨[], false⟩) := by
    unfold hdN
    rw [ht]
    have := num_put (known_may h) []
    rwa [List.append_nil] at this
  have ho : hdOk (headBody fi) = true := by
    unfold hdOk
    rw [ht, hm, h]
    rfl
  unfold segHd headL18
  rw [hn]
  simp only [if_true]
  rw [hm, ho]
theorem cut_seg {fi : Int} {bs : List (List UInt8)} {at_ k : Nat} (h : knownB fi = true) (h64 : bs.length ≤ 64) (hb : ∀ b ∈ bs, recB b = true ∧ b.length ≤ 8192) (hat : at_ ≤ (flatF bs).length) (hk : k ≤ bs.length) (h1 : endL bs k ≤ at_) (h2 : k = bs.length ∨ at_ < endL bs (k + 1)) :
    segRd ((headL18 fi ++ flatF bs).take ((headL18 fi).length + at_)) = some (fi, bs.take k, (headL18 fi).length + endL bs k) := by
  have e : (headL18 fi ++ flatF bs).take ((headL18 fi).length + at_) = headL18 fi ++ (flatF bs).take at_ := by
    rw [List.take_append, List.take_of_length_le (by omega)]
    congr 1
    congr 1
    omega
  rw [e]
  unfold segRd
  rw [hd_head h, if_pos rfl]
  simp only
  rw [List.drop_left, cuts_read bs 64 at_ k h64 hb hat hk h1 h2]
theorem endL_all (bs : List (List UInt8)) : endL bs bs.length = (flatF bs).length := by unfold endL; rw [List.take_length]
theorem whole_seg {fi : Int} {bs : List (List UInt8)} (h : knownB fi = true) (h64 : bs.length ≤ 64) (hb : ∀ b ∈ bs, recB b = true ∧ b.length ≤ 8192) :
    segRd (headL18 fi ++ flatF bs) = some (fi, bs, (headL18 fi).length + (flatF bs).length) := by
  have := cut_seg (at_ := (flatF bs).length) (k := bs.length) h h64 hb (Nat.le_refl _) (Nat.le_refl _) (by rw [endL_all]; exact Nat.le_refl _) (.inl rfl)
  rw [List.take_of_length_le (by rw [List.length_append]; exact Nat.le_refl _), List.take_length, endL_all] at this
  exact this
/-- where a cut falls -/
theorem cut_at (bs : List (List UInt8)) (at_ : Nat) (hat : at_ ≤ (flatF bs).length) : ∃ k, k ≤ bs.length ∧ endL bs k ≤ at_ ∧ (k = bs.length ∨ (k < bs.length ∧ at_ < endL bs (k + 1))) := by
  have : ∀ d, d ≤ bs.length → (∃ k, k ≤ bs.length ∧ endL bs k ≤ at_ ∧ (k = bs.length ∨ (k < bs.length ∧ at_ < endL bs (k + 1)))) ∨ endL bs d ≤ at_ := by
    intro d
    induction d with
    | zero => intro _; right; simp [endL, flatF]
    | succ d ih =>
      intro hd
      rcases ih (by omega) with h | h
      · exact .inl h
      · by_cases q : endL bs (d + 1) ≤ at_
        · exact .inr q
        · exact .inl ⟨d, by omega, h, .inr ⟨by omega, by omega⟩⟩
  rcases this bs.length (Nat.le_refl _) with h | h
  · exact h
  · exact ⟨bs.length, Nat.le_refl _, h, .inl rfl⟩
theorem wr_fold {fi : Int} {bs : List (List UInt8)} (h : wrE fi bs = 0) : knownB fi = true ∧ bs.length ≤ 64 ∧ (∀ b ∈ bs, recB b = true) ∧ wrL fi bs = headL18 fi ++ flatF bs := by
  have h' := h
  unfold wrE at h'
  split at h'
  · rename_i hk
    simp at hk
    split at h'
    · rename_i ha
      exact ⟨hk.1, hk.2, List.all_eq_true.1 ha, by unfold wrL; rw [h]; rfl⟩
    · cases h'
  · cases h'
theorem flat_len (bs : List (List UInt8)) (m : Nat) (h : ∀ b ∈ bs, b.length ≤ m) : (flatF bs).length ≤ bs.length * (m + 20) := by
  induction bs with
  | nil => simp [flatF]
  | cons b t ih =>
    have h1 := h b (by simp)
    have h2 := ih (fun x hx => h x (by simp [hx]))
    have h3 := frame_len b
    have h4 := (putL_len (zig (b.length : Int))).2
    simp only [flatF, List.flatMap_cons, List.length_append, List.length_cons] at *
    rw [Nat.add_mul]
    omega
end Go.Proofs.YtfepinnfhcjopaaGreatDoor
end
section
namespace Go.Proofs.YtfepinnfhcjopaaGreatDoor
open Go.RowKit Go.Nst
set_option maxRecDepth 100000
set_option linter.unusedVariables false
set_option linter.unusedSimpArgs false

theorem readR_len : ∀ (m : Nat) (l : List UInt8), (readR m l).1.length ≤ m
  | 0, _ => by simp [readR]
  | m + 1, l => by
    have := readR_len m (l.drop (nextL l).2.1)
    unfold readR
    split
    · simp only [List.length_cons]; omega
    · simp
theorem segRd_len {l : List UInt8} {fi : Int} {rs : List (List UInt8)} {v : Nat} (h : segRd l = some (fi, rs, v)) : rs.length ≤ 64 := by
  unfold segRd at h
  split at h
  · injection h with h
    injection h with _ h
    injection h with h _
    rw [← h]
    exact readR_len 64 _
  · cases h
set_option maxHeartbeats 8000000 in
theorem segReads_walk (A : Option Addr) (n c : Nat) (l : List UInt8) (w : World) (hB : Bs w A n l) (hnc : n ≤ c) (hc63 : c ≤ 9223372036854775807) (ht : Tab w) (hN : Nms w) : Calls Tryz.prog 3 #[.slice A n c] w (RetTrue w) := by
  by_cases h6 : 6000 < n
  · have d1 : decide (6000 < (n : Int)) = true := by simp; omega
    go_enter Tryz.func3, Tryz.ntmps3
    go_wp2_with fail
    (with_reducible refine (lives18_any w ht hN).mono ?_)
    rintro e w1 ⟨rfl, hb⟩
    go_wp2_with fail
    go_ret
    exact ⟨rfl, hb⟩
  have d1 : decide (6000 < (n : Int)) = false := by simp; omega
  have HR := Lib.hid (segRead_any A n c l w (by omega) hnc hc63 hB ht hN)
  have HF := Lib.hid (fun W (h : Bs W A n l) => refRead18_any A n c l W (by omega) hnc hc63 h)
  cases hs : segRd l with
  | none =>
    rw [hs] at HR HF
    clear hs h6
    go_enter Tryz.func3, Tryz.ntmps3
    go_wp2_with fail
    (with_reducible refine (HR.out).mono ?_)
    rintro e w1 ⟨rfl, hb1⟩
    rw [show okS false = .int .i64 180 from rfl]
    have K1 := bel_alloc hb1 (.cells #[.int .i64 0, .slice none 0 0, .int .i64 0] 26)
    have x1 := Blk.new w1 26 #[.int .i64 0, .slice none 0 0, .int .i64 0]
    have hB1 := hB.below K1
    clear hb1
    go_wp2_with fail
    (with_reducible refine (HF.out _ hB1).mono ?_)
    rintro e w2 ⟨rfl, hb2⟩
    rw [show okR18 false = .bool false from rfl]
    have K2 := bel_alloc hb2 (.cells #[.int .i64 0, .slice none 0 0, .int .i64 0] 26)
    have B2 := bel_step K1 K2
    have x2 := x1.below K2 x1.lt
    have y2 := Blk.new w2 26 #[.int .i64 0, .slice none 0 0, .int .i64 0]
    have ht2 := ht.below B2
    have hN2 := hN.below B2
    clear hb2 K1 K2 x1 hB1
    go_wp2_with fail
    (with_reducible refine (lives18_any _ ht2 hN2).mono ?_)
    rintro e w3 ⟨rfl, hb3⟩
    have B3 := bel_step B2 hb3
    have x3 := x2.below hb3 x2.lt
    have y3 := y2.below hb3 y2.lt
    have z0 := x3.cell 0
    have z1 := x3.cell 1
    have z2 := x3.cell 2
    have v0 := y3.cell 0
    have v1 := y3.cell 1
    have v2 := y3.cell 2
    simp at z0 z1 z2 v0 v1 v2
    have HS := Lib.hid (same18_any 0 0 0 0 none none 0 0 0 0 [] [] w3 (by omega) (Pr.nil (w := w3) (base := 0)).reads (Pr.nil (w := w3) (base := 0)).reads (by simp) (by simp) rfl rfl rfl)
    clear hb3 B2 x2 y2 x3 y3 ht2 hN2
    go_wp2_with fail
    (with_reducible refine (HS.out).mono ?_)
    rintro e w4 ⟨rfl, hb4⟩
    go_wp2_with fail
    go_ret
    exact ⟨by simp, bel_step B3 hb4⟩
  | some r =>
    obtain ⟨fi, rs, v⟩ := r
    rw [hs] at HR HF
    have hrl := segRd_len hs
    clear hs
    go_enter Tryz.func3, Tryz.ntmps3
    go_wp2_with fail
    (with_reducible refine (HR.out).mono ?_)
    rintro e w1 ⟨A1, n1, c1, ps, rfl, hP1, he1, hb1⟩
    rw [show okS true = .int .i64 0 from rfl]
    have K1 := bel_alloc hb1 (.cells #[.int .i64 fi, .slice A1 n1 c1, .int .i64 (v : Int)] 26)
    have x1 := Blk.new w1 26 #[.int .i64 fi, .slice A1 n1 c1, .int .i64 (v : Int)]
    have hP1 := hP1.below (bel_alloc (Below.refl _ _) (.cells #[.int .i64 fi, .slice A1 n1 c1, .int .i64 (v : Int)] 26))
    have hB1 := hB.below K1
    clear hb1
    go_wp2_with fail
    (with_reducible refine (HF.out _ hB1).mono ?_)
    rintro e w2 ⟨A2, n2, c2, qs, rfl, hP2, he2, hb2⟩
    rw [show okR18 true = .bool true from rfl]
    have K2 := bel_alloc hb2 (.cells #[.int .i64 fi, .slice A2 n2 c2, .int .i64 (v : Int)] 26)
    have B2 := bel_step K1 K2
    have x2 := x1.below K2 x1.lt
    have y2 := Blk.new w2 26 #[.int .i64 fi, .slice A2 n2 c2, .int .i64 (v : Int)]
    have p2 := hP1.below K2
    have q2 := hP2.below (bel_alloc (Below.refl _ _) (.cells #[.int .i64 fi, .slice A2 n2 c2, .int .i64 (v : Int)] 26))
    have ht2 := ht.below B2
    have hN2 := hN.below B2
    clear hb2 K1 K2 x1 hB1 hP1 hP2
    go_wp2_with fail
    (with_reducible refine (lives18_any _ ht2 hN2).mono ?_)
    rintro e w3 ⟨rfl, hb3⟩
    have B3 := bel_step B2 hb3
    have x3 := x2.below hb3 x2.lt
    have y3 := y2.below hb3 y2.lt
    have p3 := p2.below hb3
    have q3 := q2.below hb3
    have z0 := x3.cell 0
    have z1 := x3.cell 1
    have z2 := x3.cell 2
    have v0 := y3.cell 0
    have v1 := y3.cell 1
    have v2 := y3.cell 2
    simp at z0 z1 z2 v0 v1 v2
    have hn1 : n1 ≤ 1000000 := by
      have h1 := p3.len
      have h2 := congrArg List.length he1
      rw [List.length_map] at h2
      omega
    have HS := Lib.hid (same18_any fi fi v v A1 A2 n1 c1 n2 c2 ps qs w3 hn1 p3.reads q3.reads p3.bs q3.bs rfl rfl (by rw [he1, he2]))
    clear hb3 B2 x2 y2 x3 y3 ht2 hN2 p2 q2 p3 q3 he1 he2
    go_wp2_with fail
    (with_reducible refine (HS.out).mono ?_)
    rintro e w4 ⟨rfl, hb4⟩
    go_wp2_with fail
    go_ret
    exact ⟨by simp, bel_step B3 hb4⟩
theorem seg_apart {T : TypeId} {w : World} {g n : Nat} {A : Option Addr} {l : List UInt8} {a b : Int} {A' : Option Addr} {n' c' : Nat} (h : Blk w g T #[.int .i64 a, .slice A' n' c', .int .i64 b]) (hB : Bs w A n l) : ∀ ad, A = some ad → 0 < n → ad.block ≠ g := by
  intro ad e hn hg
  obtain ⟨u, b0, off, e1, _, _, hc, _⟩ := hB.at hn
  rw [e] at e1
  injection e1 with e1
  subst e1
  simp only at hg
  subst hg
  rw [Nat.add_zero, h.cell off] at hc
  match off, hc with
  | 0, hc => simp at hc
  | 1, hc => simp at hc
  | 2, hc => simp at hc
  | k + 3, hc => simp at hc
theorem parts_all {ps : List Part} {k m : Nat} {p : Part} (h : ∀ x ∈ ps.take k, x.n ≤ m) (hp : ps[k]? = some p) (h1 : p.n ≤ m) : ∀ x ∈ ps.take (k + 1), x.n ≤ m := by
  intro x hx
  rw [List.take_add_one, hp] at hx
  simp at hx
  rcases hx with hx | rfl
  · exact h x hx
  · exact h1
set_option maxHeartbeats 8000000 in
theorem segWrites_walk (fi v : Int) (A : Option Addr) (n c : Nat) (ps : List Part) (w : World) (hP : Reads w w.heap.size 1 A n (ps.map Part.val)) (hQ : ∀ p ∈ ps, Bs w p.A p.n p.l ∧ p.n ≤ p.c ∧ p.c ≤ 9223372036854775807) (hnc : n ≤ c) (hc63 : c ≤ 9223372036854775807) (ht : Tab w) (hN : Nms w) : Calls Tryz.prog 4 #[.agg #[.int .i64 fi, .slice A n c, .int .i64 v]] w (RetTrue w) := by
  have B0 := bel_alloc (Below.refl w.heap.size w) (.cells #[.int .i64 fi, .slice A n c, .int .i64 v] 26)
  have x0 := Blk.new w 26 #[.int .i64 fi, .slice A n c, .int .i64 v]
  have ht0 := ht.below B0
  have hN0 := hN.below B0
  have HL := Lib.hid (fun W h k => lives18_any W h k)
  have y0 := x0.cell 0
  have y1 := x0.cell 1
  have y2 := x0.cell 2
  simp at y0 y1 y2
  by_cases h70 : 70 < n
  · have d1 : decide (70 < (n : Int)) = true := by simp; omega
    go_enter Tryz.func4, Tryz.ntmps4
    go_wp2_with fail
    (with_reducible refine (HL.out _ ht0 hN0).mono ?_)
    rintro e w1 ⟨rfl, hb⟩
    go_wp2_with fail
    go_ret
    exact ⟨rfl, bel_step B0 hb⟩
  have d1 : decide (70 < (n : Int)) = false := by simp; omega
  have hlen : ps.length = n := by have := hP.1; simpa using this
  have HLEN := Lib.hid hlen
  have HQ := Lib.hid hQ
  clear hQ hlen
  go_enter Tryz.func4, Tryz.ntmps4
  go_wp2_with fail
  go_loopw [3] (fun i wr => ∃ k : Nat, i = .int .i64 (k : Int) ∧ k ≤ n ∧ Blk wr w.heap.size 26 #[.int .i64 fi, .slice A n c, .int .i64 v] ∧ Below w.heap.size w wr ∧ Hid (∀ x ∈ ps.take k, x.n ≤ 3000)) (fun i _ => n - (intOf i).toNat)
  case atStart => exact ⟨0, rfl, by omega, x0, B0, Lib.hid (by simp)⟩
  case round =>
    clear y0 y1 y2 x0 B0 ht0 hN0
    obtain ⟨k, rfl, hk, x0, hbw, HA⟩ := hrel
    have ht0 := ht.below hbw
    have hN0 := hN.below hbw
    have y0 := x0.cell 0
    have y1 := x0.cell 1
    have y2 := x0.cell 2
    simp at y0 y1 y2
    by_cases hlt : k < n
    · obtain ⟨p, b, off, rfl, hp, hb, hc⟩ := part_at (hP.below hbw) hlt
      obtain ⟨pA, pn, pc, pl⟩ := p
      simp only at hc
      by_cases q2 : 3000 < pn
      · have e2 : decide (3000 < (pn : Int)) = true := by simp; omega
        clear hp
        go_wp2_with fail
        (with_reducible refine (HL.out _ ht0 hN0).mono ?_)
        rintro e w1 ⟨rfl, hb1⟩
        go_wp2_with fail
        go_ret
        exact ⟨rfl, bel_step hbw hb1⟩
      have e2 : decide (3000 < (pn : Int)) = false := by simp; omega
      have HA2 := Lib.hid (parts_all HA.out hp.out (by simp only; omega))
      clear hp
      go_wp2_with fail
      go_roundw
      case rel => exact ⟨k + 1, by go_num, by omega, x0, hbw, HA2⟩
      case measure => simp [intOf]; omega
    · obtain rfl : k = n := by omega
      have hsm : ∀ x ∈ ps, x.n ≤ 3000 := by
        have := HA.out
        rw [List.take_of_length_le (by rw [HLEN.out]; exact Nat.le_refl _)] at this
        exact this
      have HSM := Lib.hid hsm
      obtain ⟨bs, hbs⟩ : ∃ bs, ps.map Part.l = bs := ⟨_, rfl⟩
      have HBS := Lib.hid hbs
      have hbl : ∀ b ∈ bs, b.length ≤ 3000 := by
        intro b hb
        rw [← hbs, List.mem_map] at hb
        obtain ⟨p, hp, rfl⟩ := hb
        have := (HQ.out p hp).1.len
        have := hsm p hp
        omega
      have HBL : Hid (bs.length = k) := by rw [← hbs, List.length_map]; exact HLEN
      have HW := Lib.hid (fun W (h : Below w.heap.size w W) k1 k2 => segWrite_any fi v A k c ps W ((hP.below h).more h.size) (fun p hp => ⟨(HQ.out p hp).1.below h, fun _ => by have := hsm p hp; omega⟩) hnc hc63 k1 k2)
      have HF := Lib.hid (fun W (h : Below w.heap.size w W) => refWrite18_any fi v A k c ps W ((hP.below h).more h.size) (fun p hp => ⟨(HQ.out p hp).1.below h, fun _ => by have := hsm p hp; omega⟩) hnc hc63)
      rw [hbs] at HW HF
      have hrl : (wrL fi bs).length ≤ 300000 ∧ (wrE fi bs = 0 → segRd (wrL fi bs) = some (fi, bs, (wrL fi bs).length)) ∧ (wrE fi bs ≠ 0 → wrL fi bs = []) := by
        by_cases h0 : wrE fi bs = 0
        · obtain ⟨g1, g2, g3, g4⟩ := wr_fold h0
          have := flat_len bs 3000 hbl
          have hh := head_len18 fi
          refine ⟨?_, fun _ => ?_, fun q => absurd h0 q⟩
          · rw [g4, List.length_append]
            have : bs.length * (3000 + 20) ≤ 64 * (3000 + 20) := Nat.mul_le_mul_right _ g2
            omega
          · rw [g4, whole_seg g1 g2 (fun b hb => ⟨g3 b hb, by have := hbl b hb; omega⟩), List.length_append]
        · have he : wrL fi bs = [] := by unfold wrL; rw [if_neg h0]
          exact ⟨by rw [he]; simp, fun q => absurd q h0, fun _ => he⟩
      obtain ⟨r1, r2, r3⟩ := hrl
      have R2 := Lib.hid r2
      have R3 := Lib.hid r3
      clear hsm hbs hbl r2 r3
      generalize wrL fi bs = rs at *
      generalize wrE fi bs = er at *
      go_wp2_with fail
      (with_reducible refine (HW.out _ hbw ht0 hN0).mono ?_)
      rintro e w1 ⟨A1, n1, c1, rfl, ho1, hb1⟩
      have hn1 := ho1.len
      have B1 := bel_step hbw hb1
      have x1 := x0.below hb1 x0.lt
      have z0 := x1.cell 0
      have z1 := x1.cell 1
      have z2 := x1.cell 2
      simp at z0 z1 z2
      clear hb1 hbw x0 y0 y1 y2 ht0 hN0
      go_wp2_with fail
      (with_reducible refine (HF.out _ B1).mono ?_)
      rintro e w2 ⟨A2, n2, c2, rfl, ho2, hb2⟩
      have B2 := bel_step B1 hb2
      have x2 := x1.below hb2 x1.lt
      have q1 := ho1.below hb2
      have ht2 := ht.below B2
      have hN2 := hN.below B2
      clear hb2 B1 x1 z0 z1 z2 ho1
      go_wp2_with fail
      (with_reducible refine (HL.out _ ht2 hN2).mono ?_)
      rintro e w3 ⟨rfl, hb3⟩
      have B3 := bel_step B2 hb3
      have x3 := x2.below hb3 x2.lt
      have q3 := q1.below hb3
      have p3 := ho2.bs.below hb3
      have qb := q3.bs
      have hcap := q3.cap
      have hcap63 := ow_cap63 q3
      have ks1 := qb.str (P := Tryz.prog) 22 9 5 c1 Tryz.underlying22 Tryz.underlying5 Tryz.underlying9
      have ks2 := p3.str (P := Tryz.prog) 22 9 5 c2 Tryz.underlying22 Tryz.underlying5 Tryz.underlying9
      have ht3 := ht.below B3
      have hN3 := hN.below B3
      clear hb3 B2 x2 q1 ho2 ht2 hN2 q3 p3
      have HR := Lib.hid (segRead_any A1 n1 c1 rs w3 (by omega) hcap hcap63 qb ht3 hN3)
      by_cases he : er = 0
      · subst he
        rw [R2.out rfl] at HR
        go_wp2_with fail
        (with_reducible refine (HR.out).mono ?_)
        rintro e w4 ⟨A4, n4, c4, qs, rfl, hP4, he4, hb4⟩
        rw [show okS true = .int .i64 0 from rfl]
        have K4 := bel_alloc hb4 (.cells #[.int .i64 fi, .slice A4 n4 c4, .int .i64 (rs.length : Int)] 26)
        have B4 := bel_step B3 K4
        have x4 := x3.below K4 x3.lt
        have y4 := Blk.new w4 26 #[.int .i64 fi, .slice A4 n4 c4, .int .i64 (rs.length : Int)]
        have p4 := hP4.below (bel_alloc (Below.refl _ _) (.cells #[.int .i64 fi, .slice A4 n4 c4, .int .i64 (rs.length : Int)] 26))
        have w4l : w.heap.size < w3.heap.size := x3.lt
        have p5 := p4.store (g := w.heap.size) w4l (fun p hp => seg_apart x4 (p4.bs p hp)) 2 (.int .i64 (n1 : Int))
        have x5 := x4.set_ 2 (.int .i64 (n1 : Int))
        have y5 := y4.far (p := ⟨w.heap.size, 2, none⟩) (by simp; have := hb4.size; omega) (.int .i64 (n1 : Int))
        have B5 := B4.setCell (p := ⟨w.heap.size, 2, none⟩) (Nat.le_refl _) (.int .i64 (n1 : Int))
        have hfz := x4.frozen
        have k2 := x4.cell 2
        have z0 := x5.cell 0
        have z1 := x5.cell 1
        have z2 := x5.cell 2
        have v0 := y5.cell 0
        have v1 := y5.cell 1
        have v2 := y5.cell 2
        simp at z0 z1 z2 v0 v1 v2 k2
        have hn4 : n4 ≤ 1000000 := by
          have h1 := p5.len
          have h2 := congrArg List.length he4
          rw [List.length_map, HBL.out] at h2
          omega
        have HS := Lib.hid (same18_any fi fi (rs.length : Int) (n1 : Int) A4 A n4 c4 k c qs ps _ hn4 p5.reads ((hP.below B5).more B5.size) p5.bs (fun p hp => (HQ.out p hp).1.below B5) rfl (by rw [hn1]) (by rw [he4]; exact HBS.out.symm))
        clear hb4 K4 B4 x4 y4 p4 hP4 x5 y5 p5 he4 x3 qb hn1 w4l R2 R3
        go_wp2_with fail
        (with_reducible refine (HS.out).mono ?_)
        rintro e w6 ⟨rfl, hb6⟩
        go_wp2_with fail
        go_ret
        exact ⟨by simp, bel_step B5 hb6⟩
      · have hrs := R3.out he
        subst hrs
        have hn0 : n1 = 0 := by simpa using hn1.symm
        subst hn0
        have e1 : decide (er = 0) = false := by simpa using he
        have e2 : (er != 0) = true := by simpa using he
        rw [show segRd [] = none by decide +kernel] at HR
        clear R2 R3 he
        go_wp2_with fail
        (with_reducible refine (HR.out).mono ?_)
        rintro e w4 ⟨rfl, hb4⟩
        rw [show okS false = .int .i64 180 from rfl]
        have K4 := bel_alloc hb4 (.cells #[.int .i64 0, .slice none 0 0, .int .i64 0] 26)
        have B4 := bel_step B3 K4
        have x4 := x3.below K4 x3.lt
        have B5 := B4.setCell (p := ⟨w.heap.size, 2, none⟩) (Nat.le_refl _) (.int .i64 0)
        have hfz := x4.frozen
        have k2 := x4.cell 2
        simp at k2
        clear hb4 K4 B4 x4 x3 qb hn1
        go_wp2_with fail
        go_ret
        exact ⟨by simp, B5⟩
end Go.Proofs.YtfepinnfhcjopaaGreatDoor
end
