/-
  The plain law of older formats' bytes: what is put is got.
-/
import Derived.Test.YtedliepfaibefaaGreatDoorOlC
import Derived.Test.YtedliepfaibefaaGreatDoorOlG
namespace Go.Proofs.YtedliepfaibefaaGreatDoor
open Go.RowKit Go.Nst
set_option maxRecDepth 100000
set_option linter.unusedVariables false
set_option linter.unusedSimpArgs false

theorem rd_ol {o : Ol} (h : o.ok = true) (r : List UInt8) : rdOl ⟨olL o ++ r, false⟩ = (o, ⟨r, false⟩) := by
  have f := olF h
  have hv : (((UInt8.ofNat o.v.toNat).toNat : Nat) : Int) = o.v := by
    have h1 := f.v
    rw [u8_of _ (by omega)]
    omega
  have hk : (((UInt8.ofNat o.k.toNat).toNat : Nat) : Int) = o.k := by
    have h1 := f.ka
    have h2 := f.kz
    rw [u8_of _ (by omega)]
    omega
  unfold rdOl
  rw [show olL o ++ r = UInt8.ofNat o.v.toNat :: (UInt8.ofNat o.k.toNat :: (olT o ++ r)) from rfl, byte_put]
  simp only
  rw [byte_put]
  simp only [hv, hk]
  have e0 : rdN (sN o.v o.k) 0 ⟨olT o ++ r, false⟩ = (o.a, ⟨selN (sN o.v o.k) 1 o.b ++ (selN (sN o.v o.k) 2 o.n ++ (textsL (sT o.v o.k) o.s o.t [] 2 ++ r)), false⟩) := by
    rw [show olT o ++ r = selN (sN o.v o.k) 0 o.a ++ (selN (sN o.v o.k) 1 o.b ++ (selN (sN o.v o.k) 2 o.n ++ (textsL (sT o.v o.k) o.s o.t [] 2 ++ r))) by simp [olT, numsL]]
    exact rdN_sel f.a f.a0 _
  have e1 : rdN (sN o.v o.k) 1 ⟨selN (sN o.v o.k) 1 o.b ++ (selN (sN o.v o.k) 2 o.n ++ (textsL (sT o.v o.k) o.s o.t [] 2 ++ r)), false⟩ = _ := rdN_sel f.b f.b0 _
  have e2 : rdN (sN o.v o.k) 2 ⟨selN (sN o.v o.k) 2 o.n ++ (textsL (sT o.v o.k) o.s o.t [] 2 ++ r), false⟩ = _ := rdN_sel f.n f.n0 _
  have t0 : rdT (sT o.v o.k) 0 ⟨textsL (sT o.v o.k) o.s o.t [] 2 ++ r, false⟩ = (o.s, ⟨selT (sT o.v o.k) 1 o.t ++ r, false⟩) := by
    rw [show textsL (sT o.v o.k) o.s o.t [] 2 ++ r = selT (sT o.v o.k) 0 o.s ++ (selT (sT o.v o.k) 1 o.t ++ r) by simp [textsL]]
    exact rdT_sel (by have := f.s; omega) f.s0 _
  have t1 : rdT (sT o.v o.k) 1 ⟨selT (sT o.v o.k) 1 o.t ++ r, false⟩ = _ := rdT_sel (by have := f.t; omega) f.t0 _
  simp only [vaN, stN, vaT, stT, e0, e1, e2, t0, t1]
theorem get_ol {o : Ol} (h : o.ok = true) : getO (olL o) = some o := by
  have h1 := rd_ol h []
  rw [List.append_nil] at h1
  unfold getO
  rw [h1]
  simp [h]
end Go.Proofs.YtedliepfaibefaaGreatDoor
