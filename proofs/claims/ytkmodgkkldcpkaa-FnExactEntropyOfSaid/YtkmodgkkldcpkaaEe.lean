/-
  ENTROPY: the walk of the law. Own work.
-/
import Derived.Test.YtkmodgkkldcpkaaEb
namespace Go.Proofs.Ytkmodgkkldcpkaa
open Go.RowKit
set_option maxHeartbeats 400000 in
theorem FnExactEntropyOf_walk (a0 : Option Addr) (len0 cap0 : Nat) (z0 : List Nat) (w : World) (w0 : z0.length = len0 ∧ len0 ≤ maxLen ∧ SL (.float .f32) 0 w a0 z0 ∧ ∀ z ∈ z0, z < 4294967296) :
    Calls Try.prog 12 #[.slice a0 len0 cap0] w fun e w' => e = .returned (.bool true) ∧ Below w.heap.size w w' := by
  obtain ⟨rfl, hm, hs, hz⟩ := w0
  unfold maxLen at hm
  have HS := hid hs
  have HZ := hid hz
  clear hs hz
  by_cases hbig : z0.length ≤ 1048576
  · generalize hv : enoV (us z0) = v
    generalize hb : enoB (us z0) = b
    have HV := hid hv
    have HB := hid hb
    clear hv hb
    go_enter Try.func12, Try.ntmps12
    go_wp2_with (fail)
    refine (toFloat32S_any _ _ _ _ HS.out hbig).mono ?_
    rintro e w1 ⟨⟨g1, rfl, hg1, ho1⟩, hb1⟩
    have S1 := hid (SL.own (d := 0) ho1)
    have A1 := hid (HS.out.below_all hb1)
    have B1 := hid hb1
    clear ho1 hb1 hg1
    go_wp2_with (fail)
    refine (sEntropyOf_any _ _ _ _ S1.out HZ.out hbig).mono ?_
    rw [HV.out, HB.out]
    rintro e w' ⟨⟨r1, rfl, f1⟩, n1, rfl⟩
    go_wp2_with (fail)
    refine (toFloat32S_any _ _ _ _ (A1.out.drewN n1) hbig).mono ?_
    rintro e w2 ⟨⟨g2, rfl, hg2, ho2⟩, hb2⟩
    have S2 := hid (SL.own (d := 0) ho2)
    have A2 := hid ((A1.out.drewN n1).below_all hb2)
    have B2 : Hid (Below w.heap.size w w2) := (below_drewN B1.out n1).trans (hb2.mono B1.out.size)
    clear ho2 hb2 hg2
    go_wp2_with (fail)
    refine (EntropyOf_any _ _ _ _ S2.out HZ.out hbig).mono ?_
    rw [HV.out, HB.out]
    rintro e w' ⟨⟨r2, rfl, f2⟩, n2, rfl⟩
    go_wp2_with (first | (refine wpList_fwide rfl _ _ _ rfl _ rfl (Option.isSome_iff_exists.2 ⟨_, (by with_reducible exact Try.underlying32)⟩) (by with_reducible exact Try.underlying58) (by assumption) ?_; intro _ _ _))
    refine (sameFloat_true _ _ _ (by assumption) (by assumption) _).mono ?_
    rintro e w' ⟨rfl, n3, rfl⟩
    go_wp2_with (fail)
    refine (toFloat32S_any _ _ _ _ (A2.out.drewN _) hbig).mono ?_
    rintro e w3 ⟨⟨g3, rfl, hg3, ho3⟩, hb3⟩
    have S3 := hid (SL.own (d := 0) ho3)
    have S2b := hid ((S2.out.drewN _).below_all hb3)
    have B3 : Hid (Below w.heap.size w w3) := (below_drewN B2.out _).trans (hb3.mono B2.out.size)
    clear ho3 hb3 hg3
    go_wp2_with (fail)
    refine (eqFloat32S_same _ _ _ _ _ _ _ S2b.out S3.out HZ.out HZ.out rfl (by omega) _ rfl).mono ?_
    rintro e w' ⟨rfl, n4, rfl⟩
    go_wp2_with (fail)
    go_ret
    exact ⟨rfl, below_drewN B3.out _⟩
  · go_enter Try.func12, Try.ntmps12
    go_wp2_with (fail)
    go_ret
    exact ⟨rfl, Below.refl _ _⟩
end Go.Proofs.Ytkmodgkkldcpkaa
