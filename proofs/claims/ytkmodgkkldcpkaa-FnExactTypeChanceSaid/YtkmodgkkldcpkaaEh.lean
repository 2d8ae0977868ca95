/-
  THE CHANCE OF A TYPE: the walk of the law. Own work.
-/
import Derived.Test.YtkmodgkkldcpkaaEg
namespace Go.Proofs.Ytkmodgkkldcpkaa
open Go.RowKit
set_option maxHeartbeats 800000 in
theorem FnExactTypeChance_walk (a0 : Option Addr) (len0 cap0 : Nat) (z0 : List Nat) (a1 : Option Addr) (len1 cap1 : Nat) (z1 : List Int) (w : World) (w0 : z0.length = len0 ∧ len0 ≤ maxLen ∧ SL (.float .f32) 0 w a0 z0 ∧ ∀ z ∈ z0, z < 4294967296) (w1 : z1.length = len1 ∧ len1 ≤ maxLen ∧ SL (.int .i64) 0 w a1 z1 ∧ ∀ z ∈ z1, (Lit.int .i64 z).wf = true) :
    Calls Try.prog 11 #[.slice a0 len0 cap0, .slice a1 len1 cap1] w fun e w' => e = .returned (.bool true) ∧ Below w.heap.size w w' := by
  obtain ⟨rfl, hm, hs, hz⟩ := w0
  obtain ⟨rfl, hm1, hs1, -⟩ := w1
  unfold maxLen at hm hm1
  have HS := hid hs
  have HZ := hid hz
  have HT := hid hs1
  clear hs hz hs1
  by_cases hbig : z0.length ≤ 1048576
  · by_cases hbig1 : z1.length ≤ 1048576
    · generalize hv : tcV (us z0) z1 = v
      generalize hb : tcB (us z0) z1 = b
      have HV := hid hv
      have HB := hid hb
      clear hv hb
      go_enter Try.func11, Try.ntmps11
      go_wp2_with (fail)
      refine (toFloat32S_any _ _ _ _ HS.out hbig).mono ?_
      rintro e w1 ⟨⟨g1, rfl, hg1, ho1⟩, hb1⟩
      have S1 := hid (SL.own (d := 0) ho1)
      have A1 := hid (HS.out.below_all hb1)
      have E1 := hid (HT.out.below_all hb1)
      have B1 := hid hb1
      clear ho1 hb1 hg1
      go_wp2_with (fail)
      refine (toInt64S_any _ _ _ _ E1.out hbig1).mono ?_
      rintro e w2 ⟨⟨g2, rfl, hg2, ho2⟩, hb2⟩
      have S2 := hid (SL.own (d := 0) ho2)
      have S1b := hid (S1.out.below_all hb2)
      have A2 := hid (A1.out.below_all hb2)
      have E2 := hid (E1.out.below_all hb2)
      have B2 : Hid (Below w.heap.size w w2) := B1.out.trans (hb2.mono B1.out.size)
      clear ho2 hb2 hg2
      go_wp2_with (fail)
      refine (sTypeChance_any _ _ _ _ _ _ _ S1b.out HZ.out S2.out hbig hbig1).mono ?_
      rw [HV.out, HB.out]
      rintro e w' ⟨⟨r1, rfl, f1⟩, n1, rfl⟩
      go_wp2_with (fail)
      refine (toFloat32S_any _ _ _ _ (A2.out.drewN _) hbig).mono ?_
      rintro e w3 ⟨⟨g3, rfl, hg3, ho3⟩, hb3⟩
      have S3 := hid (SL.own (d := 0) ho3)
      have A3 := hid ((A2.out.drewN _).below_all hb3)
      have E3 := hid ((E2.out.drewN _).below_all hb3)
      have B3 : Hid (Below w.heap.size w w3) := (below_drewN B2.out _).trans (hb3.mono B2.out.size)
      clear ho3 hb3 hg3
      go_wp2_with (fail)
      refine (toInt64S_any _ _ _ _ E3.out hbig1).mono ?_
      rintro e w4 ⟨⟨g4, rfl, hg4, ho4⟩, hb4⟩
      have S4 := hid (SL.own (d := 0) ho4)
      have S3b := hid (S3.out.below_all hb4)
      have A4 := hid (A3.out.below_all hb4)
      have E4 := hid (E3.out.below_all hb4)
      have B4 : Hid (Below w.heap.size w w4) := B3.out.trans (hb4.mono B3.out.size)
      clear ho4 hb4 hg4
      go_wp2_with (fail)
      refine (TypeChance_any _ _ _ _ _ _ _ S3b.out HZ.out S4.out hbig hbig1).mono ?_
      rw [HV.out, HB.out]
      rintro e w' ⟨⟨r2, rfl, f2⟩, n2, rfl⟩
      go_wp2_with (first | (refine wpList_fwide rfl _ _ _ rfl _ rfl (Option.isSome_iff_exists.2 ⟨_, (by with_reducible exact Try.underlying32)⟩) (by with_reducible exact Try.underlying58) (by assumption) ?_; intro _ _ _))
      refine (sameFloat_true _ _ _ (by assumption) (by assumption) _).mono ?_
      rintro e w' ⟨rfl, n3, rfl⟩
      go_wp2_with (fail)
      refine (toFloat32S_any _ _ _ _ (A4.out.drewN _) hbig).mono ?_
      rintro e w5 ⟨⟨g5, rfl, hg5, ho5⟩, hb5⟩
      have S5 := hid (SL.own (d := 0) ho5)
      have S3c := hid ((S3b.out.drewN _).below_all hb5)
      have S4c := hid ((S4.out.drewN _).below_all hb5)
      have E5 := hid ((E4.out.drewN _).below_all hb5)
      have B5 : Hid (Below w.heap.size w w5) := (below_drewN B4.out _).trans (hb5.mono B4.out.size)
      clear ho5 hb5 hg5
      go_wp2_with (fail)
      refine (eqFloat32S_same _ _ _ _ _ _ _ S3c.out S5.out HZ.out HZ.out rfl (by omega) _ rfl).mono ?_
      rintro e w' ⟨rfl, n4, rfl⟩
      go_wp2_with (fail)
      refine (toInt64S_any _ _ _ _ (E5.out.drewN _) hbig1).mono ?_
      rintro e w6 ⟨⟨g6, rfl, hg6, ho6⟩, hb6⟩
      have S6 := hid (SL.own (d := 0) ho6)
      have S4d := hid ((S4c.out.drewN _).below_all hb6)
      have B6 : Hid (Below w.heap.size w w6) := (below_drewN B5.out _).trans (hb6.mono B5.out.size)
      clear ho6 hb6 hg6
      go_wp2_with (fail)
      refine (eqInt64S_same _ _ _ _ _ _ S4d.out S6.out (by omega)).mono ?_
      rintro e w' ⟨rfl, n5, rfl⟩
      go_wp2_with (fail)
      go_ret
      exact ⟨rfl, below_drewN B6.out _⟩
    · go_enter Try.func11, Try.ntmps11
      go_wp2_with (fail)
      go_ret
      exact ⟨rfl, Below.refl _ _⟩
  · go_enter Try.func11, Try.ntmps11
    go_wp2_with (fail)
    go_ret
    exact ⟨rfl, Below.refl _ _⟩
end Go.Proofs.Ytkmodgkkldcpkaa
