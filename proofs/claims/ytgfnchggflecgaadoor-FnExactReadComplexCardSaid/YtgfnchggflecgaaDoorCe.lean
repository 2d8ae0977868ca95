/-
  LISTS OF COMPLEX NUMBERS THAT ARE READ OFF A TEXT: the law. Printed by wip/tools/gen_readlaw.py. Own work; no condition beyond what each theorem names.
-/
import Derived.Test.YtgfnchggflecgaaDoorCd
import Derived.Test.YtgfnchggflecgaaDoorOa
import Derived.Test.YtgfnchggflecgaaDoorTs
namespace Go.Proofs.YtgfnchggflecgaaDoor
open Go.RowKit
set_option linter.unusedVariables false

set_option maxHeartbeats 1600000 in
theorem FnExactReadComplex_walk (a0 : ByteArray) (w : World) (w0 : a0.size ≤ maxLen) (ht : D15 w.heap.size w) (he : EV w.heap.size w) (hm : ML w.heap.size w) :
    Calls Tryd.prog 4 #[.string a0] w fun e w' => e = .returned (.bool true) ∧ Below w.heap.size w w' := by
  unfold maxLen at w0
  have HT := hid ht
  have HE := hid he
  have HM := hid hm
  clear ht he hm
  by_cases hbig : a0.size ≤ 1048576
  · have HA := hid (fun w => sReadComplex_any a0 hbig w)
    have HC := hid (fun B w (hT : D15 B w) (hE : EV B w) (hM : ML B w) (hB : B ≤ w.heap.size) => ReadComplex_any B a0 hbig w hT hE hM hB)
    have hrl := RC_len a0.data.toList
    have HLT := hid (RC_lt (l := a0.data.toList))
    generalize (RC a0.data.toList).getD [] = rs at *
    generalize (RC a0.data.toList).isSome = bb at *
    have B_0 : Hid (Below w.heap.size w w) := Below.refl _ _
    have hbx : (bb != bb) = false := bne_eq_false_iff_eq.2 rfl
    have hqn : decide ((1 + (rs.length : Int)) < 0) = false := decide_eq_false (by omega)
    have hqm : ((1 + (rs.length : Int)) != (1 + (rs.length : Int))) = false := bne_eq_false_iff_eq.2 rfl
    go_enter Tryd.func4, Tryd.ntmps4
    go_wp2_with (fail)
    refine (HA.out _).mono ?_
    rintro e v1 ⟨⟨vW, rfl, hW⟩, hb1⟩
    obtain ⟨pW, cW, rfl⟩ := hW.form
    have B_1 := hid (B_0.out.trans (hb1.mono B_0.out.size))
    have FW_1 := hid hW
    clear hW hb1 B_0
    go_wp2_with (fail)
    refine (HC.out w.heap.size _ (HT.out.on B_1.out) (HE.out.on B_1.out) (HM.out.on B_1.out) B_1.out.size).mono ?_
    rintro e v2 ⟨⟨vG, rfl, hG⟩, hb2⟩
    obtain ⟨pG, cG, rfl⟩ := hG.form
    have B_2 := hid (B_1.out.trans (hb2.mono B_1.out.size))
    have NE := hid (apart_lt FW_1.out.1 hG.1 (Nat.le_refl _))
    have FW_2 := hid (OC.below FW_1.out hb2)
    have HBG : Hid (w.heap.size ≤ v1.heap.size) := B_1.out.size
    have FG_2 := hid hG
    clear hG hb2 B_1 FW_1
    go_wp2_with (fail)
    refine (eqComplex64S_same _ _ _ _ _ _ (OC.sl FG_2.out).1 (OC.sl FW_2.out).1 HLT.out (by omega)).mono ?_
    rintro e w' ⟨rfl, n1, rfl⟩
    go_wp2_with (fail)
    refine (markComplex64S_any _ _ _ _ _ (by first | exact FG_2.out | exact FG_2.out.drewN _) (by omega) (by omega)).mono ?_
    rintro e v3 ⟨rfl, hMG, hGG⟩
    have FW_3 : Hid (OC v3 w.heap.size (.slice pW rs.length cW) rs) := by first | exact FW_2.out.kept hGG NE.out | exact (FW_2.out.drewN _).kept hGG NE.out
    have B_3 : Hid (Below w.heap.size w v3) := by first | exact below_mark B_2.out B_2.out.size FG_2.out.1 HBG.out hGG | exact below_mark (below_drewN B_2.out _) B_2.out.size (FG_2.out.drewN n1).1 HBG.out hGG
    have FG_3 := hid hMG
    clear FG_2 FW_2 B_2 hMG hGG
    go_wp2_with (fail)
    refine (heldComplex64S_any _ _ _ _ _ (by first | exact FG_3.out | exact FG_3.out.drewN _) (by omega) (by omega)).mono ?_
    rintro e w' ⟨rfl, n4, rfl⟩
    have B_4 := hid (below_drewN B_3.out n4)
    go_wp2_with (fail)
    refine (HC.out w.heap.size _ (HT.out.on B_4.out) (HE.out.on B_4.out) (HM.out.on B_4.out) B_4.out.size).mono ?_
    rintro e v5 ⟨⟨vH, rfl, hH⟩, hb5⟩
    obtain ⟨pH, cH, rfl⟩ := hH.form
    have B_5 := hid (B_4.out.trans (hb5.mono B_4.out.size))
    have FW_5 := hid (OC.below (FW_3.out.drewN n4) hb5)
    have FG_5 := hid (OC.below (FG_3.out.drewN n4) hb5)
    have FH_5 := hid hH
    clear hH hb5 FW_3 FG_3 B_3 B_4
    go_wp2_with (fail)
    refine (eqComplex64S_same _ _ _ _ _ _ (OC.sl FH_5.out).1 (OC.sl FW_5.out).1 HLT.out (by omega)).mono ?_
    rintro e w' ⟨rfl, n5, rfl⟩
    go_wp2_with (fail)
    refine (heldComplex64S_any _ _ _ _ _ (by first | exact FG_5.out | exact FG_5.out.drewN _) (by omega) (by omega)).mono ?_
    rintro e w' ⟨rfl, n6, rfl⟩
    go_wp2_with (fail)
    go_ret
    exact ⟨rfl, by first | exact B_5.out | exact below_drewN B_5.out _ | exact below_drewN (below_drewN B_5.out _) _⟩
  · go_enter Tryd.func4, Tryd.ntmps4
    go_wp2_with (fail)
    go_ret
    exact ⟨rfl, Below.refl _ _⟩
end Go.Proofs.YtgfnchggflecgaaDoor
