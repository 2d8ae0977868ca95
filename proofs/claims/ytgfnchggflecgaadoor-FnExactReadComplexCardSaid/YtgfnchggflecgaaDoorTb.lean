/-
  DECIMAL TEXTS: the law on one number. Own work; no condition beyond what each theorem names.
-/
import Derived.Test.YtgfnchggflecgaaDoorTa
import Derived.OpenShut
namespace Go.Proofs.YtgfnchggflecgaaDoor
open Go.RowKit
set_option linter.unusedVariables false

theorem FnExactDecimal_walk (a0 : Int) (w : World) (w0 : (Lit.int .i64 a0).wf = true) (ht : T10 w.heap.size w) :
    Calls Tryd.prog 5 #[.int .i64 a0] w fun e w' => e = .returned (.bool true) ∧ Below w.heap.size w w' := by
  have hw0 := bounds_i64 w0
  have HA := hid (fun w => sDecimal_any a0 (by omega) (by omega) w)
  have HC := hid (fun base w (h : T10 base w) => Decimal_any base a0 (by omega) (by omega) w h)
  have HT := hid ht
  obtain ⟨S, hS⟩ : ∃ S, strOf (Lib.itoa a0) = S := ⟨_, rfl⟩
  rw [hS] at HA HC
  clear ht w0 hS
  go_enter Tryd.func5, Tryd.ntmps5
  go_wp2_with (fail)
  refine (HA.out _).mono ?_
  rintro e w1 ⟨rfl, hb1⟩
  have HB1 := hid hb1
  clear hb1
  go_wp2_with (fail)
  refine (HC.out _ _ (HT.out.on HB1.out)).mono ?_
  rintro e w2 ⟨rfl, hb2⟩
  have HB2 := hid (HB1.out.trans (hb2.mono HB1.out.size))
  clear hb2
  go_wp2_with (fail)
  go_ret
  exact ⟨rfl, HB2.out⟩
end Go.Proofs.YtgfnchggflecgaaDoor
