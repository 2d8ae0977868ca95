/-
  POWERS, PLAIN: sums of eighths, logarithms of powers. Printed by wip/tools/gen_pow.py. Own work.
-/
import Derived.Test.YtfcmbmlhfejigaaFx
namespace Go.Proofs.Ytfcmbmlhfejigaa
set_option exponentiation.threshold 2000
theorem add_tab : ∀ i j : _root_.Fin 65, fbin .add .f32 (tabG.getD (i.val + 32) 0) (tabG.getD (j.val + 32) 0) = tabG.getD (i.val + j.val) 0 := by decide +kernel
theorem log_tab : ∀ i : _root_.Fin 65, fcmp .lss .f64 (gapV (fwide (logV (tabV.getD (i.val + 32) 0))) (fwide (tabG.getD (i.val + 32) 0))) 4562254508917369340 = true := by decide +kernel
theorem pos_tab : ∀ i : _root_.Fin 65, fcmp .gtr .f32 (tabV.getD (i.val + 32) 0) 0 = true := by decide +kernel
theorem one_tab : tabV.getD 64 0 = 1065353216 ∧ tabG.getD 64 0 = 0 ∧ fcmp .eql .f32 (logV 1065353216) 0 = true := by decide +kernel
end Go.Proofs.Ytfcmbmlhfejigaa
