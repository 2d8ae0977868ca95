/-
  LOGARITHMS of 32-bit numbers. (Under way.) Own work.
-/
import Derived.Test.YtgfnchggflecgaaGreatDoorLa
namespace Go.Proofs.YtgfnchggflecgaaGreatDoor
open Go.RowKit
theorem logV_pos {u : Nat} (h1 : isN .f32 u = false) (h2 : sgn .f32 u = false) (h3 : rung .f32 u ≠ 0) (h4 : rung .f32 u < 2139095040) : logV u = fnarrow (lnV (fwide u)) := by
  unfold logV
  rw [if_neg (by rw [h1]; decide), if_neg h3, if_neg (by rw [h2]; decide), if_neg (by omega)]
theorem logV_neg {u : Nat} (h1 : isN .f32 u = false) (h2 : sgn .f32 u = true) (h3 : rung .f32 u ≠ 0) : logV u = nanW .f32 := by
  unfold logV
  rw [if_neg (by rw [h1]; decide), if_neg h3, if_pos h2]
theorem finB_fin {u : Nat} (h : Fin .f32 u) : finB u = true := by
  unfold finB
  rw [fsub_fin h h, if_pos (by omega), show (vi .f32 u - vi .f32 u).natAbs = 0 by omega, rg_zero]
  cases sgn .f32 u <;> decide
/-- Comparisons with zero. -/
theorem cmp_zero {u : Nat} (h1 : isN .f32 u = false) (h3 : rung .f32 u ≠ 0) : fcmp .eql .f32 u 0 = false ∧ fcmp .lss .f32 u 0 = sgn .f32 u ∧ fcmp .neq .f32 u u = false := by
  have hz : isN .f32 0 = false := by decide
  have hk : key .f32 0 = 0 := by decide
  rw [feq_key h1 hz, flt_key h1 hz, hk, isN_ne, h1]
  unfold key sm
  cases sgn .f32 u
  · exact ⟨decide_eq_false (by simp; omega), decide_eq_false (by simp), rfl⟩
  · exact ⟨decide_eq_false (by simp; omega), decide_eq_true (by simp; omega), rfl⟩
end Go.Proofs.YtgfnchggflecgaaGreatDoor
