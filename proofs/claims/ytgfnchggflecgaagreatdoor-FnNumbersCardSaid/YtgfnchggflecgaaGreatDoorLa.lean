/-
  LOGARITHMS. Own work; no condition beyond what each theorem names.
-/
import Derived.Test.YtgfnchggflecgaaGreatDoorMa
import Derived.Test.YtgfnchggflecgaaGreatDoorFg
namespace Go.Proofs.YtgfnchggflecgaaGreatDoor
open Go.RowKit


theorem wr_lo {r : Nat} (h0 : r ≠ 0) : 3936146074321813504 ≤ wr r := by
  unfold wr
  rw [if_neg h0]
  split
  · exact Nat.le_trans (show 3936146074321813504 ≤ (874 + r.log2) * 4503599627370496 by omega) (Nat.le_add_right _ _)
  · omega
theorem wr_hi {r : Nat} (h : r < 2139095040) : wr r < 5183643171103440896 := wr_bd h

/-- What LogNumber gives. -/
def logV (u : Nat) : Nat :=
  if isN .f32 u then nanW .f32 else if rung .f32 u = 0 then 4286578688 else if sgn .f32 u then nanW .f32 else if rung .f32 u = 2139095040 then 2139095040 else fnarrow (lnV (fwide u))

theorem logOk {R : Nat} (h : 3936146074321813504 ≤ R) (h2 : R < 5183643171103440896) : NarrowOk (lnV R) :=
  narrowOk_bd (N := 1150) (show Bd .f64 1150 (lnV R) from ⟨(lnV_up h h2).1, Nat.lt_of_le_of_lt (lnV_up h h2).2 (by decide)⟩) (by decide)

/-- The five kinds of a number. -/
theorem log_kinds {u : Nat} (hu : u < 2 ^ FloatKind.f32.format.width) (hc : nf .f32 u = u) :
    u = 2143289344 ∨ u = 0 ∨ u = 2147483648 ∨ u = 2139095040 ∨ (isN .f32 u = false ∧ sgn .f32 u = true ∧ rung .f32 u ≠ 0) ∨ (isN .f32 u = false ∧ sgn .f32 u = false ∧ rung .f32 u ≠ 0 ∧ rung .f32 u < 2139095040 ∧ u = rung .f32 u) := by
  cases hn : isN .f32 u
  · have hw := word_of hu
    have hl := notN hn
    rw [inf32] at hl
    unfold Ieee.Format.word at hw
    rw [sw32] at hw
    cases hs : sgn .f32 u
    · rw [hs] at hw
      simp at hw
      by_cases h0 : rung .f32 u = 0
      · exact Or.inr (Or.inl (by omega))
      · rcases Nat.lt_or_eq_of_le hl with h | h
        · exact Or.inr (Or.inr (Or.inr (Or.inr (Or.inr ⟨rfl, rfl, h0, h, hw⟩))))
        · exact Or.inr (Or.inr (Or.inr (Or.inl (by omega))))
    · rw [hs] at hw
      simp at hw
      by_cases h0 : rung .f32 u = 0
      · exact Or.inr (Or.inr (Or.inl (by omega)))
      · exact Or.inr (Or.inr (Or.inr (Or.inr (Or.inl ⟨rfl, rfl, h0⟩))))
  · rw [nf_nan hn] at hc
    exact Or.inl hc.symm
end Go.Proofs.YtgfnchggflecgaaGreatDoor
