/-
  ROWS: are numbers chances, and is their sum nearly one? Own work; no condition beyond what each theorem names.
-/
import Derived.Test.YtgfnchggflecgaaGreatDoorSd
import Derived.Test.YtgfnchggflecgaaGreatDoorFm
namespace Go.Proofs.YtgfnchggflecgaaGreatDoor
open Go.RowKit

theorem fone32 : Fl .f32 1065353216 1065353216 := Fl.lit (by decide) (by decide)
/-- a chance, as it stands alone -/
def goodU (u : Nat) : Bool := finB u && fcmp .geq .f32 u 0
def nearU (s : Nat) : Bool := fcmp .leq .f32 (fabsC (fbin .sub .f32 s 1065353216)) 981668463
def rowC (l : List Nat) : Bool := l.all goodU && nearU (sumF l)
theorem rowC_bad {l : List Nat} {k : Nat} (hk : k < l.length) (h : goodU (l.getD k 0) = false) : rowC l = false := by
  unfold rowC
  have : l.all goodU = false := by
    rw [List.all_eq_false]
    exact ⟨l.getD k 0, by simp [List.getD, hk], by rw [h]; decide⟩
  rw [this]; rfl
theorem rowC_all {l : List Nat} (h : ∀ j, j < l.length → goodU (l.getD j 0) = true) : rowC l = nearU (sumF l) := by
  unfold rowC
  have : l.all goodU = true := by
    rw [List.all_eq_true]
    intro z hz
    obtain ⟨j, hj, e⟩ := List.getElem_of_mem hz
    have := h j hj
    rwa [show l.getD j 0 = l[j] by simp [List.getD, hj], e] at this
  rw [this, Bool.true_and]

/-- a row -/
def isRowB (l : List Nat) : Bool := decide (1 ≤ l.length ∧ l.length ≤ 32) && rowC l
end Go.Proofs.YtgfnchggflecgaaGreatDoor
