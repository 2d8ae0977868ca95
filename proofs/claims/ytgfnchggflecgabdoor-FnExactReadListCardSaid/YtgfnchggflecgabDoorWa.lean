/-
  WALKS: numbers: what each function of the program and of the reference gives at scalars.
  Own work; no condition beyond what each theorem names.
-/
import Derived.Test.YtgfnchggflecgabDoorRows
import Derived.Test.YtgfnchggflecgabDoorFe
namespace Go.Proofs.YtgfnchggflecgabDoor
open Go.RowKit

/-- A fact hidden from the walk. -/
theorem hid {p : Prop} (h : p) : Hid p := h

/-- Nothing but draws. -/
def Dr (w w' : World) : Prop := ∃ n, w' = w.drewN n
theorem Dr.refl (w : World) : Dr w w := ⟨0, rfl⟩
theorem Dr.one (w : World) (n : Nat) : Dr w (w.drewN n) := ⟨n, rfl⟩
theorem Dr.below {w w' : World} (h : Dr w w') (B : Nat) : Below B w w' := by
  obtain ⟨n, rfl⟩ := h
  exact below_drewN (Below.refl _ _) n

theorem fz32 : Fl .f32 0 0 := Fl.lit (by decide) (by decide)
theorem fz64 : Fl .f64 0 0 := Fl.lit (by decide) (by decide)
theorem fone64 : Fl .f64 4607182418800017408 4607182418800017408 := Fl.lit (by decide) (by decide)
/-- A 32-bit word that fits, as the number that it stands for. -/
theorem fl_of_wf {x : Nat} (h : (Lit.float .f32 x).wf = true) : Fl .f32 x (nf .f32 x) := ⟨(by have h' := h; simp [Lit.wf] at h'; exact h'), rfl⟩
theorem fl_of_wf64 {x : Nat} (h : (Lit.float .f64 x).wf = true) : Fl .f64 x (nf .f64 x) := ⟨(by have h' := h; simp [Lit.wf] at h'; exact h'), rfl⟩


/-! ### finite -/

/-- Finite: what is taken from itself is zero. -/
def finB (u : Nat) : Bool := fcmp .eql .f32 (fbin .sub .f32 u u) 0


/-! ### bits -/



/-! ### the laws -/

end Go.Proofs.YtgfnchggflecgabDoor
