/-
  SLICES of 32-bit numbers: copies, equality, sums, products.
  Own work; no condition beyond what each theorem names.
-/
import Derived.Test.YtgfnchggflecgaaGreatDoorSa
import Derived.Test.YtgfnchggflecgaaGreatDoorQf
import Derived.BigQuiet
import Derived.Deep.QuietTactic
namespace Go.Proofs.YtgfnchggflecgaaGreatDoor
open Go.RowKit

theorem run_store_float (P : Program) (w : World) (a : Addr) (m : Mode) (k : FloatKind) (b : Nat) : (store a (.float k b) m).run P w = stored P w a (.float k b) m := run_store P w a _ m rfl
attribute [local go_sem] run_store_float opS fineS givesS


/-- The numbers that words stand for. -/
def us (zs : List Nat) : List Nat := zs.map (nf .f32)
theorem us_len (zs : List Nat) : (us zs).length = zs.length := by simp [us]
theorem us_fl {zs : List Nat} (h : ∀ z ∈ zs, z < 4294967296) {k : Nat} (hk : k < zs.length) : Fl .f32 (zs.getD k 0) ((us zs).getD k 0) := by
  have e : (us zs).getD k 0 = nf .f32 (zs.getD k 0) := by simp [us, List.getD, hk]
  rw [e]
  exact Fl.self (h _ (by simp [List.getD, hk]))

end Go.Proofs.YtgfnchggflecgaaGreatDoor
