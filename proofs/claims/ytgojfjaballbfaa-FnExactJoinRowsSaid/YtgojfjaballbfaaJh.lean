/-
  TABLES that a call owns: marks, what is held. Own work; no condition beyond what each theorem names.
-/
import Derived.Test.YtgojfjaballbfaaJg
namespace Go.Proofs.Ytgojfjaballbfaa
open Go.RowKit
set_option linter.unusedVariables false
attribute [local go_sem] run_store_float opS fineS givesS

theorem TC.grown {w w' : World} {b : Nat} {r c : Int} {v : Value} {row : Option Nat} (h : TC w b r c v) (hg : w.grownBy w' row) (hne : row ≠ some b) : TC w' b r c v :=
  ⟨by rw [hg.cell_far ⟨b, 0, none⟩ h.lt (Ne.symm hne)]; exact h.1, by rw [hg.cell_far ⟨b, 1, none⟩ h.lt (Ne.symm hne)]; exact h.2.1, by rw [hg.cell_far ⟨b, 2, none⟩ h.lt (Ne.symm hne)]; exact h.2.2⟩
theorem grown_alloc {w w' : World} {o : Obj} {row : Option Nat} (h : (w.alloc o).grownBy w' row) : w.grownBy w' row := by
  refine ⟨h.os, h.tape, h.output, ?_, fun k hk hne => ?_⟩
  · have := h.size; simp at this; omega
  · rw [h.block k (by simp; omega) hne]
    exact ((Below.refl w.heap.size w).alloc (Nat.le_refl _) o).block k hk
theorem markTable_any (base : Nat) (r c : Int) (v : Value) (rs : List Nat) (m : Int) (w : World) (h : OF w base v rs) (hm : rs.length ≤ 1048576) (h0 : 0 ≤ m) (h1 : m ≤ 1073741824) :
    Calls Try.prog 18 #[.agg #[.int .i64 r, .int .i64 c, v], .int .i64 m] w fun e w' => e = .returned (.int .i64 (m + rs.length)) ∧ OF w' base v (marksF m rs.length) ∧ w.grownBy w' v.ownBlock := by
  obtain ⟨p, cap, rfl⟩ := h.form
  have HO := hid h
  clear h
  go_enter Try.func18, Try.ntmps18
  go_wp2_with (fail)
  refine (markFloat32S_any base _ rs m _ (OF.alloc HO.out _) hm h0 h1).mono ?_
  rintro e w' ⟨rfl, hM, hG⟩
  have HM := hid hM
  have HG := hid (grown_alloc hG)
  clear hM hG
  go_wp2_with (fail)
  go_ret
  exact ⟨rfl, HM.out, HG.out⟩
theorem heldTable_any (base : Nat) (r c : Int) (v : Value) (n : Nat) (m : Int) (w : World) (h : OF w base v (marksF m n)) (hm : n ≤ 1048576) (h0 : 0 ≤ m) (h1 : m ≤ 1073741824) :
    Calls Try.prog 19 #[.agg #[.int .i64 r, .int .i64 c, v], .int .i64 m] w fun e w' => e = .returned (.int .i64 (m + n)) ∧ Below w.heap.size w w' := by
  obtain ⟨p, cap, rfl⟩ := h.form
  have HO := hid h
  have hmn : decide (m + (n : Int) < 0) = false := decide_eq_false (by omega)
  clear h
  go_enter Try.func19, Try.ntmps19
  go_wp2_with (fail)
  refine (heldFloat32S_any base _ n m _ (OF.alloc HO.out _) hm h0 h1).mono ?_
  rintro e w' ⟨rfl, k, rfl⟩
  go_wp2_with (fail)
  go_ret
  exact ⟨rfl, below_drewN ((Below.refl _ _).alloc (Nat.le_refl _) _) _⟩
end Go.Proofs.Ytgojfjaballbfaa
