/-
  SUMS OVER ROWS: the walks. Printed by wip/tools/gen_rows.py. Own work.
-/
import Derived.Test.YthlocjkmbmniaaaFr
namespace Go.Proofs.Ythlocjkmbmniaaa
open Go.RowKit
attribute [local go_sem] opS fineS givesS

/-- Two rows of the same length. -/
def twoB (a b : List Nat) : Bool := isRowB a && isRowB b && decide (a.length = b.length)
theorem twoB_parts {a b : List Nat} (h : twoB a b = true) : isRowB a = true ∧ isRowB b = true ∧ a.length = b.length := by
  unfold twoB at h
  simp only [Bool.and_eq_true, decide_eq_true_eq] at h
  exact ⟨h.1.1, h.1.2, h.2⟩
theorem us_lt {zs : List Nat} (hz : ∀ z ∈ zs, z < 4294967296) : ∀ j, j < (us zs).length → (us zs).getD j 0 < 4294967296 := fun j hj => by
  rw [us_len] at hj
  exact (us_fl hz hj).vlt

theorem areRows_any (p q : Option Addr) (c1 c2 : Nat) (xs ys : List Nat) (w : World) (hs : SL (.float .f32) 0 w p xs) (hz : ∀ z ∈ xs, z < 4294967296) (hs2 : SL (.float .f32) 0 w q ys) (hz2 : ∀ z ∈ ys, z < 4294967296) (hm : xs.length ≤ 1048576) (hm2 : ys.length ≤ 1048576) :
    Calls Try.prog 60 #[.slice p xs.length c1, .slice q ys.length c2] w fun e w' => e = .returned (.bool (twoB (us xs) (us ys))) ∧ Dr w w' := by
  have HA := hid (IsRow_any p c1 xs w hs hz hm)
  have HB := hid (fun n => IsRow_any q c2 ys (w.drewN n) (hs2.drewN n) hz2 hm2)
  have HV : Hid (twoB (us xs) (us ys) = (isRowB (us xs) && isRowB (us ys) && decide (xs.length = ys.length))) := by unfold Hid twoB; rw [us_len, us_len]
  clear hs hz hs2 hz2
  have hl : ((xs.length : Int) == (ys.length : Int)) = decide (xs.length = ys.length) := by
    by_cases h : xs.length = ys.length
    · rw [decide_eq_true h]; exact beq_iff_eq.2 (by omega)
    · rw [decide_eq_false h]; exact beq_eq_false_iff_ne.2 (by omega)
  have hl2 : decide ((xs.length : Int) = (ys.length : Int)) = decide (xs.length = ys.length) := decide_eq_decide.2 (by omega)
  generalize isRowB (us xs) = b1 at *
  generalize isRowB (us ys) = b2 at *
  generalize decide (xs.length = ys.length) = b3 at *
  cases b1
  · go_enter Try.func60, Try.ntmps60
    go_wp2_with (fail)
    refine HA.out.mono ?_
    rintro e w' ⟨rfl, n, rfl⟩
    go_wp2_with (fail)
    go_ret
    exact ⟨by rw [HV.out]; rfl, _, rfl⟩
  · cases b2 <;> cases b3
    all_goals
      go_enter Try.func60, Try.ntmps60
      go_wp2_with (fail)
      refine HA.out.mono ?_
      rintro e w' ⟨rfl, n, rfl⟩
      go_wp2_with (fail)
      refine (HB.out _).mono ?_
      rintro e w' ⟨rfl, n2, rfl⟩
      go_wp2_with (fail)
      go_ret
      exact ⟨by rw [HV.out]; rfl, _, rfl⟩
theorem l02Two_any (p q : Option Addr) (c1 c2 : Nat) (xs ys : List Nat) (w : World) (hs : SL (.float .f32) 0 w p xs) (hz : ∀ z ∈ xs, z < 4294967296) (hs2 : SL (.float .f32) 0 w q ys) (hz2 : ∀ z ∈ ys, z < 4294967296) (hm : xs.length ≤ 1048576) (hm2 : ys.length ≤ 1048576) :
    Calls Try.prog 58 #[.slice p xs.length c1, .slice q ys.length c2] w fun e w' => e = .returned (.bool (twoB (us xs) (us ys))) ∧ Dr w w' := by
  have HA := hid (l02Row_any p c1 xs w hs hz hm)
  have HB := hid (fun n => l02Row_any q c2 ys (w.drewN n) (hs2.drewN n) hz2 hm2)
  have HV : Hid (twoB (us xs) (us ys) = (isRowB (us xs) && isRowB (us ys) && decide (xs.length = ys.length))) := by unfold Hid twoB; rw [us_len, us_len]
  clear hs hz hs2 hz2
  have hl : ((xs.length : Int) == (ys.length : Int)) = decide (xs.length = ys.length) := by
    by_cases h : xs.length = ys.length
    · rw [decide_eq_true h]; exact beq_iff_eq.2 (by omega)
    · rw [decide_eq_false h]; exact beq_eq_false_iff_ne.2 (by omega)
  have hl2 : decide ((xs.length : Int) = (ys.length : Int)) = decide (xs.length = ys.length) := decide_eq_decide.2 (by omega)
  generalize isRowB (us xs) = b1 at *
  generalize isRowB (us ys) = b2 at *
  generalize decide (xs.length = ys.length) = b3 at *
  cases b1
  · go_enter Try.func58, Try.ntmps58
    go_wp2_with (fail)
    refine HA.out.mono ?_
    rintro e w' ⟨rfl, n, rfl⟩
    go_wp2_with (fail)
    go_ret
    exact ⟨by rw [HV.out]; rfl, _, rfl⟩
  · cases b2 <;> cases b3
    all_goals
      go_enter Try.func58, Try.ntmps58
      go_wp2_with (fail)
      refine HA.out.mono ?_
      rintro e w' ⟨rfl, n, rfl⟩
      go_wp2_with (fail)
      refine (HB.out _).mono ?_
      rintro e w' ⟨rfl, n2, rfl⟩
      go_wp2_with (fail)
      go_ret
      exact ⟨by rw [HV.out]; rfl, _, rfl⟩

/-! ### Entropy -/
def entS (s u : Nat) : Nat := if fcmp .gtr .f32 u 0 then fbin .add .f32 s (fbin .mul .f32 u (bitsV u)) else s
def entF (l : List Nat) : Nat := l.foldl entS 0
theorem entF_succ (l : List Nat) (k : Nat) (h : k < l.length) : entF (l.take (k + 1)) = entS (entF (l.take k)) (l.getD k 0) := fold_succ entS l k h
def entV (l : List Nat) : Nat := fbin .sub .f32 0 (entF l)

/-- What EntropyOf gives. -/
def enoB (l : List Nat) : Bool := isRowB l && finB (entV l)
def enoV (l : List Nat) : Nat := if isRowB l then numV (entV l) else 0

end Go.Proofs.Ythlocjkmbmniaaa
