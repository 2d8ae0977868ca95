/-
  SLICES of integers: equality, sums, words of a type.
  Own work; no condition beyond what each theorem names.
-/
import Derived.Test.YtgfnchggflecgaaGreatDoorSa
import Derived.Test.YtgfnchggflecgaaGreatDoorWd
import Derived.BigQuiet
import Derived.Deep.QuietTactic
namespace Go.Proofs.YtgfnchggflecgaaGreatDoor
open Go.RowKit

def tot (zs : List Int) : Int := zs.foldl (· + ·) 0
theorem tot_succ (zs : List Int) (k : Nat) (h : k < zs.length) : tot (zs.take (k + 1)) = tot (zs.take k) + zs.getD k 0 := by
  unfold tot
  rw [List.take_succ_eq_append_getElem h, List.foldl_append]
  simp [List.getD, h]
theorem tot_bd (B : Int) (zs : List Int) (hz : ∀ z ∈ zs, 0 ≤ z ∧ z ≤ B) (k : Nat) (hk : k ≤ zs.length) : 0 ≤ tot (zs.take k) ∧ tot (zs.take k) ≤ B * k := by
  induction k with
  | zero => simp [tot]
  | succ k ih =>
    have h1 := ih (by omega)
    have h2 := hz (zs.getD k 0) (by simp [List.getD, show k < zs.length by omega])
    rw [tot_succ zs k (by omega)]
    have : B * ((k + 1 : Nat) : Int) = B * k + B := by rw [Int.natCast_add, Int.mul_add]; simp
    omega

/-! ### types -/

def typP (zs : List Int) : Prop := (∀ z ∈ zs, 0 ≤ z ∧ z ≤ 20) ∧ 1 ≤ zs.length ∧ zs.length ≤ 8 ∧ tot zs ≤ 20
noncomputable def typB (zs : List Int) : Bool := @decide (typP zs) (Classical.propDecidable _)
theorem typB_t {zs : List Int} (h : typP zs) : typB zs = true := @decide_eq_true _ (Classical.propDecidable _) h
theorem typB_f {zs : List Int} (h : ¬ typP zs) : typB zs = false := @decide_eq_false _ (Classical.propDecidable _) h

/-- Words and letters after some counts. -/
def wdS (zs : List Int) : Int × Int := zs.foldl (fun s c => (wrap64 (s.1 * chooseV (s.2 + c) c), s.2 + c)) (1, 0)
def wd (zs : List Int) : Int := (wdS zs).1
theorem wdS_succ (zs : List Int) (k : Nat) (h : k < zs.length) : wdS (zs.take (k + 1)) = (wrap64 (wd (zs.take k) * chooseV ((wdS (zs.take k)).2 + zs.getD k 0) (zs.getD k 0)), (wdS (zs.take k)).2 + zs.getD k 0) := by
  unfold wd wdS
  rw [List.take_succ_eq_append_getElem h, List.foldl_append]
  simp [List.getD, h]
theorem wdS_tot (zs : List Int) : ∀ k, k ≤ zs.length → (wdS (zs.take k)).2 = tot (zs.take k)
  | 0, _ => rfl
  | k + 1, h => by rw [wdS_succ zs k (by omega), tot_succ zs k (by omega), wdS_tot zs k (by omega)]
theorem wd_succ (zs : List Int) (k : Nat) (h : k < zs.length) : wd (zs.take (k + 1)) = wrap64 (wd (zs.take k) * chooseV (tot (zs.take k) + zs.getD k 0) (zs.getD k 0)) := by
  rw [← wdS_tot zs k (by omega)]
  show (wdS _).1 = _
  rw [wdS_succ zs k h]

theorem tot_mono (zs : List Int) (hz : ∀ z ∈ zs, 0 ≤ z) : ∀ j k, k + j ≤ zs.length → tot (zs.take k) ≤ tot (zs.take (k + j))
  | 0, k, _ => by simp
  | j + 1, k, h => by
    have h1 := tot_mono zs hz j k (by omega)
    have h2 := hz (zs.getD (k + j) 0) (by simp [List.getD, show k + j < zs.length by omega])
    have h3 := tot_succ zs (k + j) (by omega)
    rw [show k + (j + 1) = k + j + 1 by omega, h3]; omega
theorem tot_le (zs : List Int) (hz : ∀ z ∈ zs, 0 ≤ z) (k : Nat) (hk : k ≤ zs.length) : tot (zs.take k) ≤ tot zs := by
  have := tot_mono zs hz (zs.length - k) k (by omega)
  rwa [show k + (zs.length - k) = zs.length by omega, List.take_length] at this



noncomputable def wordsV (zs : List Int) : Int := if typB zs then wd zs else 0
end Go.Proofs.YtgfnchggflecgaaGreatDoor
