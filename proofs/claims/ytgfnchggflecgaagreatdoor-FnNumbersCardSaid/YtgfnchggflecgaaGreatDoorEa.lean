/-
  ENTROPIES: bits, surprises, and sums over one or two rows. Own work; no condition beyond what each theorem names.
-/
import Derived.Test.YtgfnchggflecgaaGreatDoorRa
import Derived.Test.YtgfnchggflecgaaGreatDoorLb
namespace Go.Proofs.YtgfnchggflecgaaGreatDoor
open Go.RowKit
attribute [local go_sem] opS fineS givesS

/-! ### Folds -/
theorem fold_succ (f : Nat → Nat → Nat) (l : List Nat) (k : Nat) (h : k < l.length) : (l.take (k + 1)).foldl f 0 = f ((l.take k).foldl f 0) (l.getD k 0) := by
  rw [List.take_succ_eq_append_getElem h, List.foldl_append]
  simp [List.getD, h]
/-- A sum over two lists. -/
def fold2 (f : Nat → Nat → Nat → Nat) (a b : List Nat) : Nat := (a.zip b).foldl (fun s x => f s x.1 x.2) 0
theorem fold2_succ (f : Nat → Nat → Nat → Nat) (a b : List Nat) (k : Nat) (h : k < a.length) (hb : a.length = b.length) :
    fold2 f (a.take (k + 1)) (b.take (k + 1)) = f (fold2 f (a.take k) (b.take k)) (a.getD k 0) (b.getD k 0) := by
  have hl : k < (a.zip b).length := by simp; omega
  have : ((a.zip b).take (k + 1)).foldl (fun s x => f s x.1 x.2) 0 = f (((a.zip b).take k).foldl (fun s x => f s x.1 x.2) 0) (a.getD k 0) (b.getD k 0) := by
    rw [List.take_succ_eq_append_getElem hl, List.foldl_append]
    simp [List.getD, h, show k < b.length by omega]
  unfold fold2
  simp only [List.zip_eq_zipWith, ← List.take_zipWith] at this ⊢
  exact this

/-! ### Good numbers -/
theorem goodU_parts {u : Nat} (h : goodU u = true) : finB u = true ∧ fcmp .geq .f32 u 0 = true := by
  unfold goodU at h
  exact Bool.and_eq_true_iff.1 h
theorem good_notN {u : Nat} (h : goodU u = true) : isN .f32 u = false := by
  cases hn : isN .f32 u
  · rfl
  · have := (goodU_parts h).2
    rw [fcmp_nan_left (by decide) hn] at this
    exact absurd this (by decide)
theorem good_ne {u : Nat} (h : goodU u = true) : fcmp .neq .f32 u 0 = fcmp .gtr .f32 u 0 := by
  have hn := good_notN h
  have hg := (goodU_parts h).2
  have hz : isN .f32 0 = false := by decide
  have hk : key .f32 0 = 0 := by decide
  rw [fge_key hn hz, hk] at hg
  have hg := of_decide_eq_true hg
  rw [fne_key hn hz, fgt_key hn hz, hk]
  exact decide_eq_decide.2 (by omega)
theorem row_good {l : List Nat} (h : isRowB l = true) {j : Nat} (hj : j < l.length) : goodU (l.getD j 0) = true := by
  cases hg : goodU (l.getD j 0)
  · unfold isRowB at h
    rw [rowC_bad hj hg] at h
    simp at h
  · rfl
theorem row_len {l : List Nat} (h : isRowB l = true) : 1 ≤ l.length ∧ l.length ≤ 32 := by
  unfold isRowB at h
  exact of_decide_eq_true (Bool.and_eq_true_iff.1 h).1

/-! ### Numbers that are finite -/
def numV (u : Nat) : Nat := if finB u then u else 0

/-! ### Bits -/
def bitsV (u : Nat) : Nat := fbin .quo .f32 (logV u) 1060205080

/-! ### A surprise -/
def openB (u : Nat) : Bool := fcmp .gtr .f32 u 0 && fcmp .leq .f32 u 1065353216
def negBits (u : Nat) : Nat := fbin .sub .f32 0 (bitsV u)
def surB (u : Nat) : Bool := openB u && finB (negBits u)
def surV (u : Nat) : Nat := if openB u then numV (negBits u) else 0
theorem openB_share (u : Nat) : openB u = (fcmp .geq .f32 u 0 && fcmp .leq .f32 u 1065353216 && !fcmp .eql .f32 u 0) := by
  unfold openB
  cases hn : isN .f32 u
  · have hz : isN .f32 0 = false := by decide
    rw [fgt_key hn hz, fge_key hn hz, feq_key hn hz]
    generalize fcmp .leq .f32 u 1065353216 = b
    rcases Int.lt_trichotomy (key .f32 0) (key .f32 u) with h | h | h
    · rw [decide_eq_true h, decide_eq_true (show key .f32 0 ≤ key .f32 u by omega), decide_eq_false (show ¬ key .f32 u = key .f32 0 by omega)]; simp
    · rw [decide_eq_false (show ¬ key .f32 0 < key .f32 u by omega), decide_eq_true (show key .f32 u = key .f32 0 by omega)]; simp
    · rw [decide_eq_false (show ¬ key .f32 0 < key .f32 u by omega), decide_eq_false (show ¬ key .f32 0 ≤ key .f32 u by omega)]; simp
  · rw [fcmp_nan_left (by decide) hn, fcmp_nan_left (by decide) hn, fcmp_nan_left (by decide) hn]; rfl
end Go.Proofs.YtgfnchggflecgaaGreatDoor
