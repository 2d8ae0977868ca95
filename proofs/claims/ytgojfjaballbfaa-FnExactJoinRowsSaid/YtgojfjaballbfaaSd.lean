/-
  SLICES of 32-bit numbers: sums, products.
  Own work; no condition beyond what each theorem names.
-/
import Derived.Test.YtgojfjaballbfaaSc
namespace Go.Proofs.Ytgojfjaballbfaa
open Go.RowKit
attribute [local go_sem] opS fineS givesS

/-- A sum from left to right. -/
def sumF (l : List Nat) : Nat := l.foldl (fbin .add .f32) 0
theorem sumF_succ (l : List Nat) (k : Nat) (h : k < l.length) : sumF (l.take (k + 1)) = fbin .add .f32 (sumF (l.take k)) (l.getD k 0) := by
  unfold sumF
  rw [List.take_succ_eq_append_getElem h, List.foldl_append]
  simp [List.getD, h]
/-- A sum of products. -/
def dotF (a b : List Nat) : Nat := (a.zip b).foldl (fun s x => fbin .add .f32 s (fbin .mul .f32 x.1 x.2)) 0
theorem dotF_succ (a b : List Nat) (k : Nat) (h : k < a.length) (hb : a.length = b.length) :
    ((a.zip b).take (k + 1)).foldl (fun s x => fbin .add .f32 s (fbin .mul .f32 x.1 x.2)) 0 = fbin .add .f32 (((a.zip b).take k).foldl (fun s x => fbin .add .f32 s (fbin .mul .f32 x.1 x.2)) 0) (fbin .mul .f32 (a.getD k 0) (b.getD k 0)) := by
  have hl : k < (a.zip b).length := by simp; omega
  rw [List.take_succ_eq_append_getElem hl, List.foldl_append]
  simp [List.getD, h, show k < b.length by omega]

theorem dotF_take_succ (a b : List Nat) (k : Nat) (h : k < a.length) (hb : a.length = b.length) :
    dotF (a.take (k + 1)) (b.take (k + 1)) = fbin .add .f32 (dotF (a.take k) (b.take k)) (fbin .mul .f32 (a.getD k 0) (b.getD k 0)) := by
  have := dotF_succ a b k h hb
  unfold dotF
  simp only [List.zip_eq_zipWith, ← List.take_zipWith] at this ⊢
  exact this
/-- What SumNumbers gives. -/
def sumV (l : List Nat) : Nat := if l.length ≤ 256 then sumF l else 0
/-- What DotNumbers gives. -/
def dotV (a b : List Nat) : Nat := if a.length ≤ 256 ∧ a.length = b.length then dotF a b else 0
end Go.Proofs.Ytgojfjaballbfaa
