/-
  LISTS OF INTEGERS AS TEXTS. Own work; no condition beyond what each theorem names.
-/
import Derived.Test.YtgfnchggflecgaaGreatDoorTb
import Derived.Test.YtgfnchggflecgaaGreatDoorSb
import Derived.Lib.Join
namespace Go.Proofs.YtgfnchggflecgaaGreatDoor
open Go.RowKit
set_option linter.unusedVariables false

/-! ### plain -/
def inV (z : Int) : Bool := decide (-1000000000000000 ≤ z) && decide (z ≤ 1000000000000000)
def valB (l : List Int) : Bool := l.all inV && decide (l.length ≤ 64)
theorem inV_bounds {z : Int} (h : inV z = true) : -1000000000000000 ≤ z ∧ z ≤ 1000000000000000 := by
  unfold inV at h
  simpa using h
theorem valB_bad {l : List Int} {k : Nat} (hk : k < l.length) (h : inV (l.getD k 0) = false) : valB l = false := by
  unfold valB
  cases ha : l.all inV
  · rfl
  · have h1 := List.all_eq_true.1 ha (l.getD k 0) (by simp [List.getD, hk])
    rw [h] at h1
    cases h1
theorem valB_all {l : List Int} (h : ∀ j, j < l.length → inV (l.getD j 0) = true) : valB l = decide (l.length ≤ 64) := by
  unfold valB
  have ha : l.all inV = true := by
    rw [List.all_eq_true]
    intro z hz
    obtain ⟨j, hj, rfl⟩ := List.getElem_of_mem hz
    have := h j hj
    simpa [List.getD, hj] using this
  rw [ha, Bool.true_and]
theorem valB_parts {l : List Int} (h : valB l = true) : (∀ j, j < l.length → inV (l.getD j 0) = true) ∧ l.length ≤ 64 := by
  unfold valB at h
  rw [Bool.and_eq_true, List.all_eq_true] at h
  exact ⟨fun j hj => h.1 _ (by simp [List.getD, hj]), of_decide_eq_true h.2⟩

def noneL : List UInt8 := [110, 111, 110, 101]
/-- Texts with commas between them. -/
def jn (xs : List (List UInt8)) : List UInt8 := if xs = [] then noneL else Lib.join xs [44]
theorem join_snoc {xs : List (List UInt8)} (hx : xs ≠ []) (y : List UInt8) : Lib.join (xs ++ [y]) [44] = Lib.join xs [44] ++ (44 :: y) := by
  obtain ⟨x, r, rfl⟩ := List.exists_cons_of_ne_nil hx
  rw [List.cons_append, Lib.join_cons, Lib.join_cons]
  unfold Lib.joinTail
  simp
theorem strOf_append (a b : List UInt8) : strOf a ++ strOf b = strOf (a ++ b) := by
  unfold strOf
  apply ByteArray.ext
  simp
theorem join_le {xs : List (List UInt8)} {m : Nat} (h : ∀ x ∈ xs, x.length ≤ m) : (Lib.join xs [44]).length ≤ xs.length * (m + 1) := by
  cases xs with
  | nil => simp [Lib.join_nil]
  | cons x r =>
    rw [Lib.join_length]
    have h2 : ∀ l : List (List UInt8), (∀ x ∈ l, x.length ≤ m) → Lib.lens l ≤ l.length * m := by
      intro l
      induction l with
      | nil => intro _; simp [Lib.lens]
      | cons y t ih =>
        intro hl
        have e : Lib.lens (y :: t) = y.length + Lib.lens t := by simp [Lib.lens]
        rw [e, List.length_cons, Nat.add_mul, Nat.one_mul]
        have h3 := ih fun z hz => hl z (List.mem_cons_of_mem _ hz)
        have h4 := hl y (List.mem_cons_self ..)
        omega
    have h5 := h2 _ h
    simp only [List.length_cons, List.length_nil] at *
    rw [Nat.mul_add]
    omega
/-- The texts of the first k numbers. -/
def txs (zs : List Int) (k : Nat) : List (List UInt8) := (zs.take k).map Lib.itoa
theorem txs_succ {zs : List Int} {k : Nat} (hk : k < zs.length) : txs zs (k + 1) = txs zs k ++ [Lib.itoa (zs.getD k 0)] := by
  unfold txs
  rw [List.take_succ_eq_append_getElem hk, List.map_append]
  simp [List.getD, hk]
theorem txs_len {zs : List Int} {k : Nat} (hk : k ≤ zs.length) : (txs zs k).length = k := by simp [txs]; omega
def ltV (zs : List Int) : List UInt8 := if valB zs then jn (txs zs zs.length) else []

/-! ### is every number in bounds? -/
end Go.Proofs.YtgfnchggflecgaaGreatDoor
