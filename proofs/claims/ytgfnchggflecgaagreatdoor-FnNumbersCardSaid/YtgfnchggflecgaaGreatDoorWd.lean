/-
  WALKS: names, check numbers: loops over a text; binomials; counts.
  Own work; no condition beyond what each theorem names.
-/
import Derived.Test.YtgfnchggflecgaaGreatDoorWb
namespace Go.Proofs.YtgfnchggflecgaaGreatDoor
open Go.RowKit

/-! ### names -/

def okByte (s : ByteArray) (k : Nat) : Prop := ∀ h : k < s.size, 97 ≤ s[k].toNat ∧ s[k].toNat ≤ 122
def nameP (s : ByteArray) : Prop := (∀ k, okByte s k) ∧ 1 ≤ s.size ∧ s.size ≤ 8
noncomputable def nameV (s : ByteArray) : Bool := @decide (nameP s) (Classical.propDecidable _)

theorem nameV_bad {s : ByteArray} {k : Nat} (hlt : k < s.size) (h : (s[k].toNat : Int) < 97 ∨ 122 < (s[k].toNat : Int)) : nameV s = false := by
  unfold nameV
  rw [decide_eq_false_iff_not]
  intro hp
  have := hp.1 k hlt
  omega
theorem nameV_end {s : ByteArray} {k : Nat} (hall : ∀ j, j < k → okByte s j) (hk : ¬ k < s.size) (h1 : (1 : Int) ≤ s.size) : nameV s = decide ((s.size : Int) ≤ 8) := by
  unfold nameV
  by_cases h : (s.size : Int) ≤ 8
  · rw [decide_eq_true h]
    exact @decide_eq_true _ (Classical.propDecidable _) ⟨fun j => fun hj => hall j (by omega) hj, by omega, by omega⟩
  · rw [decide_eq_false h]
    exact @decide_eq_false _ (Classical.propDecidable _) (fun hp => by have := hp.2.2; omega)
theorem nameV_none {s : ByteArray} (h1 : (s.size : Int) < 1) : nameV s = false := by
  unfold nameV
  exact @decide_eq_false _ (Classical.propDecidable _) (fun hp => by have := hp.2.1; omega)
theorem ok_succ {s : ByteArray} {k : Nat} (hall : ∀ j, j < k → okByte s j) (h1 : (97 : Int) ≤ (if h : k < s.size then (s[k].toNat : Int) else 97)) (h2 : (if h : k < s.size then (s[k].toNat : Int) else 97) ≤ 122) : ∀ j, j < k + 1 → okByte s j := by
  intro j hj
  by_cases e : j = k
  · subst e; intro h; rw [dif_pos h] at h1 h2; omega
  · exact hall j (by omega)
theorem ret_bool {a b : Bool} (h : a = b) : Ending.returned (.bool a) = Ending.returned (.bool b) := by rw [h]


/-! ### check numbers -/

def chk (n : Int) (l : List UInt8) : Int := l.foldl (fun n c => (929 * n + (c.toNat : Int) + 193) % 65003) n
theorem take_snoc (s : ByteArray) (k : Nat) (h : k < s.size) : s.data.toList.take (k + 1) = s.data.toList.take k ++ [s[k]] := by
  rw [List.take_succ_eq_append_getElem (by simpa using h)]; rfl
theorem chk_snoc (n : Int) (s : ByteArray) (k : Nat) (h : k < s.size) : chk n (s.data.toList.take (k + 1)) = (929 * chk n (s.data.toList.take k) + (s[k].toNat : Int) + 193) % 65003 := by
  rw [take_snoc s k h]; unfold chk; rw [List.foldl_append]; rfl
theorem chk_bd (n : Int) (h0 : 0 ≤ n) (h1 : n ≤ 65002) (l : List UInt8) : 0 ≤ chk n l ∧ chk n l ≤ 65002 := by
  induction l generalizing n with
  | nil => exact ⟨h0, h1⟩
  | cons c l ih =>
    have : chk n (c :: l) = chk ((929 * n + (c.toNat : Int) + 193) % 65003) l := rfl
    rw [this]
    exact ih _ (by omega) (by omega)


/-! ### binomials -/

/-- What the loop holds after j rounds. -/
def chooseW (n k : Int) : Nat → Int
  | 0 => 1
  | j + 1 => wrap64 ((wrap64 (chooseW n k j * (n - k + ((j : Int) + 1)))).tdiv ((j : Int) + 1))
/-- The binomial, as both programs reckon it. -/
def chooseV (n k : Int) : Int := chooseW n k k.toNat
theorem chooseW_succ (n k : Int) (j : Nat) : chooseW n k (j + 1) = wrap64 ((wrap64 (chooseW n k j * (n - k + ((j : Int) + 1)))).tdiv ((j : Int) + 1)) := rfl


/-- In range: an argument of CountTypes. -/
def ctOk (n l : Int) : Prop := 0 ≤ n ∧ n ≤ 30 ∧ 1 ≤ l ∧ l ≤ 8
instance (n l : Int) : Decidable (ctOk n l) := by unfold ctOk; infer_instance
def ctV (n l : Int) : Int := if ctOk n l then chooseV (n + l - 1) (l - 1) else 0
def ctB (n l : Int) : Bool := decide (ctOk n l)

end Go.Proofs.YtgfnchggflecgaaGreatDoor
