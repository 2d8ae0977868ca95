/-
  WALKS: names, check numbers: loops over a text; binomials; counts.
  Own work; no condition beyond what each theorem names.
-/
import Derived.Test.YtkmodgkkldcpkaaWb
namespace Go.Proofs.Ytkmodgkkldcpkaa
open Go.RowKit

/-! ### names -/

def okByte (s : ByteArray) (k : Nat) : Prop := ∀ h : k < s.size, 97 ≤ s[k].toNat ∧ s[k].toNat ≤ 122
def nameP (s : ByteArray) : Prop := (∀ k, okByte s k) ∧ 1 ≤ s.size ∧ s.size ≤ 8
noncomputable def nameV (s : ByteArray) : Bool := @decide (nameP s) (Classical.propDecidable _)

theorem nameV_bad {s : ByteArray} {k : Nat} (hlt : k < s.size) (h : (s[k].toNat : Int) < 97 ∨ 122 < (s[k].toNat : Int)) : nameV s = false := by
  unfold nameV
  rw [decide_eq_false_iff_not]
  intro hp
  have := hp.1 k hlt
  omega
theorem nameV_end {s : ByteArray} {k : Nat} (hall : ∀ j, j < k → okByte s j) (hk : ¬ k < s.size) (h1 : (1 : Int) ≤ s.size) : nameV s = decide ((s.size : Int) ≤ 8) := by
  unfold nameV
  by_cases h : (s.size : Int) ≤ 8
  · rw [decide_eq_true h]
    exact @decide_eq_true _ (Classical.propDecidable _) ⟨fun j => fun hj => hall j (by omega) hj, by omega, by omega⟩
  · rw [decide_eq_false h]
    exact @decide_eq_false _ (Classical.propDecidable _) (fun hp => by have := hp.2.2; omega)
theorem nameV_none {s : ByteArray} (h1 : (s.size : Int) < 1) : nameV s = false := by
  unfold nameV
  exact @decide_eq_false _ (Classical.propDecidable _) (fun hp => by have := hp.2.1; omega)
theorem ok_succ {s : ByteArray} {k : Nat} (hall : ∀ j, j < k → okByte s j) (h1 : (97 : Int) ≤ (if h : k < s.size then (s[k].toNat : Int) else 97)) (h2 : (if h : k < s.size then (s[k].toNat : Int) else 97) ≤ 122) : ∀ j, j < k + 1 → okByte s j := by
  intro j hj
  by_cases e : j = k
  · subst e; intro h; rw [dif_pos h] at h1 h2; omega
  · exact hall j (by omega)
theorem ret_bool {a b : Bool} (h : a = b) : Ending.returned (.bool a) = Ending.returned (.bool b) := by rw [h]


/-! ### check numbers -/

def chk (n : Int) (l : List UInt8) : Int := l.foldl (fun n c => (929 * n + (c.toNat : Int) + 193) % 65003) n
theorem take_snoc (s : ByteArray) (k : Nat) (h : k < s.size) : s.data.toList.take (k + 1) = s.data.toList.take k ++ [s[k]] := by
  rw [List.take_succ_eq_append_getElem (by simpa using h)]; rfl
theorem chk_snoc (n : Int) (s : ByteArray) (k : Nat) (h : k < s.size) : chk n (s.data.toList.take (k + 1)) = (929 * chk n (s.data.toList.take k) + (s[k].toNat : Int) + 193) % 65003 := by
  rw [take_snoc s k h]; unfold chk; rw [List.foldl_append]; rfl
theorem chk_bd (n : Int) (h0 : 0 ≤ n) (h1 : n ≤ 65002) (l : List UInt8) : 0 ≤ chk n l ∧ chk n l ≤ 65002 := by
  induction l generalizing n with
  | nil => exact ⟨h0, h1⟩
  | cons c l ih =>
    have : chk n (c :: l) = chk ((929 * n + (c.toNat : Int) + 193) % 65003) l := rfl
    rw [this]
    exact ih _ (by omega) (by omega)


/-! ### binomials -/

/-- What the loop holds after j rounds. -/
def chooseW (n k : Int) : Nat → Int
  | 0 => 1
  | j + 1 => wrap64 ((wrap64 (chooseW n k j * (n - k + ((j : Int) + 1)))).tdiv ((j : Int) + 1))
/-- The binomial, as both programs reckon it. -/
def chooseV (n k : Int) : Int := chooseW n k k.toNat
theorem chooseW_succ (n k : Int) (j : Nat) : chooseW n k (j + 1) = wrap64 ((wrap64 (chooseW n k j * (n - k + ((j : Int) + 1)))).tdiv ((j : Int) + 1)) := rfl

set_option maxHeartbeats 400000 in
theorem choose_any (n k : Int) (w : World) (h0 : 0 ≤ k) (h1 : k ≤ n) (h2 : n ≤ 40) :
    Calls Try.prog 103 #[.int .i64 n, .int .i64 k] w fun e w' => e = .returned (.int .i64 (chooseV n k)) ∧ w = w' := by
  go_enter Try.func103, Try.ntmps103
  go_wp2
  go_loop [5, 6] (fun v i => ∃ j : Nat, ∃ z : Int, (j : Int) ≤ k ∧ i = .int .i64 (↑(j + 1)) ∧ v = .int .i64 z ∧ z = chooseW n k j) (fun _ i => (k + 1 - (intOf i)).toNat)
  case atStart => exact ⟨0, 1, by omega, rfl, rfl, rfl⟩
  case round =>
    obtain ⟨j, z, hj, rfl, rfl, hz⟩ := hrel
    have HZ := hid hz
    clear hz
    by_cases hlt : (j : Int) < k
    · have HS := hid (chooseW_succ n k j)
      go_wp2
      go_round
      case rel => exact ⟨j + 1, _, by omega, by go_num, rfl, by rw [HS.out, ← HZ.out]⟩
      case measure => simp [intOf]; omega
    · go_wp2
      go_ret
      have hk : k.toNat = j := by omega
      exact ⟨by unfold chooseV; rw [hk, ← HZ.out]; rfl, rfl⟩
set_option maxHeartbeats 400000 in
theorem l02Choose_any (n k : Int) (w : World) (h0 : 0 ≤ k) (h1 : k ≤ n) (h2 : n ≤ 40) :
    Calls Try.prog 101 #[.int .i64 n, .int .i64 k] w fun e w' => e = .returned (.int .i64 (chooseV n k)) ∧ w = w' := by
  go_enter Try.func101, Try.ntmps101
  go_wp2
  go_loop [5, 6] (fun v i => ∃ j : Nat, ∃ z : Int, (j : Int) ≤ k ∧ i = .int .i64 (↑(j + 1)) ∧ v = .int .i64 z ∧ z = chooseW n k j) (fun _ i => (k + 1 - (intOf i)).toNat)
  case atStart => exact ⟨0, 1, by omega, rfl, rfl, rfl⟩
  case round =>
    obtain ⟨j, z, hj, rfl, rfl, hz⟩ := hrel
    have HZ := hid hz
    clear hz
    by_cases hlt : (j : Int) < k
    · have HS := hid (chooseW_succ n k j)
      go_wp2
      go_round
      case rel => exact ⟨j + 1, _, by omega, by go_num, rfl, by rw [HS.out, ← HZ.out]⟩
      case measure => simp [intOf]; omega
    · go_wp2
      go_ret
      have hk : k.toNat = j := by omega
      exact ⟨by unfold chooseV; rw [hk, ← HZ.out]; rfl, rfl⟩

/-- In range: an argument of CountTypes. -/
def ctOk (n l : Int) : Prop := 0 ≤ n ∧ n ≤ 30 ∧ 1 ≤ l ∧ l ≤ 8
instance (n l : Int) : Decidable (ctOk n l) := by unfold ctOk; infer_instance
def ctV (n l : Int) : Int := if ctOk n l then chooseV (n + l - 1) (l - 1) else 0
def ctB (n l : Int) : Bool := decide (ctOk n l)

end Go.Proofs.Ytkmodgkkldcpkaa
