/-
  WALKS: numbers, more: subnormal numbers, sameness, bits to numbers, flushing.
  Own work; no condition beyond what each theorem names.
-/
import Derived.Test.YtgfnchggflecgaaGreatDoorWa
namespace Go.Proofs.YtgfnchggflecgaaGreatDoor
open Go.RowKit

/-! ### plain facts -/

theorem and_mask63 (x : Nat) : x &&& 9223372036854775807 = x % 9223372036854775808 := Nat.and_two_pow_sub_one_eq_mod x 63
theorem andNot63 {x : Nat} (h : x < 18446744073709551616) : bits .andNot .u64 (x : Int) 9223372036854775808 = ((x % 9223372036854775808 : Nat) : Int) := by
  have e := u64_andNot_nat x 9223372036854775808 h (by decide)
  rw [show ((9223372036854775808 : Nat) : Int) = 9223372036854775808 from rfl] at e
  rw [e, show 18446744073709551615 - 9223372036854775808 = 9223372036854775807 from rfl, and_mask63]
theorem and63 {x : Nat} (h : x < 18446744073709551616) : bits .and .u64 (x : Int) 9223372036854775808 = ((x / 9223372036854775808 * 9223372036854775808 : Nat) : Int) := by
  have e := u64_and_nat x 9223372036854775808 h (by decide)
  rw [show ((9223372036854775808 : Nat) : Int) = 9223372036854775808 from rfl] at e
  have e2 := nat_bit 63 x
  rw [show (2 : Nat) ^ 63 = 9223372036854775808 from rfl] at e2
  rw [e, e2]
  have : x / 9223372036854775808 < 2 := by omega
  rw [Nat.mod_eq_of_lt this]

theorem and_exp (x : Nat) : (x &&& 2139095040 = 0) ↔ x % 2147483648 < 8388608 := by
  have e : x &&& 2139095040 = (x / 8388608 % 256) * 8388608 := by
    refine Nat.eq_of_testBit_eq fun i => ?_
    have m : (2139095040 : Nat) = 255 <<< 23 := rfl
    have n : (8388608 : Nat) = 2 ^ 23 := rfl
    have k : (256 : Nat) = 2 ^ 8 := rfl
    have k' : (255 : Nat) = 2 ^ 8 - 1 := rfl
    rw [m, n, k, k', ← Nat.shiftLeft_eq, ← Nat.shiftRight_eq_div_pow]
    rw [Nat.testBit_and, Nat.testBit_shiftLeft, Nat.testBit_shiftLeft, Nat.testBit_two_pow_sub_one, Nat.testBit_mod_two_pow, Nat.testBit_shiftRight]
    by_cases hi : 23 ≤ i
    · have : 23 + (i - 23) = i := by omega
      simp [hi, this, Bool.and_comm]
    · simp [hi]
  rw [e]
  omega

theorem i64_and_nat (a b : Nat) (ha : a < 9223372036854775808) (hb : b < 9223372036854775808) : bits .and .i64 (a : Int) (b : Int) = ((a &&& b : Nat) : Int) := by
  have hx : a &&& b < 2 ^ 63 := Nat.and_lt_two_pow _ (by omega)
  have e : ∀ c : Nat, c < 9223372036854775808 → (BitVec.ofInt 64 (c : Int)).toNat = c := fun c hc => by
    rw [BitVec.ofInt_natCast, BitVec.toNat_ofNat]; exact Nat.mod_eq_of_lt (by omega)
  show IntKind.i64.wrap ((BitVec.ofInt 64 (a : Int) &&& BitVec.ofInt 64 (b : Int)).toNat : Int) = _
  rw [BitVec.toNat_and, e a ha, e b hb, IntKind.wrap_i64]
  omega

theorem i64_and_exp {x : Nat} (h : x < 4294967296) : bits .and .i64 (x : Int) 2139095040 = ((x &&& 2139095040 : Nat) : Int) :=
  i64_and_nat x 2139095040 (by omega) (by decide)
theorem i64_and_sign {x : Nat} (h : x < 4294967296) : bits .and .i64 (x : Int) 2147483648 = ((x / 2147483648 * 2147483648 : Nat) : Int) := by
  have e := i64_and_nat x 2147483648 (by omega) (by decide)
  have e2 := nat_bit 31 x
  rw [show (2 : Nat) ^ 31 = 2147483648 from rfl] at e2
  rw [show ((2147483648 : Nat) : Int) = 2147483648 from rfl] at e
  rw [e, e2]
  have : x / 2147483648 < 2 := by omega
  rw [Nat.mod_eq_of_lt this]

theorem sgn64 {u : Nat} (h : u < 18446744073709551616) : sgn .f64 u = decide (9223372036854775808 ≤ u) := by
  unfold sgn; rw [sw64]
  by_cases hc : 9223372036854775808 ≤ u
  · have : u / 9223372036854775808 = 1 := by omega
    rw [this]; simp [hc]
  · have : u / 9223372036854775808 = 0 := by omega
    rw [this]; simp [hc]
theorem sgn32 {u : Nat} (h : u < 4294967296) : sgn .f32 u = decide (2147483648 ≤ u) := by
  unfold sgn; rw [sw32]
  by_cases hc : 2147483648 ≤ u
  · have : u / 2147483648 = 1 := by omega
    rw [this]; simp [hc]
  · have : u / 2147483648 = 0 := by omega
    rw [this]; simp [hc]
theorem rung64 (u : Nat) : rung .f64 u = u % 9223372036854775808 := by unfold rung; rw [sw64]
theorem rung32 (u : Nat) : rung .f32 u = u % 2147483648 := by unfold rung; rw [sw32]

/-- The absolute value. -/
def fabs (u : Nat) : Nat := if isN .f64 u then nanW .f64 else rung .f64 u

theorem fl_abs {x u : Nat} (hx : Fl .f64 x u) : Fl .f64 (x % 9223372036854775808) (fabs u) := by
  have hr : rung .f64 (x % 9223372036854775808) = rung .f64 x := by rw [rung64, rung64]; omega
  have hb : isN .f64 (x % 9223372036854775808) = isN .f64 x := by
    have h1 := isN_iff .f64 (x % 9223372036854775808)
    have h2 := isN_iff .f64 x
    rw [hr, ← h2] at h1
    cases hA : isN .f64 x
    · cases hB : isN .f64 (x % 9223372036854775808)
      · rfl
      · rw [h1] at hB; rw [hA] at hB; cases hB
    · exact h1.2 hA
  refine ⟨?_, ?_⟩
  · show _ < 18446744073709551616; omega
  · unfold fabs
    cases hn : isN .f64 u
    · rw [if_neg (by simp), ← hx.word hn]
      rw [nf_not (by rw [hb, ← hx.nanEq]; exact hn), rung64]
    · rw [if_pos rfl, nf_nan (by rw [hb, ← hx.nanEq]; exact hn)]

/-! ### package math -/

set_option maxHeartbeats 400000 in
theorem Abs_any (x u : Nat) (hx : Fl .f64 x u) (w : World) :
    Calls Tryz.prog 35 #[.float .f64 x] w fun e w' => (∃ r, e = .returned (.float .f64 r) ∧ Fl .f64 r (fabs u)) ∧ w = w' := by
  have hl : x < 18446744073709551616 := hx.lt
  have H := hid (andNot63 hl)
  have HF := hid (fl_abs hx)
  clear hx
  go_enter Tryz.func35, Tryz.ntmps35
  go_wp2
  go_ret
  exact ⟨⟨_, by simp only []; rw [H.out]; rfl, by rw [Int.toNat_natCast]; exact HF.out⟩, rfl⟩
set_option maxHeartbeats 400000 in
theorem Copysign_zero (y : Nat) (hl : y < 18446744073709551616) (w : World) :
    Calls Tryz.prog 28 #[.float .f64 0, .float .f64 y] w fun e w' => e = .returned (.float .f64 (y / 9223372036854775808 * 9223372036854775808)) ∧ w = w' := by
  have H := hid (and63 hl)
  have hq : y / 9223372036854775808 * 9223372036854775808 < 18446744073709551616 := by omega
  have H2 := hid (u64_or_nat 0 (y / 9223372036854775808 * 9223372036854775808) (by decide) hq)
  have H3 := hid (andNot63 (x := 0) (by decide))
  clear hq
  go_enter Tryz.func28, Tryz.ntmps28
  go_wp2
  go_ret
  refine ⟨?_, rfl⟩
  simp only []
  have e3 := H3.out
  have e2 := H2.out
  simp only [Nat.zero_mod, Int.natCast_zero] at e3 e2
  have e : (bits .or .u64 (bits .andNot .u64 0 9223372036854775808) (bits .and .u64 (y : Int) 9223372036854775808)).toNat = y / 9223372036854775808 * 9223372036854775808 := by
    rw [H.out, e3, e2, Nat.zero_or, Int.toNat_natCast]
  exact congrArg (fun z => Ending.returned (.float .f64 z)) e

/-! ### bits to numbers -/

set_option maxHeartbeats 400000 in
theorem l01From_any (n : Int) (h0 : 0 ≤ n) (h1 : n ≤ 4294967295) (w : World) :
    Calls Tryz.prog 23 #[.int .i64 n] w fun e w' => e = .returned (.float .f32 n.toNat) ∧ w = w' := by
  go_enter Tryz.func23, Tryz.ntmps23
  go_wp2
  go_ret
  exact ⟨rfl, rfl⟩
theorem within_any (n lo hi : Int) (w : World) :
    Calls Tryz.prog 25 #[.int .i64 n, .int .i64 lo, .int .i64 hi] w fun e w' => e = .returned (.bool (decide (lo ≤ n) && decide (n ≤ hi))) ∧ w = w' := by
  by_cases h : lo ≤ n
  · have h1 : decide (lo ≤ n) = true := by simpa using h
    go_enter Tryz.func25, Tryz.ntmps25
    go_wp2
    all_goals (go_ret; exact ⟨by simp [*], rfl⟩)
  · have h1 : decide (lo ≤ n) = false := by simpa using h
    go_enter Tryz.func25, Tryz.ntmps25
    go_wp2
    all_goals (go_ret; exact ⟨by simp [*], rfl⟩)
end Go.Proofs.YtgfnchggflecgaaGreatDoor
