/-
  WALKS: numbers, more: subnormal numbers, sameness, bits to numbers, flushing; the laws over them.
  Own work; no condition beyond what each theorem names.
-/
import Derived.Test.YtgfnchggflecgaaGreatDoorWb
namespace Go.Proofs.YtgfnchggflecgaaGreatDoor
open Go.RowKit

/-! ### plain facts -/

/-- Subnormal: not zero, below the first binade. -/
def isSub (u : Nat) : Bool := decide (0 < rung .f32 u ∧ rung .f32 u < 8388608)

theorem key_zero (k : FloatKind) : key k 0 = 0 := by cases k <;> decide
theorem key_eq_zero (k : FloatKind) (u : Nat) : key k u = 0 ↔ rung k u = 0 := by
  unfold key sm
  cases sgn k u <;> simp
theorem isN_zero (k : FloatKind) : isN k 0 = false := by cases k <;> decide

theorem fne_zero {u : Nat} : fcmp .neq .f32 u 0 = decide (rung .f32 u ≠ 0) := by
  cases hn : isN .f32 u
  · rw [fne_key hn (isN_zero _), key_zero]
    simp only [ne_eq, key_eq_zero]
  · have h1 : fcmp .neq .f32 u 0 = true := by simp [fcmp, fne, order_nan_left hn]
    have h2 := (isN_iff .f32 u).1 hn
    rw [inf32] at h2
    rw [h1]; symm; apply decide_eq_true; omega

theorem key_pos {k : FloatKind} {r : Nat} (h : r < k.format.signWeight) : key k r = r := by
  have hs : sgn k r = false := by
    have := sgn_word k false h
    simpa [Ieee.Format.word] using this
  have hr : rung k r = r := Nat.mod_eq_of_lt h
  unfold key sm
  rw [hs, hr]; simp

theorem sub_plain {u : Nat} (h0 : fcmp .neq .f32 u 0 = true) : fcmp .lss .f64 (fabs (fwide u)) 4039728865751334912 = isSub u := by
  rw [fne_zero] at h0
  have h0' : rung .f32 u ≠ 0 := of_decide_eq_true h0
  unfold isSub
  cases hn : isN .f32 u
  · have hp := fwide_parts hn
    have hle := notN hn
    rw [inf32] at hle
    have hf : fabs (fwide u) = rung .f64 (fwide u) := by unfold fabs; rw [if_neg (by simp [hp.2.1])]
    rw [hf, hp.2.2.1]
    by_cases h1 : rung .f32 u = 2139095040
    · rw [if_pos h1, h1]; decide
    · rw [if_neg h1]
      have h2 : rung .f32 u < 2139095040 := by omega
      have h3 := wr_lt h2
      rw [flt_key (notN_of_fin (by rw [rung64, inf64]; omega)) (by decide), key_pos (by rw [sw64]; omega), show key .f64 4039728865751334912 = 4039728865751334912 by decide]
      by_cases h4 : rung .f32 u < 8388608
      · obtain ⟨_, _, _, _, _, _, h5⟩ := wr_sig h2 h0'
        have := h5 h4
        simp [h4]; omega
      · have : wr (rung .f32 u) = rung .f32 u * 536870912 + 4035225266123964416 := by unfold wr; rw [if_neg h0', if_neg h4]
        rw [this]
        simp [h4]; omega
  · rw [fwide_nan hn]
    have h2 := (isN_iff .f32 u).1 hn
    rw [inf32] at h2
    have : fcmp .lss .f64 (fabs 9221120237041090560) 4039728865751334912 = false := by decide
    rw [this]; symm; apply decide_eq_false; omega

theorem sub_zero {u : Nat} (h0 : fcmp .neq .f32 u 0 = false) : isSub u = false := by
  rw [fne_zero] at h0
  have h0' := of_decide_eq_false h0
  unfold isSub; apply decide_eq_false; omega

theorem sub_spec {u : Nat} (hu : u < 4294967296) (h0 : fcmp .neq .f32 u 0 = true) : (bits .and .i64 (u : Int) 2139095040 == 0) = isSub u := by
  rw [fne_zero] at h0
  have h0' : rung .f32 u ≠ 0 := of_decide_eq_true h0
  rw [i64_and_exp hu]
  unfold isSub
  have h1 := and_exp u
  rw [rung32] at h0' ⊢
  rw [Bool.eq_iff_iff]
  simp only [beq_iff_eq, decide_eq_true_eq]
  omega

set_option maxHeartbeats 400000 in
theorem IsSubnormal_any (x u : Nat) (hx : Fl .f32 x u) (w : World) :
    Calls Tryz.prog 15 #[.float .f32 x] w fun e w' => e = .returned (.bool (isSub u)) ∧ Dr w w' := by
  have h0 := fz32
  have hc : Fl .f64 4039728865751334912 4039728865751334912 := Fl.lit (by decide) (by decide)
  cases hz : fcmp .neq .f32 u 0
  · have H := hid (sub_zero hz)
    go_enter Tryz.func15, Tryz.ntmps15
    go_wp2_with (first | (refine wpList_farith rfl _ _ _ _ _ rfl _ _ _ rfl rfl (by decide) (by assumption) (by assumption) ?_; intro _ _ _) | (refine wpList_fcmp rfl _ _ _ _ _ rfl _ _ _ rfl rfl (by decide) (by assumption) (by assumption) (by first | assumption | rfl) ?_) | (refine wpList_fwide rfl _ _ _ rfl _ rfl (Option.isSome_iff_exists.2 ⟨_, (by with_reducible exact Tryz.underlying24)⟩) (by with_reducible exact Tryz.underlying44) (by assumption) ?_; intro _ _ _))
    go_ret
    exact ⟨by rw [H.out]; rfl, by first | exact ⟨_, rfl⟩ | exact ⟨0, rfl⟩⟩
  · have H := hid (sub_plain hz)
    go_enter Tryz.func15, Tryz.ntmps15
    go_wp2_with (first | (refine wpList_farith rfl _ _ _ _ _ rfl _ _ _ rfl rfl (by decide) (by assumption) (by assumption) ?_; intro _ _ _) | (refine wpList_fcmp rfl _ _ _ _ _ rfl _ _ _ rfl rfl (by decide) (by assumption) (by assumption) (by first | assumption | rfl) ?_) | (refine wpList_fwide rfl _ _ _ rfl _ rfl (Option.isSome_iff_exists.2 ⟨_, (by with_reducible exact Tryz.underlying24)⟩) (by with_reducible exact Tryz.underlying44) (by assumption) ?_; intro _ _ _) | (go_at_call 35; refine (Abs_any _ _ (by assumption) _).mono ?_; rintro e w' ⟨⟨r, rfl, hr⟩, rfl⟩))
    go_ret
    exact ⟨by rw [← H.out]; rfl, by first | exact ⟨_, rfl⟩ | exact ⟨0, rfl⟩⟩

/-! ### sameness -/

theorem sgn_of_fwide {u : Nat} (hn : isN .f32 u = false) : sgn .f64 (fwide u) = sgn .f32 u := (fwide_parts hn).1

/-- Equal and of one sign: the same number. -/
theorem same_plain {u v : Nat} (hu : u < 2 ^ FloatKind.f32.format.width) (hv : v < 2 ^ FloatKind.f32.format.width) (nu : isN .f32 u = false) (nv : isN .f32 v = false) (he : fcmp .eql .f32 u v = true) :
    (sgn .f64 (fwide u) == sgn .f64 (fwide v)) = decide (u = v) := by
  rw [feq_key nu nv] at he
  have hk := of_decide_eq_true he
  rw [sgn_of_fwide nu, sgn_of_fwide nv]
  by_cases hs : sgn .f32 u = sgn .f32 v
  · have := key_inj hu hv hk hs
    rw [hs, decide_eq_true this]; simp
  · have : u ≠ v := fun e => hs (by rw [e])
    rw [decide_eq_false this]; simp [hs]

theorem same_not {u v : Nat} (nu : isN .f32 u = false) (nv : isN .f32 v = false) (he : fcmp .eql .f32 u v = false) : decide (u = v) = false := by
  rw [feq_key nu nv] at he
  have hk := of_decide_eq_false he
  apply decide_eq_false
  intro e; exact hk (by rw [e])


set_option maxHeartbeats 400000 in
theorem l01Same_any (x y u v : Nat) (hx : Fl .f32 x u) (hy : Fl .f32 y v) (w : World) :
    Calls Tryz.prog 34 #[.float .f32 x, .float .f32 y] w fun e w' => e = .returned (.bool (decide (u = v))) ∧ w = w' := by
  go_enter Tryz.func34, Tryz.ntmps34
  go_wp2_with (first | (go_at_call 50; refine (l01Bits_any _ _ (by assumption) _).mono ?_; rintro e w' ⟨rfl, rfl⟩))
  go_ret
  refine ⟨congrArg (fun b => Ending.returned (.bool b)) ?_, rfl⟩
  rw [Bool.eq_iff_iff]; simp; omega
set_option maxHeartbeats 400000 in
theorem sSameNumber_any (x y u v : Nat) (hx : Fl .f32 x u) (hy : Fl .f32 y v) (w : World) :
    Calls Tryz.prog 14 #[.float .f32 x, .float .f32 y] w fun e w' => e = .returned (.bool (decide (u = v))) ∧ w = w' := by
  go_enter Tryz.func14, Tryz.ntmps14
  go_wp2_with (first | (go_at_call 34; refine (l01Same_any _ _ _ _ hx hy _).mono ?_; rintro e w' ⟨rfl, rfl⟩))
  go_ret
  exact ⟨rfl, rfl⟩

/-! ### flushing -/

/-- A zero of its sign where it is below the first binade. -/
def flush (u : Nat) : Nat := if rung .f32 u < 8388608 then u / 2147483648 * 2147483648 else u

theorem flush_sub {u : Nat} (h : isSub u = true) : flush u = u / 2147483648 * 2147483648 := by
  unfold isSub at h
  have := of_decide_eq_true h
  unfold flush; rw [if_pos this.2]
theorem flush_not {u : Nat} (h : isSub u = false) : flush u = u := by
  unfold isSub at h
  have := of_decide_eq_false h
  unfold flush
  split
  · rw [rung32] at *; omega
  · rfl

theorem fl_signed_zero {u : Nat} (hu : u < 4294967296) : Fl .f32 (u / 2147483648 * 2147483648) (u / 2147483648 * 2147483648) := by
  have : u / 2147483648 * 2147483648 = 0 ∨ u / 2147483648 * 2147483648 = 2147483648 := by omega
  rcases this with h | h <;> rw [h]
  · exact Fl.lit (by decide) (by decide)
  · exact Fl.lit (by decide) (by decide)

theorem top_bit {u : Nat} (hu : u < 4294967296) (hc : 2147483648 ≤ u) : u / 2147483648 * 2147483648 = 2147483648 := by omega
theorem no_top_bit {u : Nat} (hc : ¬ 2147483648 ≤ u) : u / 2147483648 * 2147483648 = 0 := by omega

/-- The sign's zero, narrowed. -/
theorem narrow_sz {u : Nat} (hu : u < 4294967296) (hn : isN .f32 u = false) :
    fnarrow (fwide u / 9223372036854775808 * 9223372036854775808) = u / 2147483648 * 2147483648 ∧ NarrowOk (fwide u / 9223372036854775808 * 9223372036854775808) ∧
      Fl .f64 (fwide u / 9223372036854775808 * 9223372036854775808) (fwide u / 9223372036854775808 * 9223372036854775808) := by
  have hp := fwide_parts hn
  have h1 := sgn64 hp.2.2.2
  have h2 := sgn32 hu
  rw [hp.1, h2] at h1
  have hw := hp.2.2.2
  by_cases hc : 2147483648 ≤ u
  · have e1 : fwide u / 9223372036854775808 * 9223372036854775808 = 9223372036854775808 := by
      rw [decide_eq_true hc] at h1
      have := of_decide_eq_true h1.symm
      omega
    have e2 := top_bit hu hc
    rw [e1, e2]
    exact ⟨by decide, narrowOk_bd (N := 1) ⟨(by show (_ : Nat) < 18446744073709551616; omega), (by rw [rung64, bin64]; omega)⟩ (by decide), Fl.lit (by decide) (by decide)⟩
  · have e1 : fwide u / 9223372036854775808 * 9223372036854775808 = 0 := by
      rw [decide_eq_false hc] at h1
      have := of_decide_eq_false h1.symm
      omega
    have e2 := no_top_bit hc
    rw [e1, e2]
    exact ⟨by decide, narrowOk_bd (N := 1) ⟨(by show (_ : Nat) < 18446744073709551616; omega), (by rw [rung64, bin64]; omega)⟩ (by decide), Fl.lit (by decide) (by decide)⟩

theorem Copysign_fl (x u : Nat) (hx : Fl .f64 x u) (hn : isN .f64 u = false) (hz : Fl .f64 (u / 9223372036854775808 * 9223372036854775808) (u / 9223372036854775808 * 9223372036854775808)) (w : World) :
    Calls Tryz.prog 28 #[.float .f64 0, .float .f64 x] w fun e w' => (∃ r, e = .returned (.float .f64 r) ∧ Fl .f64 r (u / 9223372036854775808 * 9223372036854775808)) ∧ w = w' := by
  obtain rfl := hx.word hn
  exact (Copysign_zero x hx.lt w).mono fun e w' ⟨h1, h2⟩ => ⟨⟨_, h1, hz⟩, h2⟩

set_option maxHeartbeats 400000 in
theorem FlushNumber_any (x u : Nat) (hx : Fl .f32 x u) (w : World) :
    Calls Tryz.prog 8 #[.float .f32 x] w fun e w' => (∃ r, e = .returned (.float .f32 r) ∧ Fl .f32 r (flush u)) ∧ Dr w w' := by
  have hu : u < 4294967296 := hx.vlt
  cases hs : isSub u
  · have H := hid (flush_not hs)
    have hb : decide (isSub u = true) = false := by simp [hs]
    go_enter Tryz.func8, Tryz.ntmps8
    go_wp2_with (first | (go_at_call 15; refine (IsSubnormal_any _ _ hx _).mono ?_; rintro e w' ⟨rfl, n, rfl⟩))
    go_ret
    exact ⟨⟨_, rfl, by rw [H.out]; exact hx⟩, by first | exact ⟨_, rfl⟩ | exact ⟨0, rfl⟩⟩
  · have H := hid (flush_sub hs)
    have hn : isN .f32 u = false := by
      cases hc : isN .f32 u with
      | false => rfl
      | true =>
        have h2 := (isN_iff .f32 u).1 hc
        unfold isSub at hs
        have := of_decide_eq_true hs
        rw [inf32] at h2; omega
    obtain ⟨e1, e2, e3⟩ := narrow_sz hu hn
    have E1 := hid e1
    have n64 := (fwide_parts hn).2.1
    clear e1 hn
    go_enter Tryz.func8, Tryz.ntmps8
    go_wp2_with (first | (refine wpList_farith rfl _ _ _ _ _ rfl _ _ _ rfl rfl (by decide) (by assumption) (by assumption) ?_; intro _ _ _) | (refine wpList_fcmp rfl _ _ _ _ _ rfl _ _ _ rfl rfl (by decide) (by assumption) (by assumption) (by first | assumption | rfl) ?_) | (refine wpList_fwide rfl _ _ _ rfl _ rfl (Option.isSome_iff_exists.2 ⟨_, (by with_reducible exact Tryz.underlying24)⟩) (by with_reducible exact Tryz.underlying44) (by assumption) ?_; intro _ _ _) | (refine wpList_fnarrow rfl _ _ _ rfl _ rfl (Option.isSome_iff_exists.2 ⟨_, (by with_reducible exact Tryz.underlying44)⟩) (by with_reducible exact Tryz.underlying24) (by assumption) (by assumption) ?_; intro _ _ _) | (go_at_call 15; refine (IsSubnormal_any _ _ hx _).mono ?_; rintro e w' ⟨rfl, n, rfl⟩) | (go_at_call 28; refine (Copysign_fl _ _ (by assumption) n64 e3 _).mono ?_; rintro e w' ⟨⟨r, rfl, hr⟩, rfl⟩))
    go_ret
    exact ⟨⟨_, rfl, by rw [H.out, ← E1.out]; assumption⟩, by first | exact ⟨_, rfl⟩ | exact ⟨0, rfl⟩⟩

theorem flush_spec {u : Nat} (hu : u < 4294967296) (h : (bits .and .i64 (u : Int) 2139095040 == 0) = true) :
    flush u = u / 2147483648 * 2147483648 := by
  rw [i64_and_exp hu] at h
  have h1 := (and_exp u).1 (by simpa using h)
  unfold flush; rw [rung32, if_pos h1]
theorem flush_spec_not {u : Nat} (hu : u < 4294967296) (h : (bits .and .i64 (u : Int) 2139095040 == 0) = false) : flush u = u := by
  rw [i64_and_exp hu] at h
  have h1 : ¬ u % 2147483648 < 8388608 := fun e => by
    have := (and_exp u).2 e
    rw [this] at h; simp at h
  unfold flush; rw [rung32, if_neg h1]


/-! ### bits to numbers -/

set_option maxHeartbeats 400000 in
theorem FromBits_any (n : Int) (w : World) :
    Calls Tryz.prog 6 #[.int .i64 n] w fun e w' => e = .returned (.tuple #[.float .f32 (if 0 ≤ n ∧ n ≤ 4294967295 then n.toNat else 0), .bool (decide (0 ≤ n ∧ n ≤ 4294967295))]) ∧ w = w' := by
  by_cases h : 0 ≤ n ∧ n ≤ 4294967295
  · have H := hid h
    have h1 := h.1
    have h2 := h.2
    have hb : (decide (0 ≤ n) && decide (n ≤ 4294967295)) = true := by simp [h1, h2]
    clear h
    go_enter Tryz.func6, Tryz.ntmps6
    go_wp2_with (first | (go_at_call 25; refine (within_any _ _ _ _).mono ?_; rintro e w' ⟨rfl, rfl⟩))
    go_ret2
    exact ⟨by first | rfl | (rw [if_pos H.out, decide_eq_true H.out]; rfl), rfl⟩
  · have H := hid h
    have hb : (decide (0 ≤ n) && decide (n ≤ 4294967295)) = false := by
      rw [Bool.and_eq_false_iff]; simp; omega
    clear h
    go_enter Tryz.func6, Tryz.ntmps6
    go_wp2_with (first | (go_at_call 25; refine (within_any _ _ _ _).mono ?_; rw [hb]; rintro e w' ⟨rfl, rfl⟩))
    go_ret2
    exact ⟨by first | rfl | (rw [if_neg H.out, decide_eq_false H.out]; rfl), rfl⟩
end Go.Proofs.YtgfnchggflecgaaGreatDoor
