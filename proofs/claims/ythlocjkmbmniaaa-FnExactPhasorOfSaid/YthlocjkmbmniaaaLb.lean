/-
  LOGARITHMS of 32-bit numbers. (Under way.) Own work.
-/
import Derived.Test.YthlocjkmbmniaaaLa
namespace Go.Proofs.Ythlocjkmbmniaaa
open Go.RowKit
theorem logV_pos {u : Nat} (h1 : isN .f32 u = false) (h2 : sgn .f32 u = false) (h3 : rung .f32 u ≠ 0) (h4 : rung .f32 u < 2139095040) : logV u = fnarrow (lnV (fwide u)) := by
  unfold logV
  rw [if_neg (by rw [h1]; decide), if_neg h3, if_neg (by rw [h2]; decide), if_neg (by omega)]
theorem logV_neg {u : Nat} (h1 : isN .f32 u = false) (h2 : sgn .f32 u = true) (h3 : rung .f32 u ≠ 0) : logV u = nanW .f32 := by
  unfold logV
  rw [if_neg (by rw [h1]; decide), if_neg h3, if_pos h2]
theorem finB_fin {u : Nat} (h : Fin .f32 u) : finB u = true := by
  unfold finB
  rw [fsub_fin h h, if_pos (by omega), show (vi .f32 u - vi .f32 u).natAbs = 0 by omega, rg_zero]
  cases sgn .f32 u <;> decide
/-- Comparisons with zero. -/
theorem cmp_zero {u : Nat} (h1 : isN .f32 u = false) (h3 : rung .f32 u ≠ 0) : fcmp .eql .f32 u 0 = false ∧ fcmp .lss .f32 u 0 = sgn .f32 u ∧ fcmp .neq .f32 u u = false := by
  have hz : isN .f32 0 = false := by decide
  have hk : key .f32 0 = 0 := by decide
  rw [feq_key h1 hz, flt_key h1 hz, hk, isN_ne, h1]
  unfold key sm
  cases sgn .f32 u
  · exact ⟨decide_eq_false (by simp; omega), decide_eq_false (by simp), rfl⟩
  · exact ⟨decide_eq_false (by simp; omega), decide_eq_true (by simp; omega), rfl⟩
set_option maxHeartbeats 800000 in
theorem LogNumber_any (x u : Nat) (hx : Fl .f32 x u) (w : World) :
    Calls Try.prog 29 #[.float .f32 x] w fun e w' => (∃ r, e = .returned (.float .f32 r) ∧ Fl .f32 r (logV u)) ∧ Dr w w' := by
  have h0 := fz32
  rcases log_kinds hx.vlt hx.canon with rfl | rfl | rfl | rfl | ⟨h1, h2, h3⟩ | ⟨h1, h2, h3, h4, h5⟩
  case inr.inr.inr.inr.inr =>
    obtain ⟨c1, c2, c3⟩ := cmp_zero h1 h3
    rw [h2] at c2
    have hb := fwide_fin h4
    rw [h2, word_false] at hb
    have lo := wr_lo h3
    have hi := wr_hi h4
    rw [← hb] at lo hi
    have HV := hid (logV_pos h1 h2 h3 h4)
    have hok := logOk lo hi
    have hfin := finB_fin (u := u) ⟨hx.vlt, by rw [inf32]; exact h4⟩
    have hnn : isN .f64 (fwide u) = false := (fin_small (Nat.lt_trans hi (by decide))).1.notN
    have HN : Hid (∀ x' w, Fl .f64 x' (fwide u) → Calls Try.prog 57 #[.float .f64 x'] w fun e w' => (∃ r, e = .returned (.float .f64 r) ∧ Fl .f64 r (lnV (fwide u))) ∧ Dr w w') := fun x' w hx' => by
      rw [hx'.word hnn]; exact naturalLog_any (fwide u) lo hi w
    obtain ⟨v, hv⟩ : ∃ v, lnV (fwide u) = v := ⟨_, rfl⟩
    rw [hv] at HV hok HN
    clear hv hnn
    clear lo hi hb h1 h2 h3 h4 h5
    go_enter Try.func29, Try.ntmps29
    go_wp2_with (first | (refine wpList_farith rfl _ _ _ _ _ rfl _ _ _ rfl rfl (by decide) (by assumption) (by assumption) ?_; intro _ _ _) | (refine wpList_fcmp rfl _ _ _ _ _ rfl _ _ _ rfl rfl (by decide) (by assumption) (by assumption) (by first | assumption | rfl) ?_) | (refine wpList_fwide rfl _ _ _ rfl _ rfl (Option.isSome_iff_exists.2 ⟨_, (by with_reducible exact Try.underlying23)⟩) (by with_reducible exact Try.underlying28) (by assumption) ?_; intro _ _ _) | (refine wpList_fnarrow rfl _ _ _ rfl _ rfl (Option.isSome_iff_exists.2 ⟨_, (by with_reducible exact Try.underlying28)⟩) (by with_reducible exact Try.underlying23) (by assumption) (by assumption) ?_; intro _ _ _) | (go_at_call 49; refine (IsFinite_any _ _ hx _).mono ?_; rw [hfin]; rintro e w' ⟨rfl, n2, rfl⟩) | (go_at_call 57; refine (HN.out _ _ (by assumption)).mono ?_; rintro e w' ⟨⟨r3, rfl, hr3⟩, n3, rfl⟩))
    go_ret
    exact ⟨⟨_, rfl, by rw [HV.out]; assumption⟩, _, rfl⟩
  case inr.inr.inr.inr.inl =>
    obtain ⟨c1, c2, c3⟩ := cmp_zero h1 h3
    rw [h2] at c2
    have HV := hid (logV_neg h1 h2 h3)
    clear h1 h2 h3
    go_enter Try.func29, Try.ntmps29
    go_wp2_with (first | (refine wpList_farith rfl _ _ _ _ _ rfl _ _ _ rfl rfl (by decide) (by assumption) (by assumption) ?_; intro _ _ _) | (refine wpList_fcmp rfl _ _ _ _ _ rfl _ _ _ rfl rfl (by decide) (by assumption) (by assumption) (by first | assumption | rfl) ?_) | (go_at_call 50; refine (NaN_any _).mono ?_; rintro e w' ⟨rfl, rfl⟩; have fq : Fl .f64 9221120237041090561 (nanW .f64) := ⟨by decide, by decide⟩; have okq : NarrowOk (nanW .f64) := nan_nanW; have eq1 : fnarrow (nanW .f64) = nanW .f32 := by decide) | (go_at_call 56; refine (Inf_neg _).mono ?_; rintro e w' ⟨rfl, rfl⟩; have fq : Fl .f64 18442240474082181120 18442240474082181120 := ⟨by decide, by decide⟩; have okq : NarrowOk 18442240474082181120 := narrowOk_inf (by decide)) | (refine wpList_fnarrow rfl _ _ _ rfl _ rfl (Option.isSome_iff_exists.2 ⟨_, (by with_reducible exact Try.underlying28)⟩) (by with_reducible exact Try.underlying23) (by assumption) (by assumption) ?_; intro _ _ _))
    go_ret
    exact ⟨⟨_, rfl, by rw [HV.out]; assumption⟩, _, rfl⟩
  case inl =>
    have c1 : fcmp .eql .f32 2143289344 0 = false := by decide
    have c2 : fcmp .lss .f32 2143289344 0 = false := by decide
    have c3 : fcmp .neq .f32 2143289344 2143289344 = true := by decide
    have HV := hid (show logV 2143289344 = nanW .f32 by decide)
    go_enter Try.func29, Try.ntmps29
    go_wp2_with (first | (refine wpList_farith rfl _ _ _ _ _ rfl _ _ _ rfl rfl (by decide) (by assumption) (by assumption) ?_; intro _ _ _) | (refine wpList_fcmp rfl _ _ _ _ _ rfl _ _ _ rfl rfl (by decide) (by assumption) (by assumption) (by first | assumption | rfl) ?_) | (go_at_call 50; refine (NaN_any _).mono ?_; rintro e w' ⟨rfl, rfl⟩; have fq : Fl .f64 9221120237041090561 (nanW .f64) := ⟨by decide, by decide⟩; have okq : NarrowOk (nanW .f64) := nan_nanW; have eq1 : fnarrow (nanW .f64) = nanW .f32 := by decide) | (go_at_call 56; refine (Inf_neg _).mono ?_; rintro e w' ⟨rfl, rfl⟩; have fq : Fl .f64 18442240474082181120 18442240474082181120 := ⟨by decide, by decide⟩; have okq : NarrowOk 18442240474082181120 := narrowOk_inf (by decide)) | (refine wpList_fnarrow rfl _ _ _ rfl _ rfl (Option.isSome_iff_exists.2 ⟨_, (by with_reducible exact Try.underlying28)⟩) (by with_reducible exact Try.underlying23) (by assumption) (by assumption) ?_; intro _ _ _))
    go_ret
    exact ⟨⟨_, rfl, by rw [HV.out]; assumption⟩, _, rfl⟩
  case inr.inl =>
    have c1 : fcmp .eql .f32 0 0 = true := by decide
    have HV := hid (show logV 0 = 4286578688 by decide)
    go_enter Try.func29, Try.ntmps29
    go_wp2_with (first | (refine wpList_farith rfl _ _ _ _ _ rfl _ _ _ rfl rfl (by decide) (by assumption) (by assumption) ?_; intro _ _ _) | (refine wpList_fcmp rfl _ _ _ _ _ rfl _ _ _ rfl rfl (by decide) (by assumption) (by assumption) (by first | assumption | rfl) ?_) | (go_at_call 50; refine (NaN_any _).mono ?_; rintro e w' ⟨rfl, rfl⟩; have fq : Fl .f64 9221120237041090561 (nanW .f64) := ⟨by decide, by decide⟩; have okq : NarrowOk (nanW .f64) := nan_nanW; have eq1 : fnarrow (nanW .f64) = nanW .f32 := by decide) | (go_at_call 56; refine (Inf_neg _).mono ?_; rintro e w' ⟨rfl, rfl⟩; have fq : Fl .f64 18442240474082181120 18442240474082181120 := ⟨by decide, by decide⟩; have okq : NarrowOk 18442240474082181120 := narrowOk_inf (by decide)) | (refine wpList_fnarrow rfl _ _ _ rfl _ rfl (Option.isSome_iff_exists.2 ⟨_, (by with_reducible exact Try.underlying28)⟩) (by with_reducible exact Try.underlying23) (by assumption) (by assumption) ?_; intro _ _ _))
    go_ret
    exact ⟨⟨_, rfl, by rw [HV.out]; assumption⟩, _, rfl⟩
  case inr.inr.inl =>
    have c1 : fcmp .eql .f32 2147483648 0 = true := by decide
    have HV := hid (show logV 2147483648 = 4286578688 by decide)
    go_enter Try.func29, Try.ntmps29
    go_wp2_with (first | (refine wpList_farith rfl _ _ _ _ _ rfl _ _ _ rfl rfl (by decide) (by assumption) (by assumption) ?_; intro _ _ _) | (refine wpList_fcmp rfl _ _ _ _ _ rfl _ _ _ rfl rfl (by decide) (by assumption) (by assumption) (by first | assumption | rfl) ?_) | (go_at_call 50; refine (NaN_any _).mono ?_; rintro e w' ⟨rfl, rfl⟩; have fq : Fl .f64 9221120237041090561 (nanW .f64) := ⟨by decide, by decide⟩; have okq : NarrowOk (nanW .f64) := nan_nanW; have eq1 : fnarrow (nanW .f64) = nanW .f32 := by decide) | (go_at_call 56; refine (Inf_neg _).mono ?_; rintro e w' ⟨rfl, rfl⟩; have fq : Fl .f64 18442240474082181120 18442240474082181120 := ⟨by decide, by decide⟩; have okq : NarrowOk 18442240474082181120 := narrowOk_inf (by decide)) | (refine wpList_fnarrow rfl _ _ _ rfl _ rfl (Option.isSome_iff_exists.2 ⟨_, (by with_reducible exact Try.underlying28)⟩) (by with_reducible exact Try.underlying23) (by assumption) (by assumption) ?_; intro _ _ _))
    go_ret
    exact ⟨⟨_, rfl, by rw [HV.out]; assumption⟩, _, rfl⟩
  case inr.inr.inr.inl =>
    have c1 : fcmp .eql .f32 2139095040 0 = false := by decide
    have c2 : fcmp .lss .f32 2139095040 0 = false := by decide
    have c3 : fcmp .neq .f32 2139095040 2139095040 = false := by decide
    have hfin : finB 2139095040 = false := by decide
    have HV := hid (show logV 2139095040 = 2139095040 by decide)
    go_enter Try.func29, Try.ntmps29
    go_wp2_with (first | (refine wpList_farith rfl _ _ _ _ _ rfl _ _ _ rfl rfl (by decide) (by assumption) (by assumption) ?_; intro _ _ _) | (refine wpList_fcmp rfl _ _ _ _ _ rfl _ _ _ rfl rfl (by decide) (by assumption) (by assumption) (by first | assumption | rfl) ?_) | (go_at_call 49; refine (IsFinite_any _ _ hx _).mono ?_; rw [hfin]; rintro e w' ⟨rfl, n2, rfl⟩))
    go_ret
    exact ⟨⟨_, rfl, by rw [HV.out]; assumption⟩, _, rfl⟩
theorem wide_nan (x : Nat) (hx : Fl .f64 x 9221120237041090560) (w : World) :
    Calls Try.prog 81 #[.float .f64 x] w fun e w' => (∃ r, e = .returned (.float .f64 r) ∧ Fl .f64 r (nanW .f64)) ∧ Dr w w' := by
  have h0 := fz64
  have fq : Fl .f64 9221120237041090561 (nanW .f64) := ⟨by decide, by decide⟩
  have fi : Fl .f64 18442240474082181120 18442240474082181120 := ⟨by decide, by decide⟩
  have c3 : fcmp .neq .f64 9221120237041090560 9221120237041090560 = true := by decide
  have c4 : fcmp .gtr .f64 9221120237041090560 9218868437227405311 = false := by decide
  go_enter Try.func81, Try.ntmps81
  go_wp2_with (first | (refine wpList_farith rfl _ _ _ _ _ rfl _ _ _ rfl rfl (by decide) (by assumption) (by assumption) ?_; intro _ _ _) | (refine wpList_fcmp rfl _ _ _ _ _ rfl _ _ _ rfl rfl (by decide) (by assumption) (by assumption) (by first | assumption | rfl) ?_) | (go_at_call 50; refine (NaN_any _).mono ?_; rintro e w' ⟨rfl, rfl⟩) | (go_at_call 56; refine (Inf_neg _).mono ?_; rintro e w' ⟨rfl, rfl⟩) | (go_at_call 88; refine (IsInf_any _ _ hx _).mono ?_; rw [c4]; rintro e w' ⟨rfl, rfl⟩))
  go_ret
  exact ⟨⟨_, rfl, by assumption⟩, 0, rfl⟩
theorem wide_zero (x : Nat) (hx : Fl .f64 x 0) (w : World) :
    Calls Try.prog 81 #[.float .f64 x] w fun e w' => (∃ r, e = .returned (.float .f64 r) ∧ Fl .f64 r 18442240474082181120) ∧ Dr w w' := by
  have h0 := fz64
  have fq : Fl .f64 9221120237041090561 (nanW .f64) := ⟨by decide, by decide⟩
  have fi : Fl .f64 18442240474082181120 18442240474082181120 := ⟨by decide, by decide⟩
  have c3 : fcmp .neq .f64 0 0 = false := by decide
  have c2 : fcmp .lss .f64 0 0 = false := by decide
  have c1 : fcmp .eql .f64 0 0 = true := by decide
  have c4 : fcmp .gtr .f64 0 9218868437227405311 = false := by decide
  go_enter Try.func81, Try.ntmps81
  go_wp2_with (first | (refine wpList_farith rfl _ _ _ _ _ rfl _ _ _ rfl rfl (by decide) (by assumption) (by assumption) ?_; intro _ _ _) | (refine wpList_fcmp rfl _ _ _ _ _ rfl _ _ _ rfl rfl (by decide) (by assumption) (by assumption) (by first | assumption | rfl) ?_) | (go_at_call 50; refine (NaN_any _).mono ?_; rintro e w' ⟨rfl, rfl⟩) | (go_at_call 56; refine (Inf_neg _).mono ?_; rintro e w' ⟨rfl, rfl⟩) | (go_at_call 88; refine (IsInf_any _ _ hx _).mono ?_; rw [c4]; rintro e w' ⟨rfl, rfl⟩))
  go_ret
  exact ⟨⟨_, rfl, by assumption⟩, 0, rfl⟩
theorem wide_mzero (x : Nat) (hx : Fl .f64 x 9223372036854775808) (w : World) :
    Calls Try.prog 81 #[.float .f64 x] w fun e w' => (∃ r, e = .returned (.float .f64 r) ∧ Fl .f64 r 18442240474082181120) ∧ Dr w w' := by
  have h0 := fz64
  have fq : Fl .f64 9221120237041090561 (nanW .f64) := ⟨by decide, by decide⟩
  have fi : Fl .f64 18442240474082181120 18442240474082181120 := ⟨by decide, by decide⟩
  have c3 : fcmp .neq .f64 9223372036854775808 9223372036854775808 = false := by decide
  have c2 : fcmp .lss .f64 9223372036854775808 0 = false := by decide
  have c1 : fcmp .eql .f64 9223372036854775808 0 = true := by decide
  have c4 : fcmp .gtr .f64 9223372036854775808 9218868437227405311 = false := by decide
  go_enter Try.func81, Try.ntmps81
  go_wp2_with (first | (refine wpList_farith rfl _ _ _ _ _ rfl _ _ _ rfl rfl (by decide) (by assumption) (by assumption) ?_; intro _ _ _) | (refine wpList_fcmp rfl _ _ _ _ _ rfl _ _ _ rfl rfl (by decide) (by assumption) (by assumption) (by first | assumption | rfl) ?_) | (go_at_call 50; refine (NaN_any _).mono ?_; rintro e w' ⟨rfl, rfl⟩) | (go_at_call 56; refine (Inf_neg _).mono ?_; rintro e w' ⟨rfl, rfl⟩) | (go_at_call 88; refine (IsInf_any _ _ hx _).mono ?_; rw [c4]; rintro e w' ⟨rfl, rfl⟩))
  go_ret
  exact ⟨⟨_, rfl, by assumption⟩, 0, rfl⟩
theorem wide_inf (x : Nat) (hx : Fl .f64 x 9218868437227405312) (w : World) :
    Calls Try.prog 81 #[.float .f64 x] w fun e w' => (∃ r, e = .returned (.float .f64 r) ∧ Fl .f64 r 9218868437227405312) ∧ Dr w w' := by
  have h0 := fz64
  have fq : Fl .f64 9221120237041090561 (nanW .f64) := ⟨by decide, by decide⟩
  have fi : Fl .f64 18442240474082181120 18442240474082181120 := ⟨by decide, by decide⟩
  have c3 : fcmp .neq .f64 9218868437227405312 9218868437227405312 = false := by decide
  have c2 : fcmp .lss .f64 9218868437227405312 0 = false := by decide
  have c1 : fcmp .eql .f64 9218868437227405312 0 = false := by decide
  have c4 : fcmp .gtr .f64 9218868437227405312 9218868437227405311 = true := by decide
  go_enter Try.func81, Try.ntmps81
  go_wp2_with (first | (refine wpList_farith rfl _ _ _ _ _ rfl _ _ _ rfl rfl (by decide) (by assumption) (by assumption) ?_; intro _ _ _) | (refine wpList_fcmp rfl _ _ _ _ _ rfl _ _ _ rfl rfl (by decide) (by assumption) (by assumption) (by first | assumption | rfl) ?_) | (go_at_call 50; refine (NaN_any _).mono ?_; rintro e w' ⟨rfl, rfl⟩) | (go_at_call 56; refine (Inf_neg _).mono ?_; rintro e w' ⟨rfl, rfl⟩) | (go_at_call 88; refine (IsInf_any _ _ hx _).mono ?_; rw [c4]; rintro e w' ⟨rfl, rfl⟩))
  go_ret
  exact ⟨⟨_, rfl, by assumption⟩, 0, rfl⟩
theorem wide_neg (x u : Nat) (hx : Fl .f64 x u) (c3 : fcmp .neq .f64 u u = false) (c2 : fcmp .lss .f64 u 0 = true) (w : World) :
    Calls Try.prog 81 #[.float .f64 x] w fun e w' => (∃ r, e = .returned (.float .f64 r) ∧ Fl .f64 r (nanW .f64)) ∧ Dr w w' := by
  have h0 := fz64
  have fq : Fl .f64 9221120237041090561 (nanW .f64) := ⟨by decide, by decide⟩
  go_enter Try.func81, Try.ntmps81
  go_wp2_with (first | (refine wpList_farith rfl _ _ _ _ _ rfl _ _ _ rfl rfl (by decide) (by assumption) (by assumption) ?_; intro _ _ _) | (refine wpList_fcmp rfl _ _ _ _ _ rfl _ _ _ rfl rfl (by decide) (by assumption) (by assumption) (by first | assumption | rfl) ?_) | (go_at_call 50; refine (NaN_any _).mono ?_; rintro e w' ⟨rfl, rfl⟩))
  go_ret
  exact ⟨⟨_, rfl, by assumption⟩, 0, rfl⟩
theorem neg_wide {u : Nat} (h1 : isN .f32 u = false) (h2 : sgn .f32 u = true) (h3 : rung .f32 u ≠ 0) : fcmp .neq .f64 (fwide u) (fwide u) = false ∧ fcmp .lss .f64 (fwide u) 0 = true := by
  obtain ⟨p1, p2, p3⟩ := fwide_parts h1
  have hz : isN .f64 0 = false := by decide
  refine ⟨by rw [isN_ne]; exact p2, ?_⟩
  have hr : rung .f64 (fwide u) ≠ 0 := by
    have hl := notN h1
    rw [inf32] at hl
    rcases Nat.lt_or_eq_of_le hl with h | h
    · rw [fwide_fin h, rung_word .f64 _ (Nat.lt_trans (wr_lt h) (by decide))]
      intro hh
      exact h3 ((wr_pos h).1 hh)
    · rw [fwide_inf h, rung_word .f64 _ (by decide)]; decide
  rw [flt_key p2 hz, key_zero]
  unfold key sm
  rw [p1, h2]
  exact decide_eq_true (by simp; omega)
theorem l01Log_any (x u : Nat) (hx : Fl .f32 x u) (w : World) :
    Calls Try.prog 55 #[.float .f32 x] w fun e w' => (∃ r, e = .returned (.float .f32 r) ∧ Fl .f32 r (logV u)) ∧ Dr w w' := by
  have HK : ∃ W, NarrowOk W ∧ fnarrow W = logV u ∧ ∀ x' w, Fl .f64 x' (fwide u) → Calls Try.prog 81 #[.float .f64 x'] w fun e w' => (∃ r, e = .returned (.float .f64 r) ∧ Fl .f64 r W) ∧ Dr w w' := by
    rcases log_kinds hx.vlt hx.canon with rfl | rfl | rfl | rfl | ⟨h1, h2, h3⟩ | ⟨h1, h2, h3, h4, h5⟩
    · exact ⟨nanW .f64, nan_nanW, by decide, fun x' w hx' => wide_nan x' (by rwa [show fwide 2143289344 = 9221120237041090560 by decide] at hx') w⟩
    · exact ⟨18442240474082181120, narrowOk_inf (by decide), by decide, fun x' w hx' => wide_zero x' (by rwa [show fwide 0 = 0 by decide] at hx') w⟩
    · exact ⟨18442240474082181120, narrowOk_inf (by decide), by decide, fun x' w hx' => wide_mzero x' (by rwa [show fwide 2147483648 = 9223372036854775808 by decide] at hx') w⟩
    · exact ⟨9218868437227405312, narrowOk_inf (by decide), by decide, fun x' w hx' => wide_inf x' (by rwa [show fwide 2139095040 = 9218868437227405312 by decide] at hx') w⟩
    · obtain ⟨c3, c2⟩ := neg_wide h1 h2 h3
      exact ⟨nanW .f64, nan_nanW, by rw [logV_neg h1 h2 h3]; decide, fun x' w hx' => wide_neg x' _ hx' c3 c2 w⟩
    · have hb := fwide_fin h4
      rw [h2, word_false] at hb
      have lo := wr_lo h3
      have hi := wr_hi h4
      rw [← hb] at lo hi
      have hnn : isN .f64 (fwide u) = false := (fin_small (Nat.lt_trans hi (by decide))).1.notN
      exact ⟨lnV (fwide u), logOk lo hi, (logV_pos h1 h2 h3 h4).symm, fun x' w hx' => by rw [hx'.word hnn]; exact l01LogWide_any (fwide u) lo hi w⟩
  obtain ⟨W, hok, hW, HC⟩ := HK
  have HN := hid HC
  have HV := hid hW
  clear HC hW
  go_enter Try.func55, Try.ntmps55
  go_wp2_with (first | (refine wpList_fwide rfl _ _ _ rfl _ rfl (Option.isSome_iff_exists.2 ⟨_, (by with_reducible exact Try.underlying23)⟩) (by with_reducible exact Try.underlying28) (by assumption) ?_; intro _ _ _) | (go_at_call 81; refine (HN.out _ _ (by assumption)).mono ?_; rintro e w' ⟨⟨r3, rfl, hr3⟩, n3, rfl⟩) | (go_at_call 76; refine (l01Narrow_any _ _ (by assumption) hok _).mono ?_; rintro e w' ⟨⟨r4, rfl, hr4⟩, n4, rfl⟩))
  go_ret
  exact ⟨⟨_, rfl, by rw [← HV.out]; assumption⟩, _, rfl⟩
theorem sLogNumber_any (x u : Nat) (hx : Fl .f32 x u) (w : World) :
    Calls Try.prog 28 #[.float .f32 x] w fun e w' => (∃ r, e = .returned (.float .f32 r) ∧ Fl .f32 r (logV u)) ∧ Dr w w' := by
  go_enter Try.func28, Try.ntmps28
  go_wp2_with (first | (go_at_call 55; refine (l01Log_any _ _ hx _).mono ?_; rintro e w' ⟨⟨r2, rfl, hr2⟩, n2, rfl⟩))
  go_ret
  exact ⟨⟨_, rfl, by assumption⟩, _, rfl⟩
theorem FnExactLogNumber_walk (a0 : Nat) (w : World) (w0 : (Lit.float .f32 a0).wf = true) :
    Calls Try.prog 8 #[.float .f32 a0] w fun e w' => e = .returned (.bool true) ∧ Below w.heap.size w w' := by
  have hx := fl_of_wf w0
  generalize nf .f32 a0 = u at hx
  go_enter Try.func8, Try.ntmps8
  go_wp2_with (first | (refine wpList_fwide rfl _ _ _ rfl _ rfl (Option.isSome_iff_exists.2 ⟨_, (by with_reducible exact Try.underlying23)⟩) (by with_reducible exact Try.underlying28) (by assumption) ?_; intro _ _ _) | (go_at_call 28; refine (sLogNumber_any _ _ hx _).mono ?_; rintro e w' ⟨⟨r, rfl, hr⟩, n, rfl⟩) | (go_at_call 29; refine (LogNumber_any _ _ hx _).mono ?_; rintro e w' ⟨⟨r2, rfl, hr2⟩, n2, rfl⟩) | (go_at_call 18; refine (sameFloat_true _ _ (fwide (logV u)) (by assumption) (by assumption) _).mono ?_; rintro e w' ⟨rfl, n3, rfl⟩))
  go_ret
  exact ⟨rfl, below_drewN (Below.refl _ _) _⟩
end Go.Proofs.Ythlocjkmbmniaaa
