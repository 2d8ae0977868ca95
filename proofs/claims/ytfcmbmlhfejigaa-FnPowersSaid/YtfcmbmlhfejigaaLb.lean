/-
  LOGARITHMS of 32-bit numbers. (Under way.) Own work.
-/
import Derived.Test.YtfcmbmlhfejigaaLa
namespace Go.Proofs.Ytfcmbmlhfejigaa
open Go.RowKit
theorem logV_pos {u : Nat} (h1 : isN .f32 u = false) (h2 : sgn .f32 u = false) (h3 : rung .f32 u ≠ 0) (h4 : rung .f32 u < 2139095040) : logV u = fnarrow (lnV (fwide u)) := by
  unfold logV
  rw [if_neg (by rw [h1]; decide), if_neg h3, if_neg (by rw [h2]; decide), if_neg (by omega)]
theorem logV_neg {u : Nat} (h1 : isN .f32 u = false) (h2 : sgn .f32 u = true) (h3 : rung .f32 u ≠ 0) : logV u = nanW .f32 := by
  unfold logV
  rw [if_neg (by rw [h1]; decide), if_neg h3, if_pos h2]
theorem finB_fin {u : Nat} (h : Fin .f32 u) : finB u = true := by
  unfold finB
  rw [fsub_fin h h, if_pos (by omega), show (vi .f32 u - vi .f32 u).natAbs = 0 by omega, rg_zero]
  cases sgn .f32 u <;> decide
/-- Comparisons with zero. -/
theorem cmp_zero {u : Nat} (h1 : isN .f32 u = false) (h3 : rung .f32 u ≠ 0) : fcmp .eql .f32 u 0 = false ∧ fcmp .lss .f32 u 0 = sgn .f32 u ∧ fcmp .neq .f32 u u = false := by
  have hz : isN .f32 0 = false := by decide
  have hk : key .f32 0 = 0 := by decide
  rw [feq_key h1 hz, flt_key h1 hz, hk, isN_ne, h1]
  unfold key sm
  cases sgn .f32 u
  · exact ⟨decide_eq_false (by simp; omega), decide_eq_false (by simp), rfl⟩
  · exact ⟨decide_eq_false (by simp; omega), decide_eq_true (by simp; omega), rfl⟩
set_option maxHeartbeats 800000 in
theorem LogNumber_any (x u : Nat) (hx : Fl .f32 x u) (w : World) :
    Calls Try.prog 8 #[.float .f32 x] w fun e w' => (∃ r, e = .returned (.float .f32 r) ∧ Fl .f32 r (logV u)) ∧ Dr w w' := by
  have h0 := fz32
  rcases log_kinds hx.vlt hx.canon with rfl | rfl | rfl | rfl | ⟨h1, h2, h3⟩ | ⟨h1, h2, h3, h4, h5⟩
  case inr.inr.inr.inr.inr =>
    obtain ⟨c1, c2, c3⟩ := cmp_zero h1 h3
    rw [h2] at c2
    have hb := fwide_fin h4
    rw [h2, word_false] at hb
    have lo := wr_lo h3
    have hi := wr_hi h4
    rw [← hb] at lo hi
    have HV := hid (logV_pos h1 h2 h3 h4)
    have hok := logOk lo hi
    have hfin := finB_fin (u := u) ⟨hx.vlt, by rw [inf32]; exact h4⟩
    have hnn : isN .f64 (fwide u) = false := (fin_small (Nat.lt_trans hi (by decide))).1.notN
    have HN : Hid (∀ x' w, Fl .f64 x' (fwide u) → Calls Try.prog 12 #[.float .f64 x'] w fun e w' => (∃ r, e = .returned (.float .f64 r) ∧ Fl .f64 r (lnV (fwide u))) ∧ Dr w w') := fun x' w hx' => by
      rw [hx'.word hnn]; exact naturalLog_any (fwide u) lo hi w
    obtain ⟨v, hv⟩ : ∃ v, lnV (fwide u) = v := ⟨_, rfl⟩
    rw [hv] at HV hok HN
    clear hv hnn
    clear lo hi hb h1 h2 h3 h4 h5
    go_enter Try.func8, Try.ntmps8
    go_wp2_with (first | (refine wpList_farith rfl _ _ _ _ _ rfl _ _ _ rfl rfl (by decide) (by assumption) (by assumption) ?_; intro _ _ _) | (refine wpList_fcmp rfl _ _ _ _ _ rfl _ _ _ rfl rfl (by decide) (by assumption) (by assumption) (by first | assumption | rfl) ?_) | (refine wpList_fwide rfl _ _ _ rfl _ rfl (Option.isSome_iff_exists.2 ⟨_, (by with_reducible exact Try.underlying24)⟩) (by with_reducible exact Try.underlying27) (by assumption) ?_; intro _ _ _) | (refine wpList_fnarrow rfl _ _ _ rfl _ rfl (Option.isSome_iff_exists.2 ⟨_, (by with_reducible exact Try.underlying27)⟩) (by with_reducible exact Try.underlying24) (by assumption) (by assumption) ?_; intro _ _ _) | (go_at_call 11; refine (IsFinite_any _ _ hx _).mono ?_; rw [hfin]; rintro e w' ⟨rfl, n2, rfl⟩) | (go_at_call 12; refine (HN.out _ _ (by assumption)).mono ?_; rintro e w' ⟨⟨r3, rfl, hr3⟩, n3, rfl⟩))
    go_ret
    exact ⟨⟨_, rfl, by rw [HV.out]; assumption⟩, _, rfl⟩
  case inr.inr.inr.inr.inl =>
    obtain ⟨c1, c2, c3⟩ := cmp_zero h1 h3
    rw [h2] at c2
    have HV := hid (logV_neg h1 h2 h3)
    clear h1 h2 h3
    go_enter Try.func8, Try.ntmps8
    go_wp2_with (first | (refine wpList_farith rfl _ _ _ _ _ rfl _ _ _ rfl rfl (by decide) (by assumption) (by assumption) ?_; intro _ _ _) | (refine wpList_fcmp rfl _ _ _ _ _ rfl _ _ _ rfl rfl (by decide) (by assumption) (by assumption) (by first | assumption | rfl) ?_) | (go_at_call 10; refine (NaN_any _).mono ?_; rintro e w' ⟨rfl, rfl⟩; have fq : Fl .f64 9221120237041090561 (nanW .f64) := ⟨by decide, by decide⟩; have okq : NarrowOk (nanW .f64) := nan_nanW; have eq1 : fnarrow (nanW .f64) = nanW .f32 := by decide) | (go_at_call 9; refine (Inf_neg _).mono ?_; rintro e w' ⟨rfl, rfl⟩; have fq : Fl .f64 18442240474082181120 18442240474082181120 := ⟨by decide, by decide⟩; have okq : NarrowOk 18442240474082181120 := narrowOk_inf (by decide)) | (refine wpList_fnarrow rfl _ _ _ rfl _ rfl (Option.isSome_iff_exists.2 ⟨_, (by with_reducible exact Try.underlying27)⟩) (by with_reducible exact Try.underlying24) (by assumption) (by assumption) ?_; intro _ _ _))
    go_ret
    exact ⟨⟨_, rfl, by rw [HV.out]; assumption⟩, _, rfl⟩
  case inl =>
    have c1 : fcmp .eql .f32 2143289344 0 = false := by decide
    have c2 : fcmp .lss .f32 2143289344 0 = false := by decide
    have c3 : fcmp .neq .f32 2143289344 2143289344 = true := by decide
    have HV := hid (show logV 2143289344 = nanW .f32 by decide)
    go_enter Try.func8, Try.ntmps8
    go_wp2_with (first | (refine wpList_farith rfl _ _ _ _ _ rfl _ _ _ rfl rfl (by decide) (by assumption) (by assumption) ?_; intro _ _ _) | (refine wpList_fcmp rfl _ _ _ _ _ rfl _ _ _ rfl rfl (by decide) (by assumption) (by assumption) (by first | assumption | rfl) ?_) | (go_at_call 10; refine (NaN_any _).mono ?_; rintro e w' ⟨rfl, rfl⟩; have fq : Fl .f64 9221120237041090561 (nanW .f64) := ⟨by decide, by decide⟩; have okq : NarrowOk (nanW .f64) := nan_nanW; have eq1 : fnarrow (nanW .f64) = nanW .f32 := by decide) | (go_at_call 9; refine (Inf_neg _).mono ?_; rintro e w' ⟨rfl, rfl⟩; have fq : Fl .f64 18442240474082181120 18442240474082181120 := ⟨by decide, by decide⟩; have okq : NarrowOk 18442240474082181120 := narrowOk_inf (by decide)) | (refine wpList_fnarrow rfl _ _ _ rfl _ rfl (Option.isSome_iff_exists.2 ⟨_, (by with_reducible exact Try.underlying27)⟩) (by with_reducible exact Try.underlying24) (by assumption) (by assumption) ?_; intro _ _ _))
    go_ret
    exact ⟨⟨_, rfl, by rw [HV.out]; assumption⟩, _, rfl⟩
  case inr.inl =>
    have c1 : fcmp .eql .f32 0 0 = true := by decide
    have HV := hid (show logV 0 = 4286578688 by decide)
    go_enter Try.func8, Try.ntmps8
    go_wp2_with (first | (refine wpList_farith rfl _ _ _ _ _ rfl _ _ _ rfl rfl (by decide) (by assumption) (by assumption) ?_; intro _ _ _) | (refine wpList_fcmp rfl _ _ _ _ _ rfl _ _ _ rfl rfl (by decide) (by assumption) (by assumption) (by first | assumption | rfl) ?_) | (go_at_call 10; refine (NaN_any _).mono ?_; rintro e w' ⟨rfl, rfl⟩; have fq : Fl .f64 9221120237041090561 (nanW .f64) := ⟨by decide, by decide⟩; have okq : NarrowOk (nanW .f64) := nan_nanW; have eq1 : fnarrow (nanW .f64) = nanW .f32 := by decide) | (go_at_call 9; refine (Inf_neg _).mono ?_; rintro e w' ⟨rfl, rfl⟩; have fq : Fl .f64 18442240474082181120 18442240474082181120 := ⟨by decide, by decide⟩; have okq : NarrowOk 18442240474082181120 := narrowOk_inf (by decide)) | (refine wpList_fnarrow rfl _ _ _ rfl _ rfl (Option.isSome_iff_exists.2 ⟨_, (by with_reducible exact Try.underlying27)⟩) (by with_reducible exact Try.underlying24) (by assumption) (by assumption) ?_; intro _ _ _))
    go_ret
    exact ⟨⟨_, rfl, by rw [HV.out]; assumption⟩, _, rfl⟩
  case inr.inr.inl =>
    have c1 : fcmp .eql .f32 2147483648 0 = true := by decide
    have HV := hid (show logV 2147483648 = 4286578688 by decide)
    go_enter Try.func8, Try.ntmps8
    go_wp2_with (first | (refine wpList_farith rfl _ _ _ _ _ rfl _ _ _ rfl rfl (by decide) (by assumption) (by assumption) ?_; intro _ _ _) | (refine wpList_fcmp rfl _ _ _ _ _ rfl _ _ _ rfl rfl (by decide) (by assumption) (by assumption) (by first | assumption | rfl) ?_) | (go_at_call 10; refine (NaN_any _).mono ?_; rintro e w' ⟨rfl, rfl⟩; have fq : Fl .f64 9221120237041090561 (nanW .f64) := ⟨by decide, by decide⟩; have okq : NarrowOk (nanW .f64) := nan_nanW; have eq1 : fnarrow (nanW .f64) = nanW .f32 := by decide) | (go_at_call 9; refine (Inf_neg _).mono ?_; rintro e w' ⟨rfl, rfl⟩; have fq : Fl .f64 18442240474082181120 18442240474082181120 := ⟨by decide, by decide⟩; have okq : NarrowOk 18442240474082181120 := narrowOk_inf (by decide)) | (refine wpList_fnarrow rfl _ _ _ rfl _ rfl (Option.isSome_iff_exists.2 ⟨_, (by with_reducible exact Try.underlying27)⟩) (by with_reducible exact Try.underlying24) (by assumption) (by assumption) ?_; intro _ _ _))
    go_ret
    exact ⟨⟨_, rfl, by rw [HV.out]; assumption⟩, _, rfl⟩
  case inr.inr.inr.inl =>
    have c1 : fcmp .eql .f32 2139095040 0 = false := by decide
    have c2 : fcmp .lss .f32 2139095040 0 = false := by decide
    have c3 : fcmp .neq .f32 2139095040 2139095040 = false := by decide
    have hfin : finB 2139095040 = false := by decide
    have HV := hid (show logV 2139095040 = 2139095040 by decide)
    go_enter Try.func8, Try.ntmps8
    go_wp2_with (first | (refine wpList_farith rfl _ _ _ _ _ rfl _ _ _ rfl rfl (by decide) (by assumption) (by assumption) ?_; intro _ _ _) | (refine wpList_fcmp rfl _ _ _ _ _ rfl _ _ _ rfl rfl (by decide) (by assumption) (by assumption) (by first | assumption | rfl) ?_) | (go_at_call 11; refine (IsFinite_any _ _ hx _).mono ?_; rw [hfin]; rintro e w' ⟨rfl, n2, rfl⟩))
    go_ret
    exact ⟨⟨_, rfl, by rw [HV.out]; assumption⟩, _, rfl⟩
end Go.Proofs.Ytfcmbmlhfejigaa
