/-
  ANGLES: all kinds of numbers, and the law's walk. Own work; no condition beyond what each theorem names.
-/
import Derived.Test.YthlocjkmbmniaaaLe
import Derived.Test.YthlocjkmbmniaaaLf
import Derived.Test.YthlocjkmbmniaaaFr
namespace Go.Proofs.Ythlocjkmbmniaaa
open Go.RowKit
set_option exponentiation.threshold 2000

def angT (y x : Nat) : Nat := if finB x && finB y then (if rung .f32 x = 0 ∧ rung .f32 y = 0 then 0 else fnarrow (angW y x)) else nanW .f32
theorem angW_ok {y x : Nat} (hy : Fin .f32 y) (hx : Fin .f32 x) (h : ¬ (rung .f32 x = 0 ∧ rung .f32 y = 0)) : NarrowOk (angW y x) := aF_ok (tK_up (qt_up hy hx h) 3) _ _ _
theorem wide_not {u : Nat} (hu : u < 2 ^ FloatKind.f32.format.width) (hc : nf .f32 u = u) (h : finB u = false) : fcmp .neq .f64 (fbin .sub .f64 (fwide u) (fwide u)) 0 = true := by
  rcases num_kinds hu hc with rfl | rfl | rfl | hF
  · decide
  · decide
  · decide
  · rw [finB_fin hF] at h; cases h
theorem wide_yes {u : Nat} (h : Fin .f32 u) : fcmp .neq .f64 (fbin .sub .f64 (fwide u) (fwide u)) 0 = false := by rw [sub_self (wide_Fin h)]; decide
theorem rung_zero_eql {u : Nat} (h : Fin .f32 u) (h0 : rung .f32 u = 0) : fcmp .eql .f32 u 0 = true := by rw [eql_zero h]; exact decide_eq_true h0
set_option maxHeartbeats 800000 in
theorem AngleTurns_any (a b y x : Nat) (fy : Fl .f32 a y) (fx : Fl .f32 b x) (w : World) :
    Calls Try.prog 40 #[.float .f32 a, .float .f32 b] w fun e w' => (∃ r, e = .returned (.float .f32 r) ∧ Fl .f32 r (angT y x)) ∧ Dr w w' := by
  have h0 := fz32
  cases n2 : finB x
  · have HV : Hid (angT y x = nanW .f32) := by unfold Hid angT; rw [n2]; rfl
    go_enter Try.func40, Try.ntmps40
    go_wp2_with (first | (go_at_call 49; refine (IsFinite_any _ _ (by assumption) _).mono ?_; rw [n2]; rintro e w' ⟨rfl, n3, rfl⟩) | (go_at_call 50; refine (NaN_any _).mono ?_; rintro e w' ⟨rfl, rfl⟩; have fq : Fl .f64 9221120237041090561 (nanW .f64) := ⟨by decide, by decide⟩; have okq : NarrowOk (nanW .f64) := nan_nanW; have eq1 : fnarrow (nanW .f64) = nanW .f32 := by decide) | (refine wpList_fnarrow rfl _ _ _ rfl _ rfl (Option.isSome_iff_exists.2 ⟨_, (by with_reducible exact Try.underlying28)⟩) (by with_reducible exact Try.underlying23) (by assumption) (by assumption) ?_; intro _ _ _))
    go_ret
    exact ⟨⟨_, rfl, by rw [HV.out]; assumption⟩, _, rfl⟩
  · cases n1 : finB y
    · have HV : Hid (angT y x = nanW .f32) := by unfold Hid angT; rw [n2, n1]; rfl
      go_enter Try.func40, Try.ntmps40
      go_wp2_with (first | (go_at_call 49; refine (IsFinite_any _ _ (by assumption) _).mono ?_; (first | rw [n2] | rw [n1]); rintro e w' ⟨rfl, n3, rfl⟩) | (go_at_call 50; refine (NaN_any _).mono ?_; rintro e w' ⟨rfl, rfl⟩; have fq : Fl .f64 9221120237041090561 (nanW .f64) := ⟨by decide, by decide⟩; have okq : NarrowOk (nanW .f64) := nan_nanW; have eq1 : fnarrow (nanW .f64) = nanW .f32 := by decide) | (refine wpList_fnarrow rfl _ _ _ rfl _ rfl (Option.isSome_iff_exists.2 ⟨_, (by with_reducible exact Try.underlying28)⟩) (by with_reducible exact Try.underlying23) (by assumption) (by assumption) ?_; intro _ _ _))
      go_ret
      exact ⟨⟨_, rfl, by rw [HV.out]; assumption⟩, _, rfl⟩
    · have hx := finB_Fin fx.vlt n2
      have hy := finB_Fin fy.vlt n1
      by_cases hnz : rung .f32 x = 0 ∧ rung .f32 y = 0
      · have HV : Hid (angT y x = 0) := by unfold Hid angT; rw [n2, n1, if_pos hnz]; rfl
        have g1 := rung_zero_eql hx hnz.1
        have g2 := rung_zero_eql hy hnz.2
        clear hx hy hnz
        go_enter Try.func40, Try.ntmps40
        go_wp2_with (first | (go_at_call 49; refine (IsFinite_any _ _ (by assumption) _).mono ?_; (first | rw [n2] | rw [n1]); rintro e w' ⟨rfl, n3, rfl⟩) | (refine wpList_farith rfl _ _ _ _ _ rfl _ _ _ rfl rfl (by decide) (by assumption) (by assumption) ?_; intro _ _ _) | (refine wpList_fcmp rfl _ _ _ _ _ rfl _ _ _ rfl rfl (by decide) (by assumption) (by assumption) (by first | assumption | rfl) ?_))
        go_ret
        exact ⟨⟨_, rfl, by rw [HV.out]; exact h0⟩, _, rfl⟩
      · have HV : angT y x = fnarrow (angW y x) := by unfold angT; rw [n2, n1, if_neg hnz]; rfl
        rw [HV]
        exact AngleTurns_fin a b y x fy fx hy hx hnz w
theorem l01AngleWide_notY (a b y : Nat) (fy : Fl .f64 a y) (h : fcmp .neq .f64 (fbin .sub .f64 y y) 0 = true) (w : World) :
    Calls Try.prog 85 #[.float .f64 a, .float .f64 b] w fun e w' => (∃ r, e = .returned (.float .f64 r) ∧ Fl .f64 r (nanW .f64)) ∧ Dr w w' := by
  have h0 := fz64
  have fq : Fl .f64 9221120237041090561 (nanW .f64) := ⟨by decide, by decide⟩
  go_enter Try.func85, Try.ntmps85
  go_wp2_with (first | (refine wpList_farith rfl _ _ _ _ _ rfl _ _ _ rfl rfl (by decide) (by assumption) (by assumption) ?_; intro _ _ _) | (refine wpList_fcmp rfl _ _ _ _ _ rfl _ _ _ rfl rfl (by decide) (by assumption) (by assumption) (by first | assumption | rfl) ?_) | (go_at_call 50; refine (NaN_any _).mono ?_; rintro e w' ⟨rfl, rfl⟩))
  go_ret
  exact ⟨⟨_, rfl, fq⟩, _, rfl⟩
theorem l01AngleWide_notX (a b y x : Nat) (fy : Fl .f64 a y) (fx : Fl .f64 b x) (h1 : fcmp .neq .f64 (fbin .sub .f64 y y) 0 = false) (h2 : fcmp .neq .f64 (fbin .sub .f64 x x) 0 = true) (w : World) :
    Calls Try.prog 85 #[.float .f64 a, .float .f64 b] w fun e w' => (∃ r, e = .returned (.float .f64 r) ∧ Fl .f64 r (nanW .f64)) ∧ Dr w w' := by
  have h0 := fz64
  have fq : Fl .f64 9221120237041090561 (nanW .f64) := ⟨by decide, by decide⟩
  go_enter Try.func85, Try.ntmps85
  go_wp2_with (first | (refine wpList_farith rfl _ _ _ _ _ rfl _ _ _ rfl rfl (by decide) (by assumption) (by assumption) ?_; intro _ _ _) | (refine wpList_fcmp rfl _ _ _ _ _ rfl _ _ _ rfl rfl (by decide) (by assumption) (by assumption) (by first | assumption | rfl) ?_) | (go_at_call 50; refine (NaN_any _).mono ?_; rintro e w' ⟨rfl, rfl⟩))
  go_ret
  exact ⟨⟨_, rfl, fq⟩, _, rfl⟩
theorem l01AngleWide_zero (a b y x : Nat) (fy : Fl .f64 a y) (fx : Fl .f64 b x) (h1 : fcmp .neq .f64 (fbin .sub .f64 y y) 0 = false) (h2 : fcmp .neq .f64 (fbin .sub .f64 x x) 0 = false) (g1 : fcmp .eql .f64 x 0 = true) (g2 : fcmp .eql .f64 y 0 = true) (w : World) :
    Calls Try.prog 85 #[.float .f64 a, .float .f64 b] w fun e w' => (∃ r, e = .returned (.float .f64 r) ∧ Fl .f64 r 0) ∧ Dr w w' := by
  have h0 := fz64
  go_enter Try.func85, Try.ntmps85
  go_wp2_with (first | (refine wpList_farith rfl _ _ _ _ _ rfl _ _ _ rfl rfl (by decide) (by assumption) (by assumption) ?_; intro _ _ _) | (refine wpList_fcmp rfl _ _ _ _ _ rfl _ _ _ rfl rfl (by decide) (by assumption) (by assumption) (by first | assumption | rfl) ?_))
  go_ret
  exact ⟨⟨_, rfl, h0⟩, _, rfl⟩
theorem l01Angle_any (a b y x : Nat) (fy : Fl .f32 a y) (fx : Fl .f32 b x) (w : World) :
    Calls Try.prog 73 #[.float .f32 a, .float .f32 b] w fun e w' => (∃ r, e = .returned (.float .f32 r) ∧ Fl .f32 r (angT y x)) ∧ Dr w w' := by
  have HK : ∃ W, NarrowOk W ∧ fnarrow W = angT y x ∧ ∀ a' b' w, Fl .f64 a' (fwide y) → Fl .f64 b' (fwide x) → Calls Try.prog 85 #[.float .f64 a', .float .f64 b'] w fun e w' => (∃ r, e = .returned (.float .f64 r) ∧ Fl .f64 r W) ∧ Dr w w' := by
    cases n1 : finB y
    · refine ⟨nanW .f64, nan_nanW, ?_, fun a' b' w fa _ => l01AngleWide_notY a' b' _ fa (wide_not fy.vlt fy.canon n1) w⟩
      unfold angT; rw [n1, Bool.and_false, if_neg (by decide)]; decide
    · have hy := finB_Fin fy.vlt n1
      cases n2 : finB x
      · refine ⟨nanW .f64, nan_nanW, ?_, fun a' b' w fa fb => l01AngleWide_notX a' b' _ _ fa fb (wide_yes hy) (wide_not fx.vlt fx.canon n2) w⟩
        unfold angT; rw [n2, Bool.false_and, if_neg (by decide)]; decide
      · have hx := finB_Fin fx.vlt n2
        by_cases hnz : rung .f32 x = 0 ∧ rung .f32 y = 0
        · refine ⟨0, up_bd (c := 0) ⟨by decide, by decide⟩ (by decide), ?_, fun a' b' w fa fb => l01AngleWide_zero a' b' _ _ fa fb (wide_yes hy) (wide_yes hx) (by rw [(wide_zero_eq hx).1]; exact decide_eq_true hnz.1) (by rw [(wide_zero_eq hy).1]; exact decide_eq_true hnz.2) w⟩
          unfold angT; rw [n1, n2, if_pos hnz]; decide
        · refine ⟨angW y x, angW_ok hy hx hnz, ?_, fun a' b' w fa fb => l01AngleWide_fin a' b' y x fa fb hy hx hnz w⟩
          unfold angT; rw [n1, n2, if_neg hnz]; rfl
  obtain ⟨W, hok, hW, HC⟩ := HK
  have HN := hid HC
  have HV := hid hW
  clear HC hW
  go_enter Try.func73, Try.ntmps73
  go_wp2_with (first | (refine wpList_fwide rfl _ _ _ rfl _ rfl (Option.isSome_iff_exists.2 ⟨_, (by with_reducible exact Try.underlying23)⟩) (by with_reducible exact Try.underlying28) (by assumption) ?_; intro _ _ _) | (go_at_call 85; refine (HN.out _ _ _ (by assumption) (by assumption)).mono ?_; rintro e w' ⟨⟨r3, rfl, hr3⟩, n3, rfl⟩) | (go_at_call 76; refine (l01Narrow_any _ _ (by assumption) hok _).mono ?_; rintro e w' ⟨⟨r4, rfl, hr4⟩, n4, rfl⟩))
  go_ret
  exact ⟨⟨_, rfl, by rw [← HV.out]; assumption⟩, _, rfl⟩
theorem sAngleTurns_any (a b y x : Nat) (fy : Fl .f32 a y) (fx : Fl .f32 b x) (w : World) :
    Calls Try.prog 39 #[.float .f32 a, .float .f32 b] w fun e w' => (∃ r, e = .returned (.float .f32 r) ∧ Fl .f32 r (angT y x)) ∧ Dr w w' := by
  go_enter Try.func39, Try.ntmps39
  go_wp2_with (first | (go_at_call 73; refine (l01Angle_any _ _ _ _ fy fx _).mono ?_; rintro e w' ⟨⟨r2, rfl, hr2⟩, n2, rfl⟩))
  go_ret
  exact ⟨⟨_, rfl, by assumption⟩, _, rfl⟩
theorem FnExactAngleTurns_walk (a0 a1 : Nat) (w : World) (w0 : (Lit.float .f32 a0).wf = true) (w1 : (Lit.float .f32 a1).wf = true) :
    Calls Try.prog 13 #[.float .f32 a0, .float .f32 a1] w fun e w' => e = .returned (.bool true) ∧ Below w.heap.size w w' := by
  have fy := fl_of_wf w0
  have fx := fl_of_wf w1
  generalize nf .f32 a0 = y at fy
  generalize nf .f32 a1 = x at fx
  have HB := hid (show ∀ w : World, _ from fun w => sAngleTurns_any _ _ _ _ fy fx w)
  have HC := hid (show ∀ w : World, _ from fun w => AngleTurns_any _ _ _ _ fy fx w)
  generalize angT y x = v at HB HC
  go_enter Try.func13, Try.ntmps13
  go_wp2_with (first | (refine wpList_fwide rfl _ _ _ rfl _ rfl (Option.isSome_iff_exists.2 ⟨_, (by with_reducible exact Try.underlying23)⟩) (by with_reducible exact Try.underlying28) (by assumption) ?_; intro _ _ _) | (go_at_call 39; refine (HB.out _).mono ?_; rintro e w' ⟨⟨r, rfl, hr⟩, n, rfl⟩) | (go_at_call 40; refine (HC.out _).mono ?_; rintro e w' ⟨⟨r2, rfl, hr2⟩, n2, rfl⟩) | (go_at_call 18; refine (sameFloat_true _ _ (fwide v) (by assumption) (by assumption) _).mono ?_; rintro e w' ⟨rfl, n3, rfl⟩))
  go_ret
  exact ⟨rfl, below_drewN (Below.refl _ _) _⟩
end Go.Proofs.Ythlocjkmbmniaaa
