/-
  ANGLES: all kinds of numbers, and the law's walk. Own work; no condition beyond what each theorem names.
-/
import Derived.Test.YtgfnchggflecgaaGreatDoorLe
import Derived.Test.YtgfnchggflecgaaGreatDoorLf
import Derived.Test.YtgfnchggflecgaaGreatDoorFr
namespace Go.Proofs.YtgfnchggflecgaaGreatDoor
open Go.RowKit
set_option exponentiation.threshold 2000

def angT (y x : Nat) : Nat := if finB x && finB y then (if rung .f32 x = 0 ∧ rung .f32 y = 0 then 0 else fnarrow (angW y x)) else nanW .f32
theorem angW_ok {y x : Nat} (hy : Fin .f32 y) (hx : Fin .f32 x) (h : ¬ (rung .f32 x = 0 ∧ rung .f32 y = 0)) : NarrowOk (angW y x) := aF_ok (tK_up (qt_up hy hx h) 3) _ _ _
theorem wide_not {u : Nat} (hu : u < 2 ^ FloatKind.f32.format.width) (hc : nf .f32 u = u) (h : finB u = false) : fcmp .neq .f64 (fbin .sub .f64 (fwide u) (fwide u)) 0 = true := by
  rcases num_kinds hu hc with rfl | rfl | rfl | hF
  · decide
  · decide
  · decide
  · rw [finB_fin hF] at h; cases h
theorem wide_yes {u : Nat} (h : Fin .f32 u) : fcmp .neq .f64 (fbin .sub .f64 (fwide u) (fwide u)) 0 = false := by rw [sub_self (wide_Fin h)]; decide
theorem rung_zero_eql {u : Nat} (h : Fin .f32 u) (h0 : rung .f32 u = 0) : fcmp .eql .f32 u 0 = true := by rw [eql_zero h]; exact decide_eq_true h0
set_option maxHeartbeats 800000 in
theorem AngleTurns_any (a b y x : Nat) (fy : Fl .f32 a y) (fx : Fl .f32 b x) (w : World) :
    Calls Tryz.prog 16 #[.float .f32 a, .float .f32 b] w fun e w' => (∃ r, e = .returned (.float .f32 r) ∧ Fl .f32 r (angT y x)) ∧ Dr w w' := by
  have h0 := fz32
  cases n2 : finB x
  · have HV : Hid (angT y x = nanW .f32) := by unfold Hid angT; rw [n2]; rfl
    go_enter Tryz.func16, Tryz.ntmps16
    go_wp2_with (first | (go_at_call 36; refine (IsFinite_any _ _ (by assumption) _).mono ?_; rw [n2]; rintro e w' ⟨rfl, n3, rfl⟩) | (go_at_call 37; refine (NaN_any _).mono ?_; rintro e w' ⟨rfl, rfl⟩; have fq : Fl .f64 9221120237041090561 (nanW .f64) := ⟨by decide, by decide⟩; have okq : NarrowOk (nanW .f64) := nan_nanW; have eq1 : fnarrow (nanW .f64) = nanW .f32 := by decide) | (refine wpList_fnarrow rfl _ _ _ rfl _ rfl (Option.isSome_iff_exists.2 ⟨_, (by with_reducible exact Tryz.underlying44)⟩) (by with_reducible exact Tryz.underlying24) (by assumption) (by assumption) ?_; intro _ _ _))
    go_ret
    exact ⟨⟨_, rfl, by rw [HV.out]; assumption⟩, _, rfl⟩
  · cases n1 : finB y
    · have HV : Hid (angT y x = nanW .f32) := by unfold Hid angT; rw [n2, n1]; rfl
      go_enter Tryz.func16, Tryz.ntmps16
      go_wp2_with (first | (go_at_call 36; refine (IsFinite_any _ _ (by assumption) _).mono ?_; (first | rw [n2] | rw [n1]); rintro e w' ⟨rfl, n3, rfl⟩) | (go_at_call 37; refine (NaN_any _).mono ?_; rintro e w' ⟨rfl, rfl⟩; have fq : Fl .f64 9221120237041090561 (nanW .f64) := ⟨by decide, by decide⟩; have okq : NarrowOk (nanW .f64) := nan_nanW; have eq1 : fnarrow (nanW .f64) = nanW .f32 := by decide) | (refine wpList_fnarrow rfl _ _ _ rfl _ rfl (Option.isSome_iff_exists.2 ⟨_, (by with_reducible exact Tryz.underlying44)⟩) (by with_reducible exact Tryz.underlying24) (by assumption) (by assumption) ?_; intro _ _ _))
      go_ret
      exact ⟨⟨_, rfl, by rw [HV.out]; assumption⟩, _, rfl⟩
    · have hx := finB_Fin fx.vlt n2
      have hy := finB_Fin fy.vlt n1
      by_cases hnz : rung .f32 x = 0 ∧ rung .f32 y = 0
      · have HV : Hid (angT y x = 0) := by unfold Hid angT; rw [n2, n1, if_pos hnz]; rfl
        have g1 := rung_zero_eql hx hnz.1
        have g2 := rung_zero_eql hy hnz.2
        clear hx hy hnz
        go_enter Tryz.func16, Tryz.ntmps16
        go_wp2_with (first | (go_at_call 36; refine (IsFinite_any _ _ (by assumption) _).mono ?_; (first | rw [n2] | rw [n1]); rintro e w' ⟨rfl, n3, rfl⟩) | (refine wpList_farith rfl _ _ _ _ _ rfl _ _ _ rfl rfl (by decide) (by assumption) (by assumption) ?_; intro _ _ _) | (refine wpList_fcmp rfl _ _ _ _ _ rfl _ _ _ rfl rfl (by decide) (by assumption) (by assumption) (by first | assumption | rfl) ?_))
        go_ret
        exact ⟨⟨_, rfl, by rw [HV.out]; exact h0⟩, _, rfl⟩
      · have HV : angT y x = fnarrow (angW y x) := by unfold angT; rw [n2, n1, if_neg hnz]; rfl
        rw [HV]
        exact AngleTurns_fin a b y x fy fx hy hx hnz w
end Go.Proofs.YtgfnchggflecgaaGreatDoor
