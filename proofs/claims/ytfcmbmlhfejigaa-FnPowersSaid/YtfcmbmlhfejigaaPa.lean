/-
  POWERS: the walks. Own work; no condition beyond what each theorem names.
-/
import Derived.Test.YtfcmbmlhfejigaaFy
import Derived.Test.YtfcmbmlhfejigaaFz
namespace Go.Proofs.Ytfcmbmlhfejigaa
open Go.RowKit
set_option exponentiation.threshold 2000

theorem xk_geq_all : ∀ j : _root_.Fin 13, fcmp .geq .f64 (ef (12 - (j.val : Int))) 4607182418800017408 = decide (j.val < 12) := by decide +kernel
theorem xk_sub_all : ∀ j : _root_.Fin 12, fbin .sub .f64 (ef (12 - (j.val : Int))) 4607182418800017408 = ef (12 - ((j.val : Int) + 1)) := by decide +kernel
theorem xk_mk_all : ∀ j : _root_.Fin 12, mk (ef (12 - ((j.val : Int) + 1))) < mk (ef (12 - (j.val : Int))) ∧ isN .f64 (ef (12 - (j.val : Int))) = false ∧ isN .f64 (ef (12 - ((j.val : Int) + 1))) = false := by decide +kernel
set_option maxHeartbeats 1600000 in
theorem ExpNumber_any (x u : Nat) (hx : Fl .f32 x u) (g1 : fcmp .gtr .f32 u 1128792064 = false) (g2 : fcmp .lss .f32 u 3276275712 = false) (hok : NarrowOk (expW u)) (w : World) :
    Calls Try.prog 6 #[.float .f32 x] w fun e w' => (∃ r, e = .returned (.float .f32 r) ∧ Fl .f32 r (expV u)) ∧ Dr w w' := by
  have k1 : Fl .f32 1128792064 1128792064 := Fl.lit (by decide) (by decide)
  have k2 : Fl .f32 3276275712 3276275712 := Fl.lit (by decide) (by decide)
  have h1 : Fl .f64 4607182418800017408 4607182418800017408 := fone64
  have h256 : Fl .f64 4643211215818981376 4643211215818981376 := Fl.lit (by decide) (by decide)
  have h12 : Fl .f64 4622945017495814144 (ef (12 - ((0 : Nat) : Int))) := by rw [show ef (12 - ((0 : Nat) : Int)) = 4622945017495814144 by decide +kernel]; exact Fl.lit (by decide) (by decide)
  have HV : Hid (expV u = fnarrow (expW u)) := rfl
  have HW : Hid (expW u = eS (eP (fbin .quo .f64 (fwide u) 4643211215818981376) 12) 8) := rfl
  obtain ⟨t, ht⟩ : ∃ t, fbin .quo .f64 (fwide u) 4643211215818981376 = t := ⟨_, rfl⟩
  obtain ⟨wv, hwv⟩ : ∃ wv, expW u = wv := ⟨_, rfl⟩
  rw [ht] at HW
  rw [hwv] at HW HV hok
  have HT := hid (fun r (h : Fl .f64 r (fbin .quo .f64 (fwide u) 4643211215818981376)) => show Fl .f64 r t by rw [← ht]; exact h)
  clear ht hwv
  go_enter Try.func6, Try.ntmps6
  go_wp2_with (first | (refine wpList_fwide rfl _ _ _ rfl _ rfl (Option.isSome_iff_exists.2 ⟨_, (by with_reducible exact Try.underlying24)⟩) (by with_reducible exact Try.underlying27) (by assumption) ?_; intro _ _ _) | (refine wpList_farith rfl _ _ _ _ _ rfl _ _ _ rfl rfl (by decide) (by assumption) (by assumption) ?_; intro _ _ _) | (refine wpList_fcmp rfl _ _ _ _ _ rfl _ _ _ rfl rfl (by decide) (by assumption) (by assumption) (by first | assumption | rfl) ?_))
  have ft := HT.out _ (by assumption)
  clear HT g1 g2 k1 k2
  go_loopw [4, 5] (fun p kk wr => ∃ (j : Nat) (rp rk : Nat), j ≤ 12 ∧ p = .float .f64 rp ∧ kk = .float .f64 rk ∧ Hid (Fl .f64 rp (eP t j)) ∧ Hid (Fl .f64 rk (ef (12 - (j : Int)))) ∧ ∃ m, wr = w.drewN m) (fun _ kk _ => match kk with | .float _ b => mk b | _ => 0)
  case atStart => exact ⟨0, _, _, by omega, rfl, rfl, by unfold Hid; exact h1, by unfold Hid; exact h12, _, rfl⟩
  case round =>
    obtain ⟨j, rp, rk, hj, rfl, rfl, HP, HK, m, rfl⟩ := hrel
    obtain ⟨kv, hkv⟩ : ∃ kv, ef (12 - (j : Int)) = kv := ⟨_, rfl⟩
    rw [hkv] at HK
    have f5 : Fl .f64 rk kv := HK.out
    by_cases hlt3 : j < 12
    · obtain ⟨pv, hpv⟩ : ∃ pv, eP t j = pv := ⟨_, rfl⟩
      rw [hpv] at HP
      have f6 : Fl .f64 rp pv := HP.out
      have HJ := hid (show j + 1 ≤ 12 by omega)
      have HQ2 : Hid (eP t (j + 1) = fbin .add .f64 4607182418800017408 (fbin .quo .f64 (fbin .mul .f64 t pv) kv)) := by
        unfold Hid; rw [← hpv, ← hkv]; rfl
      have hkg : fcmp .geq .f64 kv 4607182418800017408 = true := by rw [← hkv]; exact (xk_geq_all ⟨j, by omega⟩).trans (decide_eq_true hlt3)
      have HKS : Hid (ef (12 - ((j + 1 : Nat) : Int)) = fbin .sub .f64 kv 4607182418800017408) := by
        unfold Hid; rw [← hkv, show ((j + 1 : Nat) : Int) = (j : Int) + 1 by omega]; exact (xk_sub_all ⟨j, hlt3⟩).symm
      have HM : Hid (∀ r r', Fl .f64 r kv → Fl .f64 r' (fbin .sub .f64 kv 4607182418800017408) → mk r' < mk r) := fun r r' a b => by
        rw [← HKS.out, show ((j + 1 : Nat) : Int) = (j : Int) + 1 by omega] at b
        rw [← hkv] at a
        obtain ⟨h1, h2, h3⟩ := xk_mk_all ⟨j, hlt3⟩
        rw [a.word h2, b.word h3]; exact h1
      clear HP HK HV HW hok hkv hpv
      go_wp2_with (first | (refine wpList_farith rfl _ _ _ _ _ rfl _ _ _ rfl rfl (by decide) (by assumption) (by assumption) ?_; intro _ _ _) | (refine wpList_fcmp rfl _ _ _ _ _ rfl _ _ _ rfl rfl (by decide) (by assumption) (by assumption) (by first | assumption | rfl) ?_))
      go_roundw
      case rel => exact ⟨j + 1, _, _, HJ.out, rfl, rfl, by unfold Hid; rw [HQ2.out]; assumption, by unfold Hid; rw [HKS.out]; assumption, _, rfl⟩
      case measure => exact HM.out _ _ (by assumption) (by assumption)
    · obtain rfl : j = 12 := by omega
      have hkg : fcmp .geq .f64 kv 4607182418800017408 = false := by rw [← hkv]; exact (xk_geq_all ⟨12, by omega⟩).trans (decide_eq_false hlt3)
      obtain ⟨pv, hpv⟩ : ∃ pv, eP t 12 = pv := ⟨_, rfl⟩
      rw [hpv] at HP HW
      have f6 : Fl .f64 rp pv := HP.out
      clear HP HK hkv hpv hj hlt3
      go_wp2_with (first | (refine wpList_farith rfl _ _ _ _ _ rfl _ _ _ rfl rfl (by decide) (by assumption) (by assumption) ?_; intro _ _ _) | (refine wpList_fcmp rfl _ _ _ _ _ rfl _ _ _ rfl rfl (by decide) (by assumption) (by assumption) (by first | assumption | rfl) ?_))
      go_simp
      go_loopw [4, 27] (fun p kk wr => ∃ (j : Nat) (rp : Nat), j ≤ 8 ∧ p = .float .f64 rp ∧ kk = .int .i64 j ∧ Hid (Fl .f64 rp (eS pv j)) ∧ ∃ m, wr = w.drewN m) (fun _ kk _ => 8 - (intOf kk).toNat)
      case atStart => exact ⟨0, _, by omega, rfl, rfl, by unfold Hid; exact f6, _, rfl⟩
      case round =>
        obtain ⟨j, rp2, hj, rfl, rfl, HP2, m2, rfl⟩ := hrel
        by_cases hlt4 : j < 8
        · have HS : Hid (eS pv (j + 1) = fbin .mul .f64 (eS pv j) (eS pv j)) := rfl
          have f7 : Fl .f64 rp2 (eS pv j) := HP2.out
          generalize eS pv j = sv at *
          clear HV HW hok
          go_wp2_with (first | (refine wpList_farith rfl _ _ _ _ _ rfl _ _ _ rfl rfl (by decide) (by assumption) (by assumption) ?_; intro _ _ _) | (refine wpList_fcmp rfl _ _ _ _ _ rfl _ _ _ rfl rfl (by decide) (by assumption) (by assumption) (by first | assumption | rfl) ?_))
          go_roundw
          case rel => exact ⟨j + 1, _, by omega, rfl, by go_num, by unfold Hid; rw [HS.out]; assumption, _, rfl⟩
          case measure => simp [intOf]; omega
        · obtain rfl : j = 8 := by omega
          have f7 : Fl .f64 rp2 wv := by rw [HW.out]; exact HP2.out
          clear HP2 HW
          go_wp2_with (first | (refine wpList_fnarrow rfl _ _ _ rfl _ rfl (Option.isSome_iff_exists.2 ⟨_, (by with_reducible exact Try.underlying27)⟩) (by with_reducible exact Try.underlying24) (by assumption) (by assumption) ?_; intro _ _ _) | (refine wpList_farith rfl _ _ _ _ _ rfl _ _ _ rfl rfl (by decide) (by assumption) (by assumption) ?_; intro _ _ _) | (refine wpList_fcmp rfl _ _ _ _ _ rfl _ _ _ rfl rfl (by decide) (by assumption) (by assumption) (by first | assumption | rfl) ?_))
          go_ret
          exact ⟨⟨_, rfl, by rw [HV.out]; assumption⟩, _, rfl⟩
/-- An eighth, its power. -/
theorem g8_facts (k : Nat) (hk : k < 129) : expV (tabG.getD k 0) = tabV.getD k 0 ∧ NarrowOk (expW (tabG.getD k 0)) := by
  have h1 := e8_tab ⟨k, hk⟩
  have h2 := v8_tab ⟨k, hk⟩
  dsimp only at h1 h2
  unfold expV
  rw [h1]
  exact ⟨h2.1, narrowOk_bd (N := 1150) (show Bd .f64 1150 _ from ⟨h2.2.2, by rw [bin64]; exact h2.2.1⟩) (by decide)⟩
theorem g8_rng : ∀ k : _root_.Fin 129, fcmp .gtr .f32 (tabG.getD k.val 0) 1128792064 = false ∧ fcmp .lss .f32 (tabG.getD k.val 0) 3276275712 = false := by decide +kernel
theorem Exp_tab (x : Nat) (k : Nat) (hk : k < 129) (hx : Fl .f32 x (tabG.getD k 0)) (w : World) :
    Calls Try.prog 6 #[.float .f32 x] w fun e w' => (∃ r, e = .returned (.float .f32 r) ∧ Fl .f32 r (tabV.getD k 0)) ∧ Dr w w' := by
  obtain ⟨h1, h2⟩ := g8_facts k hk
  have h3 := g8_rng ⟨k, hk⟩
  rw [← h1]
  exact ExpNumber_any x _ hx h3.1 h3.2 h2 w
theorem b10Gap_any (a b u v : Nat) (ha : Fl .f64 a u) (hb : Fl .f64 b v) (w : World) :
    Calls Try.prog 7 #[.float .f64 a, .float .f64 b] w fun e w' => (∃ r, e = .returned (.float .f64 r) ∧ Fl .f64 r (gapV u v)) ∧ Dr w w' := by
  have HV : Hid (gapV u v = if fcmp .lss .f64 u v then fbin .sub .f64 v u else fbin .sub .f64 u v) := rfl
  cases c : fcmp .lss .f64 u v
  all_goals
    go_enter Try.func7, Try.ntmps7
    go_wp2_with (first | (refine wpList_farith rfl _ _ _ _ _ rfl _ _ _ rfl rfl (by decide) (by assumption) (by assumption) ?_; intro _ _ _) | (refine wpList_fcmp rfl _ _ _ _ _ rfl _ _ _ rfl rfl (by decide) (by assumption) (by assumption) (by first | assumption | rfl) ?_))
    go_ret
    exact ⟨⟨_, rfl, by rw [HV.out, c]; assumption⟩, _, rfl⟩
end Go.Proofs.Ytfcmbmlhfejigaa
