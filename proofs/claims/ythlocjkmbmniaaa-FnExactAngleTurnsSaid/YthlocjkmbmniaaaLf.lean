/-
  ANGLES: the reference's walk. Printed by wip/tools/gen_angle.py. Own work.
-/
import Derived.Test.YthlocjkmbmniaaaLea
namespace Go.Proofs.Ythlocjkmbmniaaa
open Go.RowKit
set_option exponentiation.threshold 2000

set_option maxHeartbeats 3200000 in
theorem l01AngleWide_fin (a b y x : Nat) (fy : Fl .f64 a (fwide y)) (fx : Fl .f64 b (fwide x)) (hy : Fin .f32 y) (hx : Fin .f32 x) (hnz : ¬ (rung .f32 x = 0 ∧ rung .f32 y = 0)) (w : World) :
    Calls Try.prog 85 #[.float .f64 a, .float .f64 b] w fun e w' => (∃ r, e = .returned (.float .f64 r) ∧ Fl .f64 r (angW y x)) ∧ Dr w w' := by
  have h0 := fz64
  have h0' := fz64
  have h1 : Fl .f64 4607182418800017408 4607182418800017408 := fone64
  have h2 : Fl .f64 4611686018427387904 4611686018427387904 := Fl.lit (by decide) (by decide)
  have h8 : Fl .f64 4620693217682128896 4620693217682128896 := Fl.lit (by decide) (by decide)
  have hh : Fl .f64 4602678819172646912 4602678819172646912 := Fl.lit (by decide) (by decide)
  have hq : Fl .f64 4598175219545276416 4598175219545276416 := Fl.lit (by decide) (by decide)
  have ht : Fl .f64 4618760256179416344 4618760256179416344 := Fl.lit (by decide) (by decide)
  have h15 : Fl .f64 4624633867356078080 (ef (15 - 2 * ((0 : Nat) : Int))) := by rw [show ef (15 - 2 * ((0 : Nat) : Int)) = 4624633867356078080 by decide +kernel]; exact Fl.lit (by decide) (by decide)
  have hup := tK_up (qt_up hy hx hnz) 3
  have HOK := hid (fun o x y => aF_ok hup o x y)
  have HT0 : Hid (qt y x = if fcmp .gtr .f64 (fabs (fwide y)) (fabs (fwide x)) then fbin .quo .f64 (fabs (fwide x)) (fabs (fwide y)) else fbin .quo .f64 (fabs (fwide y)) (fabs (fwide x))) := rfl
  have HW : Hid (angW y x = aF (tK (qt y x) 3) (fcmp .gtr .f64 (fabs (fwide y)) (fabs (fwide x))) (fcmp .lss .f32 x 0) (fcmp .lss .f32 y 0)) := rfl

  have e1 := (wide_zero_eq hx).1
  have e2 := (wide_zero_eq hy).1
  have e3 := (wide_zero_eq hx).2
  have e4 := (wide_zero_eq hy).2
  have n1 : fcmp .neq .f64 (fbin .sub .f64 (fwide y) (fwide y)) 0 = false := by rw [sub_self (wide_Fin hy)]; decide
  have n2 : fcmp .neq .f64 (fbin .sub .f64 (fwide x) (fwide x)) 0 = false := by rw [sub_self (wide_Fin hx)]; decide

  have hor : fcmp .eql .f64 (fwide x) 0 = false ∨ (fcmp .eql .f64 (fwide x) 0 = true ∧ fcmp .eql .f64 (fwide y) 0 = false) := by
    rw [e1, e2]
    by_cases g1 : rung .f32 x = 0
    · by_cases g2 : rung .f32 y = 0
      · exact absurd ⟨g1, g2⟩ hnz
      · exact Or.inr ⟨decide_eq_true g1, decide_eq_false g2⟩
    · exact Or.inl (decide_eq_false g1)
  clear e1 e2 hup hnz hy hx

  obtain ⟨tv, htv⟩ : ∃ tv, qt y x = tv := ⟨_, rfl⟩
  rw [htv] at HT0 HW HOK
  clear htv
  cases c0 : fcmp .gtr .f64 (fabs (fwide y)) (fabs (fwide x))
  all_goals
    have HT1 := HT0.out
    rw [c0] at HT1 HW
    first | simp only [if_true] at HT1 | simp only [if_false, Bool.false_eq_true] at HT1
    have HTF := hid (fun r (h : Fl .f64 r _) => show Fl .f64 r tv by rw [HT1]; exact h)
    clear HT0 HT1
    rcases hor with g1 | ⟨g1, g2⟩
    all_goals
      go_enter Try.func85, Try.ntmps85
      go_wp2_with (first | (refine wpList_fwide rfl _ _ _ rfl _ rfl (Option.isSome_iff_exists.2 ⟨_, (by with_reducible exact Try.underlying23)⟩) (by with_reducible exact Try.underlying28) (by assumption) ?_; intro _ _ _) | (go_at_call 51; refine (Abs_any _ _ (by assumption) _).mono ?_; rintro e w' ⟨⟨r3, rfl, hr3⟩, rfl⟩) | (refine wpList_farith rfl _ _ _ _ _ rfl _ _ _ rfl rfl (by decide) (by assumption) (by assumption) ?_; intro _ _ _) | (refine wpList_fcmp rfl _ _ _ _ _ rfl _ _ _ rfl rfl (by decide) (by assumption) (by assumption) (by first | assumption | rfl) ?_))
      have ftv := HTF.out _ (by assumption)
      clear HTF
      go_loopw [8, 9] (fun t k wr => ∃ (j : Nat) (rt : Nat), j ≤ 3 ∧ t = .float .f64 rt ∧ k = .int .i64 j ∧ Hid (Fl .f64 rt (tK tv j)) ∧ ∃ m, wr = w.drewN m) (fun _ k _ => 3 - (intOf k).toNat)
      case atStart => exact ⟨0, _, by omega, rfl, rfl, by unfold Hid; exact ftv, _, rfl⟩
      case round =>
        obtain ⟨j, rt, hj, rfl, rfl, HTK, m, rfl⟩ := hrel
        by_cases hj3 : j < 3
        · have HS : Hid (tK tv (j + 1) = fbin .quo .f64 (tK tv j) (fbin .add .f64 4607182418800017408 (fsqrt (fbin .add .f64 4607182418800017408 (fbin .mul .f64 (tK tv j) (tK tv j)))))) := rfl
          have f1 : Fl .f64 rt (tK tv j) := HTK.out
          generalize tK tv j = t1 at *
          clear HW HOK
          go_wp2_with (first | (refine wpList_farith rfl _ _ _ _ _ rfl _ _ _ rfl rfl (by decide) (by assumption) (by assumption) ?_; intro _ _ _) | (go_at_call 54; refine (Sqrt_any _ _ (by assumption) _).mono ?_; rintro e w' ⟨⟨r2, rfl, hr2⟩, n2', rfl⟩))
          go_roundw
          case rel => exact ⟨j + 1, _, by omega, rfl, by go_num, by unfold Hid; rw [HS.out]; assumption, _, rfl⟩
          case measure => simp [intOf]; omega
        · obtain rfl : j = 3 := by omega
          have f1 : Fl .f64 rt (tK tv 3) := HTK.out
          obtain ⟨t3, ht3⟩ : ∃ t3, tK tv 3 = t3 := ⟨_, rfl⟩
          rw [ht3] at f1 HW HOK
          obtain ⟨u, hu⟩ : ∃ u, fbin .mul .f64 t3 t3 = u := ⟨_, rfl⟩
          have HQ : Hid (aQ t3 = fbin .quo .f64 (fbin .mul .f64 4620693217682128896 (fbin .mul .f64 t3 (aP u 8))) 4618760256179416344) := by unfold Hid; rw [← hu]; rfl
          have HU := hid (fun r (h : Fl .f64 r (fbin .mul .f64 t3 t3)) => show Fl .f64 r u by rw [← hu]; exact h)
          clear HTK ht3 hu hj hj3 ftv
          go_wp2_with (first | (refine wpList_farith rfl _ _ _ _ _ rfl _ _ _ rfl rfl (by decide) (by assumption) (by assumption) ?_; intro _ _ _))
          go_simp
          have fu := HU.out _ (by assumption)
          clear HU
          go_loopw [11, 12] (fun q kk wr => ∃ (j : Nat) (rq : Nat), j ≤ 8 ∧ q = .float .f64 rq ∧ kk = .int .i64 (15 - 2 * (j : Int)) ∧ Hid (Fl .f64 rq (aP u j)) ∧ ∃ m, wr = w.drewN m) (fun _ kk _ => (intOf kk + 1).toNat)
          case atStart => exact ⟨0, _, by omega, rfl, rfl, by unfold Hid; exact h0', _, rfl⟩
          case round =>
            obtain ⟨j, rq, hj, rfl, rfl, HQQ, m2, rfl⟩ := hrel
            by_cases hlt3 : j < 8
            · obtain ⟨kq, hkq⟩ : ∃ kq, 15 - 2 * (j : Int) = kq := ⟨_, rfl⟩
              obtain ⟨qv, hqv⟩ : ∃ qv, aP u j = qv := ⟨_, rfl⟩
              rw [hqv] at HQQ
              have f6 : Fl .f64 rq qv := HQQ.out
              have HQ2 : Hid (aP u (j + 1) = fbin .sub .f64 (fbin .quo .f64 4607182418800017408 (floatOfInt .f64 kq)) (fbin .mul .f64 u qv)) := by
                unfold Hid; rw [← hqv, ← hkq]; rfl
              have HN : Hid (kq - 2 = 15 - 2 * ((j + 1 : Nat) : Int)) := by unfold Hid; omega
              have HJ := hid (show j + 1 ≤ 8 by omega)
              have hka : 1 ≤ kq := by omega
              have hkb : kq ≤ 15 := by omega
              rw [hkq]
              clear HQQ HW HOK HQ hqv hkq hlt3 hj
              go_wp2_with (first | (refine wpList_fofint rfl _ _ _ rfl _ _ rfl (Option.isSome_iff_exists.2 ⟨_, (by with_reducible exact Try.underlying2)⟩) (by with_reducible exact Try.underlying28) ?_; intro _) | (refine wpList_fofint rfl _ _ _ rfl _ _ rfl (Option.isSome_iff_exists.2 ⟨_, (by with_reducible exact Try.underlying2)⟩) (by with_reducible exact Try.underlying23) ?_; intro _) | (refine wpList_fofint rfl _ _ _ rfl _ _ rfl (Option.isSome_iff_exists.2 ⟨_, (by with_reducible exact Try.underlying3)⟩) (by with_reducible exact Try.underlying28) ?_; intro _) | (refine wpList_fofint rfl _ _ _ rfl _ _ rfl (Option.isSome_iff_exists.2 ⟨_, (by with_reducible exact Try.underlying3)⟩) (by with_reducible exact Try.underlying23) ?_; intro _) | (refine wpList_farith rfl _ _ _ _ _ rfl _ _ _ rfl rfl (by decide) (by assumption) (by assumption) ?_; intro _ _ _))
              go_roundw
              case rel => exact ⟨j + 1, _, HJ.out, rfl, by rw [← HN.out], by unfold Hid; rw [HQ2.out]; assumption, _, rfl⟩
              case measure => simp [intOf]; omega
            · obtain rfl : j = 8 := by omega
              obtain ⟨qv, hqv⟩ : ∃ qv, aP u 8 = qv := ⟨_, rfl⟩
              rw [hqv] at HQQ HQ
              have f6 : Fl .f64 rq qv := HQQ.out
              clear HQQ hqv hj hlt3 HOK
              obtain ⟨sx, hsx⟩ : ∃ sx, fcmp .lss .f32 x 0 = sx := ⟨_, rfl⟩
              obtain ⟨sy, hsy⟩ : ∃ sy, fcmp .lss .f32 y 0 = sy := ⟨_, rfl⟩
              rw [hsx, hsy] at HW
              rw [hsx] at e3
              rw [hsy] at e4
              cases sx <;> cases sy
              all_goals
                have HWW := HW.out
                unfold aF at HWW
                simp only [if_true, if_false, Bool.false_eq_true, aOver, aHalf] at HWW
                rw [HQ.out] at HWW
                have HW3 := hid HWW
                clear HW HWW HQ
                go_wp2_with (first | (refine wpList_farith rfl _ _ _ _ _ rfl _ _ _ rfl rfl (by decide) (by assumption) (by assumption) ?_; intro _ _ _) | (refine wpList_fcmp rfl _ _ _ _ _ rfl _ _ _ rfl rfl (by decide) (by assumption) (by assumption) (by first | assumption | rfl) ?_) | (refine wpList_fneg rfl _ _ rfl _ rfl (by assumption) ?_; intro _ _))
                go_ret
                exact ⟨⟨_, rfl, by rw [HW3.out]; assumption⟩, _, rfl⟩

end Go.Proofs.Ythlocjkmbmniaaa
