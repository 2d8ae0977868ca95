/-
  ANGLES: the program's walk. Printed by wip/tools/gen_angle.py. Own work.
-/
import Derived.Test.YtgfnchggflecgaaGreatDoorLea
namespace Go.Proofs.YtgfnchggflecgaaGreatDoor
open Go.RowKit
set_option exponentiation.threshold 2000

set_option maxHeartbeats 3200000 in
theorem AngleTurns_fin (a b y x : Nat) (fy : Fl .f32 a y) (fx : Fl .f32 b x) (hy : Fin .f32 y) (hx : Fin .f32 x) (hnz : ¬ (rung .f32 x = 0 ∧ rung .f32 y = 0)) (w : World) :
    Calls Tryz.prog 16 #[.float .f32 a, .float .f32 b] w fun e w' => (∃ r, e = .returned (.float .f32 r) ∧ Fl .f32 r (fnarrow (angW y x))) ∧ Dr w w' := by
  have h0 := fz32
  have h0' := fz64
  have h1 : Fl .f64 4607182418800017408 4607182418800017408 := fone64
  have h2 : Fl .f64 4611686018427387904 4611686018427387904 := Fl.lit (by decide) (by decide)
  have h8 : Fl .f64 4620693217682128896 4620693217682128896 := Fl.lit (by decide) (by decide)
  have hh : Fl .f64 4602678819172646912 4602678819172646912 := Fl.lit (by decide) (by decide)
  have hq : Fl .f64 4598175219545276416 4598175219545276416 := Fl.lit (by decide) (by decide)
  have ht : Fl .f64 4618760256179416344 4618760256179416344 := Fl.lit (by decide) (by decide)
  have h15 : Fl .f64 4624633867356078080 (ef (15 - 2 * ((0 : Nat) : Int))) := by rw [show ef (15 - 2 * ((0 : Nat) : Int)) = 4624633867356078080 by decide +kernel]; exact Fl.lit (by decide) (by decide)
  have hup := tK_up (qt_up hy hx hnz) 3
  have HOK := hid (fun o x y => aF_ok hup o x y)
  have HT0 : Hid (qt y x = if fcmp .gtr .f64 (fabs (fwide y)) (fabs (fwide x)) then fbin .quo .f64 (fabs (fwide x)) (fabs (fwide y)) else fbin .quo .f64 (fabs (fwide y)) (fabs (fwide x))) := rfl
  have HW : Hid (angW y x = aF (tK (qt y x) 3) (fcmp .gtr .f64 (fabs (fwide y)) (fabs (fwide x))) (fcmp .lss .f32 x 0) (fcmp .lss .f32 y 0)) := rfl

  have e1 := eql_zero hx
  have e2 := eql_zero hy
  have n1 := finB_fin hy
  have n2 := finB_fin hx

  have hor : fcmp .eql .f32 x 0 = false ∨ (fcmp .eql .f32 x 0 = true ∧ fcmp .eql .f32 y 0 = false) := by
    rw [e1, e2]
    by_cases g1 : rung .f32 x = 0
    · by_cases g2 : rung .f32 y = 0
      · exact absurd ⟨g1, g2⟩ hnz
      · exact Or.inr ⟨decide_eq_true g1, decide_eq_false g2⟩
    · exact Or.inl (decide_eq_false g1)
  clear e1 e2 hup hnz hy hx

  obtain ⟨tv, htv⟩ : ∃ tv, qt y x = tv := ⟨_, rfl⟩
  rw [htv] at HT0 HW HOK
  clear htv
  cases c0 : fcmp .gtr .f64 (fabs (fwide y)) (fabs (fwide x))
  all_goals
    have HT1 := HT0.out
    rw [c0] at HT1 HW
    first | simp only [if_true] at HT1 | simp only [if_false, Bool.false_eq_true] at HT1
    have HTF := hid (fun r (h : Fl .f64 r _) => show Fl .f64 r tv by rw [HT1]; exact h)
    clear HT0 HT1
    rcases hor with g1 | ⟨g1, g2⟩
    all_goals
      go_enter Tryz.func16, Tryz.ntmps16
      go_wp2_with (first | (refine wpList_fwide rfl _ _ _ rfl _ rfl (Option.isSome_iff_exists.2 ⟨_, (by with_reducible exact Tryz.underlying24)⟩) (by with_reducible exact Tryz.underlying44) (by assumption) ?_; intro _ _ _) | (go_at_call 35; refine (Abs_any _ _ (by assumption) _).mono ?_; rintro e w' ⟨⟨r3, rfl, hr3⟩, rfl⟩) | (go_at_call 36; refine (IsFinite_any _ _ (by assumption) _).mono ?_; (first | rw [n2] | rw [n1]); rintro e w' ⟨rfl, n3, rfl⟩) | (refine wpList_farith rfl _ _ _ _ _ rfl _ _ _ rfl rfl (by decide) (by assumption) (by assumption) ?_; intro _ _ _) | (refine wpList_fcmp rfl _ _ _ _ _ rfl _ _ _ rfl rfl (by decide) (by assumption) (by assumption) (by first | assumption | rfl) ?_))
      have ftv := HTF.out _ (by assumption)
      clear HTF
      go_loopw [7, 43] (fun t k wr => ∃ (j : Nat) (rt : Nat), j ≤ 3 ∧ t = .float .f64 rt ∧ k = .int .i64 j ∧ Hid (Fl .f64 rt (tK tv j)) ∧ ∃ m, wr = w.drewN m) (fun _ k _ => 3 - (intOf k).toNat)
      case atStart => exact ⟨0, _, by omega, rfl, rfl, by unfold Hid; exact ftv, _, rfl⟩
      case round =>
        obtain ⟨j, rt, hj, rfl, rfl, HTK, m, rfl⟩ := hrel
        by_cases hj3 : j < 3
        · have HS : Hid (tK tv (j + 1) = fbin .quo .f64 (tK tv j) (fbin .add .f64 4607182418800017408 (fsqrt (fbin .add .f64 4607182418800017408 (fbin .mul .f64 (tK tv j) (tK tv j)))))) := rfl
          have f1 : Fl .f64 rt (tK tv j) := HTK.out
          generalize tK tv j = t1 at *
          clear HW HOK
          go_wp2_with (first | (refine wpList_farith rfl _ _ _ _ _ rfl _ _ _ rfl rfl (by decide) (by assumption) (by assumption) ?_; intro _ _ _) | (go_at_call 38; refine (Sqrt_any _ _ (by assumption) _).mono ?_; rintro e w' ⟨⟨r2, rfl, hr2⟩, n2', rfl⟩))
          go_roundw
          case rel => exact ⟨j + 1, _, by omega, rfl, by go_num, by unfold Hid; rw [HS.out]; assumption, _, rfl⟩
          case measure => simp [intOf]; omega
        · obtain rfl : j = 3 := by omega
          have f1 : Fl .f64 rt (tK tv 3) := HTK.out
          obtain ⟨t3, ht3⟩ : ∃ t3, tK tv 3 = t3 := ⟨_, rfl⟩
          rw [ht3] at f1 HW HOK
          obtain ⟨u, hu⟩ : ∃ u, fbin .mul .f64 t3 t3 = u := ⟨_, rfl⟩
          have HQ : Hid (aQ t3 = fbin .quo .f64 (fbin .mul .f64 4620693217682128896 (fbin .mul .f64 t3 (aP u 8))) 4618760256179416344) := by unfold Hid; rw [← hu]; rfl
          have HU := hid (fun r (h : Fl .f64 r (fbin .mul .f64 t3 t3)) => show Fl .f64 r u by rw [← hu]; exact h)
          clear HTK ht3 hu hj hj3 ftv
          go_wp2_with (first | (refine wpList_farith rfl _ _ _ _ _ rfl _ _ _ rfl rfl (by decide) (by assumption) (by assumption) ?_; intro _ _ _))
          go_simp
          have fu := HU.out _ (by assumption)
          clear HU
          go_loopw [9, 10] (fun q kk wr => ∃ (j : Nat) (rq rk : Nat), j ≤ 8 ∧ q = .float .f64 rq ∧ kk = .float .f64 rk ∧ Hid (Fl .f64 rq (aP u j)) ∧ Hid (Fl .f64 rk (ef (15 - 2 * (j : Int)))) ∧ ∃ m, wr = w.drewN m) (fun _ kk _ => match kk with | .float _ b => mk b | _ => 0)
          case atStart => exact ⟨0, _, _, by omega, rfl, rfl, by unfold Hid; exact h0', by unfold Hid; exact h15, _, rfl⟩
          case round =>
            obtain ⟨j, rq, rk, hj, rfl, rfl, HQQ, HKK, m2, rfl⟩ := hrel
            obtain ⟨kv, hkv⟩ : ∃ kv, ef (15 - 2 * (j : Int)) = kv := ⟨_, rfl⟩
            rw [hkv] at HKK
            have f5 : Fl .f64 rk kv := HKK.out
            by_cases hlt3 : j < 8
            · obtain ⟨qv, hqv⟩ : ∃ qv, aP u j = qv := ⟨_, rfl⟩
              rw [hqv] at HQQ
              have f6 : Fl .f64 rq qv := HQQ.out
              have HJ := hid (show j + 1 ≤ 8 by omega)
              have HQ2 : Hid (aP u (j + 1) = fbin .sub .f64 (fbin .quo .f64 4607182418800017408 kv) (fbin .mul .f64 u qv)) := by
                unfold Hid; rw [← hqv, ← hkv]; rfl
              have hkg : fcmp .geq .f64 kv 4607182418800017408 = true := by rw [← hkv]; exact (ak_geq_all ⟨j, by omega⟩).trans (decide_eq_true hlt3)
              have HKS : Hid (ef (15 - 2 * ((j + 1 : Nat) : Int)) = fbin .sub .f64 kv 4611686018427387904) := by
                unfold Hid; rw [← hkv, show ((j + 1 : Nat) : Int) = (j : Int) + 1 by omega]; exact (ak_sub_all ⟨j, hlt3⟩).symm
              have HM : Hid (∀ r r', Fl .f64 r kv → Fl .f64 r' (fbin .sub .f64 kv 4611686018427387904) → mk r' < mk r) := fun r r' a b => by
                rw [← HKS.out, show ((j + 1 : Nat) : Int) = (j : Int) + 1 by omega] at b
                rw [← hkv] at a
                obtain ⟨h1, h2, h3⟩ := ak_mk_all ⟨j, hlt3⟩
                rw [a.word h2, b.word h3]; exact h1
              clear HQQ HKK HW HOK HQ hkv hqv
              go_wp2_with (first | (refine wpList_farith rfl _ _ _ _ _ rfl _ _ _ rfl rfl (by decide) (by assumption) (by assumption) ?_; intro _ _ _) | (refine wpList_fcmp rfl _ _ _ _ _ rfl _ _ _ rfl rfl (by decide) (by assumption) (by assumption) (by first | assumption | rfl) ?_))
              go_roundw
              case rel => exact ⟨j + 1, _, _, HJ.out, rfl, rfl, by unfold Hid; rw [HQ2.out]; assumption, by unfold Hid; rw [HKS.out]; assumption, _, rfl⟩
              case measure => exact HM.out _ _ (by assumption) (by assumption)
            · obtain rfl : j = 8 := by omega
              have hkg : fcmp .geq .f64 kv 4607182418800017408 = false := by rw [← hkv]; exact (ak_geq_all ⟨8, by omega⟩).trans (decide_eq_false hlt3)
              obtain ⟨qv, hqv⟩ : ∃ qv, aP u 8 = qv := ⟨_, rfl⟩
              rw [hqv] at HQQ HQ
              have f6 : Fl .f64 rq qv := HQQ.out
              clear HQQ HKK hkv hqv
              obtain ⟨sx, hsx⟩ : ∃ sx, fcmp .lss .f32 x 0 = sx := ⟨_, rfl⟩
              obtain ⟨sy, hsy⟩ : ∃ sy, fcmp .lss .f32 y 0 = sy := ⟨_, rfl⟩
              rw [hsx, hsy] at HW
              cases sx <;> cases sy
              all_goals
                have HWW := HW.out
                unfold aF at HWW
                simp only [if_true, if_false, Bool.false_eq_true, aOver, aHalf] at HWW
                rw [HQ.out] at HWW
                have HW3 := hid HWW
                have hok : NarrowOk (angW y x) := by rw [HW.out]; exact HOK.out _ _ _
                rw [HWW] at hok
                clear HW HWW HQ HOK
                go_wp2_with (first | (refine wpList_farith rfl _ _ _ _ _ rfl _ _ _ rfl rfl (by decide) (by assumption) (by assumption) ?_; intro _ _ _) | (refine wpList_fcmp rfl _ _ _ _ _ rfl _ _ _ rfl rfl (by decide) (by assumption) (by assumption) (by first | assumption | rfl) ?_) | (refine wpList_fneg rfl _ _ rfl _ rfl (by assumption) ?_; intro _ _) | (refine wpList_fnarrow rfl _ _ _ rfl _ rfl (Option.isSome_iff_exists.2 ⟨_, (by with_reducible exact Tryz.underlying44)⟩) (by with_reducible exact Tryz.underlying24) (by assumption) (by assumption) ?_; intro _ _ _))
                go_ret
                exact ⟨⟨_, rfl, by rw [HW3.out]; assumption⟩, _, rfl⟩

end Go.Proofs.YtgfnchggflecgaaGreatDoor
