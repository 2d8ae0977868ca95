/-
  SINES of turns. Own work; no condition beyond what each theorem names.
-/
import Derived.Test.YtgfnchggflecgaaGreatDoorLb
import Derived.Test.YtgfnchggflecgaaGreatDoorFi
namespace Go.Proofs.YtgfnchggflecgaaGreatDoor
open Go.RowKit
set_option exponentiation.threshold 2000

/-! ### The plain part -/
/-- The word of a power of two. -/
def pw (k : Nat) : Nat := (1023 + k) * 4503599627370496
/-- A number of turns without whole ones. -/
def frV (y : Nat) : Nat := if fcmp .lss .f64 (fbin .sub .f64 y (ef (trI y))) 0 then fbin .add .f64 (fbin .sub .f64 y (ef (trI y))) 4607182418800017408 else fbin .sub .f64 y (ef (trI y))
def sfA (f : Nat) : Nat := if fcmp .geq .f64 f 4602678819172646912 then fbin .sub .f64 f 4602678819172646912 else f
def sfB (f : Nat) : Nat := if fcmp .gtr .f64 f 4598175219545276416 then fbin .sub .f64 4602678819172646912 f else f
def sfZ (f : Nat) : Nat := fbin .mul .f64 (sfB (sfA f)) 4618760256179416344
def dI (j : Nat) : Int := 2 * (8 - (j : Int)) * (2 * (8 - (j : Int)) + 1)
def pF (u : Nat) : Nat → Nat
  | 0 => 4607182418800017408
  | j + 1 => fbin .sub .f64 4607182418800017408 (fbin .quo .f64 (fbin .mul .f64 u (pF u j)) (ef (dI j)))
def sinR (f : Nat) : Nat := fbin .mul .f64 (sfZ f) (pF (fbin .mul .f64 (sfZ f) (sfZ f)) 8)
/-- The sine of a fraction of a turn. -/
def sinF (f : Nat) : Nat := if fcmp .geq .f64 f 4602678819172646912 then fneg .f64 (sinR f) else sinR f

theorem pd_all : ∀ j : _root_.Fin 8, fbin .mul .f64 (fbin .mul .f64 4611686018427387904 (ef (8 - (j.val : Int)))) (fbin .add .f64 (fbin .mul .f64 4611686018427387904 (ef (8 - (j.val : Int)))) 4607182418800017408) = ef (dI j.val) := by decide +kernel
theorem pk_sub_all : ∀ j : _root_.Fin 8, fbin .sub .f64 (ef (8 - (j.val : Int))) 4607182418800017408 = ef (8 - ((j.val : Int) + 1)) := by decide +kernel
theorem pk_geq_all : ∀ j : _root_.Fin 9, fcmp .geq .f64 (ef (8 - (j.val : Int))) 4607182418800017408 = decide (j.val < 8) := by decide +kernel
theorem pk_mk_all : ∀ j : _root_.Fin 8, mk (ef (8 - ((j.val : Int) + 1))) < mk (ef (8 - (j.val : Int))) ∧ isN .f64 (ef (8 - (j.val : Int))) = false ∧ isN .f64 (ef (8 - ((j.val : Int) + 1))) = false := by decide +kernel
theorem p_mul_all : ∀ j : _root_.Fin 8, rg .f64 (mag .f64 (pw 12) * mag .f64 (pw (13 * j.val))) (FloatKind.f64.format.leastPlace + FloatKind.f64.format.leastPlace) ≤ pw (13 * j.val + 12) := by decide +kernel
theorem p_sub_all : ∀ j : _root_.Fin 8, rg .f64 (mag .f64 4607182418800017408 + mag .f64 (pw (13 * j.val + 12))) FloatKind.f64.format.leastPlace ≤ pw (13 * (j.val + 1)) := by decide +kernel
theorem p_d_all : ∀ j : _root_.Fin 8, 4607182418800017408 ≤ rung .f64 (ef (dI j.val)) ∧ rung .f64 (ef (dI j.val)) < 9218868437227405312 ∧ ef (dI j.val) < 2 ^ 64 := by decide +kernel
theorem pw_inf_all : ∀ j : _root_.Fin 120, pw j.val < 9218868437227405312 := by decide +kernel
theorem pF_up {u : Nat} (hu : Up .f64 (pw 12) u) : ∀ j : Nat, j ≤ 8 → Up .f64 (pw (13 * j)) (pF u j)
  | 0, _ => show Up .f64 (pw (13 * 0)) 4607182418800017408 from ⟨by decide, by decide⟩
  | j + 1, h => by
    have ih := pF_up hu j (by omega)
    have i1 := pw_inf_all ⟨12, by decide⟩
    have i2 := pw_inf_all ⟨13 * j, by omega⟩
    have i3 := pw_inf_all ⟨13 * j + 12, by omega⟩
    have h1 := Up.mul hu ih (by rw [inf64]; exact i1) (by rw [inf64]; exact i2) (p_mul_all ⟨j, by omega⟩)
    obtain ⟨d1, d2, d3⟩ := p_d_all ⟨j, by omega⟩
    have hD : Fin .f64 (ef (dI j)) := ⟨d3, by rw [inf64]; exact d2⟩
    have h2 : Up .f64 (pw (13 * j + 12)) (fbin .quo .f64 (fbin .mul .f64 u (pF u j)) (ef (dI j))) := by
      refine Up.div (h1.fin (by rw [inf64]; exact i3)) hD (by have : 4607182418800017408 ≤ rung .f64 (ef (dI j)) := d1; omega) (by rw [inf64]; exact i3) 1074 lp64 ?_
      have m1 := mag_le (k := .f64) h1.2
      have m2 := mag_le (k := .f64) (show 4607182418800017408 ≤ rung .f64 (ef (dI j)) from d1)
      rw [one_mag] at m2
      exact Nat.mul_le_mul m1 m2
    exact Up.sub (cu := 4607182418800017408) ⟨by decide, by decide⟩ h2 (by rw [inf64]; decide) (by rw [inf64]; exact i3) (p_sub_all ⟨j, by omega⟩)

theorem up_one (u : Nat) (h : Up .f64 4607182418800017408 u) : Up .f64 (pw 3) (sfB (sfA u)) := by
  have b0 := pw_inf_all ⟨1, by decide⟩
  have h1 : Up .f64 (pw 1) (sfA u) := by
    unfold sfA
    split
    · exact Up.sub h (cv := 4602678819172646912) ⟨by decide, by decide⟩ (by rw [inf64]; decide) (by rw [inf64]; decide) (by decide +kernel)
    · exact h.mono (by decide)
  unfold sfB
  split
  · exact Up.sub (cu := 4602678819172646912) ⟨by decide, by decide⟩ h1 (by rw [inf64]; decide) (by rw [inf64]; exact b0) (by decide +kernel)
  · exact h1.mono (by decide)
theorem up_two (u : Nat) (h : Up .f64 (pw 1) u) : Up .f64 (pw 3) (sfB (sfA u)) := by
  have b0 := pw_inf_all ⟨1, by decide⟩
  have b2 := pw_inf_all ⟨2, by decide⟩
  have h1 : Up .f64 (pw 2) (sfA u) := by
    unfold sfA
    split
    · exact Up.sub h (cv := 4602678819172646912) ⟨by decide, by decide⟩ (by rw [inf64]; exact b0) (by rw [inf64]; decide) (by decide +kernel)
    · exact h.mono (by decide)
  unfold sfB
  split
  · exact Up.sub (cu := 4602678819172646912) ⟨by decide, by decide⟩ h1 (by rw [inf64]; decide) (by rw [inf64]; exact b2) (by decide +kernel)
  · exact h1.mono (by decide)
theorem sinR_up (u : Nat) (h : Up .f64 (pw 1) u) : Up .f64 (pw 110) (sinR u) := by
  have h1 := up_two u h
  have hz : Up .f64 (pw 6) (sfZ u) := Up.mul h1 (cv := 4618760256179416344) ⟨by decide, by decide⟩ (by rw [inf64]; exact pw_inf_all ⟨3, by decide⟩) (by rw [inf64]; decide) (by decide +kernel)
  have hu : Up .f64 (pw 12) (fbin .mul .f64 (sfZ u) (sfZ u)) := Up.mul hz hz (by rw [inf64]; exact pw_inf_all ⟨6, by decide⟩) (by rw [inf64]; exact pw_inf_all ⟨6, by decide⟩) (by decide +kernel)
  exact Up.mul hz (pF_up hu 8 (Nat.le_refl 8)) (by rw [inf64]; exact pw_inf_all ⟨6, by decide⟩) (by rw [inf64]; exact pw_inf_all ⟨104, by decide⟩) (by decide +kernel)
theorem up_bd {c u : Nat} (h : Up .f64 c u) (hc : c < 1150 * 4503599627370496) : NarrowOk u :=
  narrowOk_bd (N := 1150) (show Bd .f64 1150 u from ⟨h.1, Nat.lt_of_le_of_lt h.2 (by rw [bin64]; exact hc)⟩) (by decide)
theorem fneg_up {c u : Nat} (h : Up .f64 c u) (hc : c < 9218868437227405312) : Up .f64 c (fneg .f64 u) := by
  have hn := (h.fin (by rw [inf64]; exact hc)).notN
  rw [(fneg_key h.1 hn).2.2]
  exact ⟨FloatKind.f64.format.word_lt _ (rung_lt ..), by rw [rung_word .f64 _ (rung_lt ..)]; exact h.2⟩
theorem sinF_up (u : Nat) (h : Up .f64 (pw 1) u) : Up .f64 (pw 110) (sinF u) := by
  unfold sinF
  split
  · exact fneg_up (sinR_up u h) (pw_inf_all ⟨110, by decide⟩)
  · exact sinR_up u h
theorem sinF_ok (u : Nat) (h : Up .f64 (pw 1) u) : NarrowOk (sinF u) := up_bd (sinF_up u h) (by decide)

/-- 2^52 -/
def w52 : Nat := 4841369599423283200
theorem w52_mag : mag .f64 4841369599423283200 / 2 ^ 1074 ≤ 9007199254740991 := by decide +kernel
theorem frV_up {y : Nat} (h : Up .f64 4841369599423283200 y) : Up .f64 (pw 1) (frV y) := by
  have h1 := frac_up h (by decide) w52_mag
  unfold frV
  split
  · exact Up.add h1 (cv := 4607182418800017408) ⟨by decide, by decide⟩ (by rw [inf64]; decide) (by rw [inf64]; decide) (by decide +kernel)
  · exact h1.mono (by decide)
theorem int_of {y : Nat} (h : Up .f64 4841369599423283200 y) : floatToIntVal .f64 y .i64 = some (trI y) := toIntVal h (by decide) w52_mag

theorem fraction_any (x y : Nat) (hx : Fl .f64 x y) (h : Up .f64 4841369599423283200 y) (w : World) :
    Calls Tryz.prog 52 #[.float .f64 x] w fun e w' => (∃ r, e = .returned (.float .f64 r) ∧ Fl .f64 r (frV y)) ∧ Dr w w' := by
  have h0 := fz64
  have h1 : Fl .f64 4607182418800017408 4607182418800017408 := fone64
  have hI := int_of h
  have HV : Hid (frV y = if fcmp .lss .f64 (fbin .sub .f64 y (floatOfInt .f64 (trI y))) 0 then fbin .add .f64 (fbin .sub .f64 y (floatOfInt .f64 (trI y))) 4607182418800017408 else fbin .sub .f64 y (floatOfInt .f64 (trI y))) := rfl
  obtain ⟨T, hT⟩ : ∃ T, trI y = T := ⟨_, rfl⟩
  rw [hT] at HV hI
  clear hT h
  cases hb : fcmp .lss .f64 (fbin .sub .f64 y (floatOfInt .f64 T)) 0
  all_goals
    go_enter Tryz.func52, Tryz.ntmps52
    go_wp2_with (first | (refine wpList_farith rfl _ _ _ _ _ rfl _ _ _ rfl rfl (by decide) (by assumption) (by assumption) ?_; intro _ _ _) | (refine wpList_fcmp rfl _ _ _ _ _ rfl _ _ _ rfl rfl (by decide) (by assumption) (by assumption) (by first | assumption | rfl) ?_) | (refine wpList_ftoint rfl _ _ _ rfl _ rfl (Option.isSome_iff_exists.2 ⟨_, (by with_reducible exact Tryz.underlying44)⟩) (by with_reducible exact Tryz.underlying2) (by assumption) (by assumption) ?_) | (refine wpList_fofint rfl _ _ _ rfl _ _ rfl (Option.isSome_iff_exists.2 ⟨_, (by with_reducible exact Tryz.underlying2)⟩) (by with_reducible exact Tryz.underlying44) ?_; intro _) | (refine wpList_fofint rfl _ _ _ rfl _ _ rfl (Option.isSome_iff_exists.2 ⟨_, (by with_reducible exact Tryz.underlying2)⟩) (by with_reducible exact Tryz.underlying24) ?_; intro _) | (refine wpList_fofint rfl _ _ _ rfl _ _ rfl (Option.isSome_iff_exists.2 ⟨_, (by with_reducible exact Tryz.underlying3)⟩) (by with_reducible exact Tryz.underlying44) ?_; intro _) | (refine wpList_fofint rfl _ _ _ rfl _ _ rfl (Option.isSome_iff_exists.2 ⟨_, (by with_reducible exact Tryz.underlying3)⟩) (by with_reducible exact Tryz.underlying24) ?_; intro _))
    go_ret
    exact ⟨⟨_, rfl, by rw [HV.out, hb]; assumption⟩, _, rfl⟩
set_option maxHeartbeats 800000 in
theorem sine_any (x y : Nat) (hx : Fl .f64 x y) (h : Up .f64 4841369599423283200 y) (w : World) :
    Calls Tryz.prog 39 #[.float .f64 x] w fun e w' => (∃ r, e = .returned (.float .f64 r) ∧ Fl .f64 r (sinF (frV y))) ∧ Dr w w' := by
  have HF := hid (fun w => fraction_any x y hx h w)
  clear hx h
  generalize frV y = f at HF
  have h1 : Fl .f64 4607182418800017408 4607182418800017408 := fone64
  have h2 : Fl .f64 4611686018427387904 4611686018427387904 := Fl.lit (by decide) (by decide)
  have hh : Fl .f64 4602678819172646912 4602678819172646912 := Fl.lit (by decide) (by decide)
  have hq : Fl .f64 4598175219545276416 4598175219545276416 := Fl.lit (by decide) (by decide)
  have ht : Fl .f64 4618760256179416344 4618760256179416344 := Fl.lit (by decide) (by decide)
  have h8 : Fl .f64 4620693217682128896 (ef (8 - ((0 : Nat) : Int))) := by rw [show ef (8 - ((0 : Nat) : Int)) = 4620693217682128896 by decide +kernel]; exact Fl.lit (by decide) (by decide)
  have HA : Hid (sfA f = if fcmp .geq .f64 f 4602678819172646912 then fbin .sub .f64 f 4602678819172646912 else f) := rfl
  have HB : Hid (sfB (sfA f) = if fcmp .gtr .f64 (sfA f) 4598175219545276416 then fbin .sub .f64 4602678819172646912 (sfA f) else (sfA f)) := rfl
  have HZ : Hid (sfZ f = fbin .mul .f64 (sfB (sfA f)) 4618760256179416344) := rfl
  have HR : Hid (sinR f = fbin .mul .f64 (sfZ f) (pF (fbin .mul .f64 (sfZ f) (sfZ f)) 8)) := rfl
  have HV : Hid (sinF f = if fcmp .geq .f64 f 4602678819172646912 then fneg .f64 (sinR f) else sinR f) := rfl
  cases c1 : fcmp .geq .f64 f 4602678819172646912 <;> cases c2 : fcmp .gtr .f64 (sfA f) 4598175219545276416
  all_goals
    have HAA := HA.out
    have HBB := HB.out
    have HVV := HV.out
    have HZZ := HZ.out
    rw [c2] at HBB
    rw [HBB, HAA] at HZZ
    rw [c1] at HZZ HVV
    rw [HAA, c1] at c2
    simp only [if_true, if_false, Bool.false_eq_true] at HVV HZZ c2
    obtain ⟨zv, hzv⟩ : ∃ zv, sfZ f = zv := ⟨_, rfl⟩
    have HRR := HR.out
    rw [hzv] at HZZ HRR
    obtain ⟨u, hu⟩ : ∃ u, fbin .mul .f64 zv zv = u := ⟨_, rfl⟩
    have HUU := hu
    rw [HZZ] at HUU
    have HZ1 := hid (fun r (h : Fl .f64 r _) => show Fl .f64 r zv by rw [HZZ]; exact h)
    have HU1 := hid (fun r (h : Fl .f64 r _) => show Fl .f64 r u by rw [← HUU]; exact h)
    rw [hu] at HRR
    have HRR := hid HRR
    have HVV := hid HVV
    clear HA HB HR HV HZ HAA HBB HZZ HUU hu hzv
    go_enter Tryz.func39, Tryz.ntmps39
    go_wp2_with (first | (refine wpList_farith rfl _ _ _ _ _ rfl _ _ _ rfl rfl (by decide) (by assumption) (by assumption) ?_; intro _ _ _) | (refine wpList_fcmp rfl _ _ _ _ _ rfl _ _ _ rfl rfl (by decide) (by assumption) (by assumption) (by first | assumption | rfl) ?_) | (go_at_call 52; refine (HF.out _).mono ?_; rintro e w' ⟨⟨r0, rfl, hr0⟩, n0, rfl⟩))
    have fzv := HZ1.out _ (by assumption)
    have fuv := HU1.out _ (by assumption)
    clear HZ1 HU1 hr0 hh hq ht
    go_loopw [7, 8] (fun q kk wr => ∃ (j : Nat) (rq rk : Nat), j ≤ 8 ∧ q = .float .f64 rq ∧ kk = .float .f64 rk ∧ Hid (Fl .f64 rq (pF u j)) ∧ Hid (Fl .f64 rk (ef (8 - (j : Int)))) ∧ ∃ m, wr = w.drewN m) (fun _ kk _ => match kk with | .float _ b => mk b | _ => 0)
    case atStart => exact ⟨0, _, _, Nat.zero_le _, rfl, rfl, by unfold Hid; exact h1, by unfold Hid; exact h8, _, rfl⟩
    case round =>
      obtain ⟨j, rq, rk, hj, rfl, rfl, HQQ, HKK, m2, rfl⟩ := hrel
      obtain ⟨kv, hkv⟩ : ∃ kv, ef (8 - (j : Int)) = kv := ⟨_, rfl⟩
      rw [hkv] at HKK
      have f5 : Fl .f64 rk kv := HKK.out
      by_cases hlt3 : j < 8
      · obtain ⟨qv, hqv⟩ : ∃ qv, pF u j = qv := ⟨_, rfl⟩
        rw [hqv] at HQQ
        have f6 : Fl .f64 rq qv := HQQ.out
        have HJ := hid (show j + 1 ≤ 8 by omega)
        have HQ : Hid (pF u (j + 1) = fbin .sub .f64 4607182418800017408 (fbin .quo .f64 (fbin .mul .f64 u qv) (fbin .mul .f64 (fbin .mul .f64 4611686018427387904 kv) (fbin .add .f64 (fbin .mul .f64 4611686018427387904 kv) 4607182418800017408)))) := by
          unfold Hid; rw [← hkv, pd_all ⟨j, hlt3⟩, ← hqv]; rfl
        have hkg : fcmp .geq .f64 kv 4607182418800017408 = true := by rw [← hkv]; exact (pk_geq_all ⟨j, by omega⟩).trans (decide_eq_true hlt3)
        have HKS : Hid (ef (8 - ((j + 1 : Nat) : Int)) = fbin .sub .f64 kv 4607182418800017408) := by
          unfold Hid; rw [← hkv, show ((j + 1 : Nat) : Int) = (j : Int) + 1 by omega]; exact (pk_sub_all ⟨j, hlt3⟩).symm
        have HM : Hid (∀ r r', Fl .f64 r kv → Fl .f64 r' (fbin .sub .f64 kv 4607182418800017408) → mk r' < mk r) := fun r r' a b => by
          rw [← HKS.out, show ((j + 1 : Nat) : Int) = (j : Int) + 1 by omega] at b
          rw [← hkv] at a
          obtain ⟨h1, h2, h3⟩ := pk_mk_all ⟨j, hlt3⟩
          rw [a.word h2, b.word h3]; exact h1
        clear HQQ HKK HRR HVV hkv hqv
        go_wp2_with (first | (refine wpList_farith rfl _ _ _ _ _ rfl _ _ _ rfl rfl (by decide) (by assumption) (by assumption) ?_; intro _ _ _) | (refine wpList_fcmp rfl _ _ _ _ _ rfl _ _ _ rfl rfl (by decide) (by assumption) (by assumption) (by first | assumption | rfl) ?_))
        go_roundw
        case rel => exact ⟨j + 1, _, _, HJ.out, rfl, rfl, by unfold Hid; rw [HQ.out]; assumption, by unfold Hid; rw [HKS.out]; assumption, _, rfl⟩
        case measure => exact HM.out _ _ (by assumption) (by assumption)
      · have hj8 : j = 8 := by omega
        have hkg : fcmp .geq .f64 kv 4607182418800017408 = false := by rw [← hkv]; exact (pk_geq_all ⟨j, by omega⟩).trans (decide_eq_false hlt3)
        rw [hj8] at HQQ
        obtain ⟨qv, hqv⟩ : ∃ qv, pF u 8 = qv := ⟨_, rfl⟩
        rw [hqv] at HQQ HRR
        have f6 : Fl .f64 rq qv := HQQ.out
        clear HQQ HKK hkv hqv
        go_wp2_with (first | (refine wpList_farith rfl _ _ _ _ _ rfl _ _ _ rfl rfl (by decide) (by assumption) (by assumption) ?_; intro _ _ _) | (refine wpList_fcmp rfl _ _ _ _ _ rfl _ _ _ rfl rfl (by decide) (by assumption) (by assumption) (by first | assumption | rfl) ?_) | (refine wpList_fneg rfl _ _ rfl _ rfl (by assumption) ?_; intro _ _))
        go_ret
        exact ⟨⟨_, rfl, by rw [HVV.out, HRR.out]; assumption⟩, _, rfl⟩
/-- The kinds of a number. -/
theorem num_kinds {u : Nat} (hu : u < 2 ^ FloatKind.f32.format.width) (hc : nf .f32 u = u) : u = 2143289344 ∨ u = 2139095040 ∨ u = 4286578688 ∨ Fin .f32 u := by
  rcases log_kinds hu hc with h | h | h | h | ⟨h1, h2, h3⟩ | ⟨h1, h2, h3, h4, h5⟩
  · exact Or.inl h
  · subst h; exact Or.inr (Or.inr (Or.inr (fin_lit (by decide) (by decide))))
  · subst h; exact Or.inr (Or.inr (Or.inr (fin_lit (by decide) (by decide))))
  · exact Or.inr (Or.inl h)
  · have hl := notN h1
    rcases Nat.lt_or_eq_of_le hl with h4 | h4
    · exact Or.inr (Or.inr (Or.inr ⟨hu, h4⟩))
    · have hw := word_of hu
      rw [h2, h4] at hw
      exact Or.inr (Or.inr (Or.inl hw))
  · exact Or.inr (Or.inr (Or.inr ⟨hu, by rw [inf32]; exact h4⟩))
/-- What SineTurns gives. -/
def sineT (u : Nat) : Nat := if finB u then (if 4841369599423283200 ≤ rung .f64 (fwide u) then 0 else fnarrow (sinF (frV (fwide u)))) else nanW .f32
theorem fabs_fin {y : Nat} (h : Fin .f64 y) : fabs y = rung .f64 y ∧ fcmp .geq .f64 (fabs y) 4841369599423283200 = decide (4841369599423283200 ≤ rung .f64 y) := by
  have e : fabs y = rung .f64 y := by
    unfold fabs rung; rw [if_neg (by rw [h.notN]; decide), sw64]
  have hr := h.2
  rw [inf64] at hr
  exact ⟨e, by rw [e, geq_small hr (by decide)]⟩
theorem wide_Fin {u : Nat} (h : Fin .f32 u) : Fin .f64 (fwide u) := by
  have hr := h.2
  rw [inf32] at hr
  exact ⟨fwide_lt u, (bd_fwide hr).fin (by decide)⟩
theorem sub_self {y : Nat} (h : Fin .f64 y) : fbin .sub .f64 y y = 0 := by
  rw [fsub_fin h h, if_pos (by omega), show (vi .f64 y - vi .f64 y).natAbs = 0 by omega, rg_zero]
  cases sgn .f64 y <;> decide
set_option maxHeartbeats 400000 in
theorem SineTurns_any (x u : Nat) (hx : Fl .f32 x u) (w : World) :
    Calls Tryz.prog 19 #[.float .f32 x] w fun e w' => (∃ r, e = .returned (.float .f32 r) ∧ Fl .f32 r (sineT u)) ∧ Dr w w' := by
  by_cases hF : Fin .f32 u
  · have hfin := finB_fin hF
    have hW := wide_Fin hF
    obtain ⟨e1, e2⟩ := fabs_fin hW
    have h52 : Fl .f64 4841369599423283200 4841369599423283200 := Fl.lit (by decide) (by decide)
    by_cases hb : 4841369599423283200 ≤ rung .f64 (fwide u)
    · have HV : Hid (sineT u = 0) := by unfold Hid sineT; rw [if_pos hfin, if_pos hb]
      rw [decide_eq_true hb] at e2
      clear e1 hW hF hb
      go_enter Tryz.func19, Tryz.ntmps19
      go_wp2_with (first | (refine wpList_farith rfl _ _ _ _ _ rfl _ _ _ rfl rfl (by decide) (by assumption) (by assumption) ?_; intro _ _ _) | (refine wpList_fcmp rfl _ _ _ _ _ rfl _ _ _ rfl rfl (by decide) (by assumption) (by assumption) (by first | assumption | rfl) ?_) | (refine wpList_fwide rfl _ _ _ rfl _ rfl (Option.isSome_iff_exists.2 ⟨_, (by with_reducible exact Tryz.underlying24)⟩) (by with_reducible exact Tryz.underlying44) (by assumption) ?_; intro _ _ _) | (go_at_call 36; refine (IsFinite_any _ _ hx _).mono ?_; rw [hfin]; rintro e w' ⟨rfl, n2, rfl⟩) | (go_at_call 35; refine (Abs_any _ _ (by assumption) _).mono ?_; rintro e w' ⟨⟨r3, rfl, hr3⟩, rfl⟩))
      go_ret
      exact ⟨⟨_, rfl, by rw [HV.out]; exact fz32⟩, _, rfl⟩
    · have HV : Hid (sineT u = fnarrow (sinF (frV (fwide u)))) := by unfold Hid sineT; rw [if_pos hfin, if_neg hb]
      rw [decide_eq_false hb] at e2
      have hup : Up .f64 4841369599423283200 (fwide u) := ⟨hW.1, by omega⟩
      have hok := sinF_ok _ (frV_up hup)
      have HS := hid (fun x' w hx' => sine_any x' (fwide u) hx' hup w)
      obtain ⟨v, hv⟩ : ∃ v, sinF (frV (fwide u)) = v := ⟨_, rfl⟩
      rw [hv] at hok HS HV
      clear e1 hW hF hb hup hv
      go_enter Tryz.func19, Tryz.ntmps19
      go_wp2_with (first | (refine wpList_farith rfl _ _ _ _ _ rfl _ _ _ rfl rfl (by decide) (by assumption) (by assumption) ?_; intro _ _ _) | (refine wpList_fcmp rfl _ _ _ _ _ rfl _ _ _ rfl rfl (by decide) (by assumption) (by assumption) (by first | assumption | rfl) ?_) | (refine wpList_fwide rfl _ _ _ rfl _ rfl (Option.isSome_iff_exists.2 ⟨_, (by with_reducible exact Tryz.underlying24)⟩) (by with_reducible exact Tryz.underlying44) (by assumption) ?_; intro _ _ _) | (refine wpList_fnarrow rfl _ _ _ rfl _ rfl (Option.isSome_iff_exists.2 ⟨_, (by with_reducible exact Tryz.underlying44)⟩) (by with_reducible exact Tryz.underlying24) (by assumption) (by assumption) ?_; intro _ _ _) | (go_at_call 36; refine (IsFinite_any _ _ hx _).mono ?_; rw [hfin]; rintro e w' ⟨rfl, n2, rfl⟩) | (go_at_call 35; refine (Abs_any _ _ (by assumption) _).mono ?_; rintro e w' ⟨⟨r3, rfl, hr3⟩, rfl⟩) | (go_at_call 39; refine (HS.out _ _ (by assumption)).mono ?_; rintro e w' ⟨⟨r4, rfl, hr4⟩, n4, rfl⟩))
      go_ret
      exact ⟨⟨_, rfl, by rw [HV.out]; assumption⟩, _, rfl⟩
  · have hfin : finB u = false := by
      rcases num_kinds hx.vlt hx.canon with h | h | h | h
      · subst h; decide
      · subst h; decide
      · subst h; decide
      · exact absurd h hF
    have HV : Hid (sineT u = nanW .f32) := by unfold Hid sineT; rw [hfin]; rfl
    clear hF
    go_enter Tryz.func19, Tryz.ntmps19
    go_wp2_with (first | (refine wpList_farith rfl _ _ _ _ _ rfl _ _ _ rfl rfl (by decide) (by assumption) (by assumption) ?_; intro _ _ _) | (refine wpList_fcmp rfl _ _ _ _ _ rfl _ _ _ rfl rfl (by decide) (by assumption) (by assumption) (by first | assumption | rfl) ?_) | (go_at_call 36; refine (IsFinite_any _ _ hx _).mono ?_; rw [hfin]; rintro e w' ⟨rfl, n2, rfl⟩) | (go_at_call 37; refine (NaN_any _).mono ?_; rintro e w' ⟨rfl, rfl⟩; have fq : Fl .f64 9221120237041090561 (nanW .f64) := ⟨by decide, by decide⟩; have okq : NarrowOk (nanW .f64) := nan_nanW; have eq1 : fnarrow (nanW .f64) = nanW .f32 := by decide) | (refine wpList_fnarrow rfl _ _ _ rfl _ rfl (Option.isSome_iff_exists.2 ⟨_, (by with_reducible exact Tryz.underlying44)⟩) (by with_reducible exact Tryz.underlying24) (by assumption) (by assumption) ?_; intro _ _ _))
    go_ret
    exact ⟨⟨_, rfl, by rw [HV.out]; assumption⟩, _, rfl⟩
end Go.Proofs.YtgfnchggflecgaaGreatDoor
