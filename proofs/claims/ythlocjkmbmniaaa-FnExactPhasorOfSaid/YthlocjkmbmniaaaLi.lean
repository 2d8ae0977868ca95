/-
  PHASORS: the walks. Printed by wip/tools/gen_phasor.py. Own work; no condition beyond what each theorem names.
-/
import Derived.Test.YthlocjkmbmniaaaLh
namespace Go.Proofs.Ythlocjkmbmniaaa
open Go.RowKit
set_option exponentiation.threshold 2000

theorem ne_not {k : FloatKind} (u v : Nat) : fcmp .neq k u v = !fcmp .eql k u v := by simp [fcmp, fne, feq, bne]
theorem fin64 {y : Nat} (hy : y < 2 ^ FloatKind.f64.format.width) (h : fcmp .eql .f64 (fbin .sub .f64 y y) 0 = true) : Fin .f64 y := by
  refine ⟨hy, ?_⟩
  cases hn : isN .f64 y
  · have hl := notN hn
    rcases Nat.lt_or_eq_of_le hl with h1 | h1
    · exact h1
    · exfalso
      rw [rung64, inf64] at h1
      have hy2 : y < 18446744073709551616 := hy
      have : y = 9218868437227405312 ∨ y = 18442240474082181120 := by omega
      rcases this with rfl | rfl
      · exact absurd h (by decide)
      · exact absurd h (by decide)
  · exfalso
    rw [fbin_nan_left hn, fcmp_nan_left (by decide) (isN_nanW .f64)] at h
    exact absurd h (by decide)
def phA (y : Nat) : Nat := if fcmp .eql .f64 (fbin .sub .f64 y y) 0 then (if 4841369599423283200 ≤ rung .f64 y then 1065353216 else fnarrow (phRe (sq (frV y) (phN (frV y))) (phN (frV y)))) else nanW .f32
def phB (y : Nat) : Nat := if fcmp .eql .f64 (fbin .sub .f64 y y) 0 then (if 4841369599423283200 ≤ rung .f64 y then 0 else fnarrow (phIm (sq (frV y) (phN (frV y))) (phN (frV y)))) else nanW .f32
theorem big_two {y : Nat} (hF : Fin .f64 y) (hb : 4841369599423283200 ≤ rung .f64 y) : fcmp .geq .f64 y 4841369599423283200 = true ∨ (fcmp .geq .f64 y 4841369599423283200 = false ∧ fcmp .leq .f64 y 14064741636278059008 = true) := by
  rw [fge_key hF.notN (by decide), show key .f64 4841369599423283200 = 4841369599423283200 by decide, fle_key hF.notN (by decide), show key .f64 14064741636278059008 = -4841369599423283200 by decide]
  unfold key sm
  cases sgn .f64 y
  · exact Or.inl (decide_eq_true (by simp; omega))
  · exact Or.inr ⟨decide_eq_false (by simp; omega), decide_eq_true (by simp; omega)⟩
theorem small_two {y : Nat} (hF : Fin .f64 y) (hb : rung .f64 y < 4841369599423283200) : fcmp .geq .f64 y 4841369599423283200 = false ∧ fcmp .leq .f64 y 14064741636278059008 = false := by
  rw [fge_key hF.notN (by decide), show key .f64 4841369599423283200 = 4841369599423283200 by decide, fle_key hF.notN (by decide), show key .f64 14064741636278059008 = -4841369599423283200 by decide]
  refine ⟨decide_eq_false ?_, decide_eq_false ?_⟩
  · unfold key sm; split <;> omega
  · unfold key sm; split <;> omega
theorem zc_lt {f : Nat} (h : Zc 4607182418800017408 f) : Fin .f64 f ∧ rung .f64 f < 4841369599423283200 ∧ Fin .f64 (fbin .sub .f64 4598175219545276416 f) ∧ rung .f64 (fbin .sub .f64 4598175219545276416 f) < 4841369599423283200 := by
  have h1 : Up .f64 4607182418800017408 f := ⟨h.1.1.1, h.2⟩
  have h2 : Up .f64 4608308318706860032 (fbin .sub .f64 4598175219545276416 f) := Up.sub (cu := 4598175219545276416) ⟨by decide, by decide⟩ h1 (by rw [inf64]; decide) (by rw [inf64]; decide) (by decide +kernel)
  exact ⟨h.1.1, Nat.lt_of_le_of_lt h.2 (by decide), h2.fin (by rw [inf64]; decide), Nat.lt_of_le_of_lt h2.2 (by decide)⟩
theorem isFinite64_any (x y : Nat) (hx : Fl .f64 x y) (w : World) : Calls Try.prog 68 #[.float .f64 x] w fun e w' => e = .returned (.bool (fcmp .eql .f64 (fbin .sub .f64 y y) 0)) ∧ Dr w w' := by
  have h0 := fz64
  go_enter Try.func68, Try.ntmps68
  go_wp2_with (first | (refine wpList_farith rfl _ _ _ _ _ rfl _ _ _ rfl rfl (by decide) (by assumption) (by assumption) ?_; intro _ _ _) | (refine wpList_fcmp rfl _ _ _ _ _ rfl _ _ _ rfl rfl (by decide) (by assumption) (by assumption) (by first | assumption | rfl) ?_))
  go_ret
  exact ⟨rfl, _, rfl⟩
theorem fl_canon_nan : Fl .f32 2143289344 (nanW .f32) := ⟨by decide, by decide⟩

set_option maxHeartbeats 3200000 in
theorem PhasorOf_any (x y : Nat) (hx : Fl .f64 x y) (w : World) :
    Calls Try.prog 35 #[.float .f64 x] w fun e w' => (∃ re im, e = .returned (.complex .f32 re im) ∧ Fl .f32 re (phA y) ∧ Fl .f32 im (phB y)) ∧ Dr w w' := by
  cases hb : fcmp .eql .f64 (fbin .sub .f64 y y) 0
  · have HA : Hid (phA y = nanW .f32) := by unfold Hid phA; rw [hb]; rfl
    have HB : Hid (phB y = nanW .f32) := by unfold Hid phB; rw [hb]; rfl
    go_enter Try.func35, Try.ntmps35
    go_wp2_with (first | (go_at_call 68; refine (isFinite64_any _ _ hx _).mono ?_; rw [hb]; rintro e w' ⟨rfl, n2, rfl⟩) | (go_at_call 50; refine (NaN_any _).mono ?_; rintro e w' ⟨rfl, rfl⟩; have fq : Fl .f64 9221120237041090561 (nanW .f64) := ⟨by decide, by decide⟩; have okq : NarrowOk (nanW .f64) := nan_nanW; have eq1 : fnarrow (nanW .f64) = nanW .f32 := by decide) | (refine wpList_fnarrow rfl _ _ _ rfl _ rfl (Option.isSome_iff_exists.2 ⟨_, (by with_reducible exact Try.underlying28)⟩) (by with_reducible exact Try.underlying23) (by assumption) (by assumption) ?_; intro _ _ _))
    go_ret
    exact ⟨⟨_, _, rfl, by rw [HA.out]; assumption, by rw [HB.out]; assumption⟩, _, rfl⟩
  have hF := fin64 hx.vlt hb
  obtain ⟨e1, e2⟩ := fabs_fin hF
  have h52 : Fl .f64 4841369599423283200 4841369599423283200 := Fl.lit (by decide) (by decide)
  by_cases hbig : 4841369599423283200 ≤ rung .f64 y
  · have HA : Hid (phA y = 1065353216) := by unfold Hid phA; rw [if_pos hb, if_pos hbig]
    have HB : Hid (phB y = 0) := by unfold Hid phB; rw [if_pos hb, if_pos hbig]
    rw [decide_eq_true hbig] at e2
    clear e1 hF hbig
    go_enter Try.func35, Try.ntmps35
    go_wp2_with (first | (go_at_call 68; refine (isFinite64_any _ _ hx _).mono ?_; rw [hb]; rintro e w' ⟨rfl, n2, rfl⟩) | (go_at_call 51; refine (Abs_any _ _ (by assumption) _).mono ?_; rintro e w' ⟨⟨r3, rfl, hr3⟩, rfl⟩) | (refine wpList_farith rfl _ _ _ _ _ rfl _ _ _ rfl rfl (by decide) (by assumption) (by assumption) ?_; intro _ _ _) | (refine wpList_fcmp rfl _ _ _ _ _ rfl _ _ _ rfl rfl (by decide) (by assumption) (by assumption) (by first | assumption | rfl) ?_))
    go_ret
    exact ⟨⟨_, _, rfl, by rw [HA.out]; exact fone32, by rw [HB.out]; exact fz32⟩, _, rfl⟩
  · have hup : Up .f64 4841369599423283200 y := ⟨hF.1, by omega⟩
    have HA : Hid (phA y = fnarrow (phRe (sq (frV y) (phN (frV y))) (phN (frV y)))) := by unfold Hid phA; rw [if_pos hb, if_neg hbig]
    have HB : Hid (phB y = fnarrow (phIm (sq (frV y) (phN (frV y))) (phN (frV y)))) := by unfold Hid phB; rw [if_pos hb, if_neg hbig]
    have hZC := hid (frV_zc hup)
    have h0 := fz64
    have hq : Fl .f64 4598175219545276416 4598175219545276416 := Fl.lit (by decide) (by decide)
    have HFR := hid (fun w => fraction_any x y hx hup w)
    rw [decide_eq_false hbig] at e2
    obtain ⟨f, hf⟩ : ∃ f, frV y = f := ⟨_, rfl⟩
    rw [hf] at HA HB hZC HFR
    have HGQ := hid (fun k (h : k < phN f) => phN_before h)
    clear e1 hF hbig hup hf
    go_enter Try.func35, Try.ntmps35
    go_wp2_with (first | (go_at_call 68; refine (isFinite64_any _ _ hx _).mono ?_; rw [hb]; rintro e w' ⟨rfl, n2, rfl⟩) | (go_at_call 51; refine (Abs_any _ _ (by assumption) _).mono ?_; rintro e w' ⟨⟨r3, rfl, hr3⟩, rfl⟩) | (go_at_call 69; refine (HFR.out _).mono ?_; rintro e w' ⟨⟨r5, rfl, ff0⟩, n5, rfl⟩) | (refine wpList_farith rfl _ _ _ _ _ rfl _ _ _ rfl rfl (by decide) (by assumption) (by assumption) ?_; intro _ _ _) | (refine wpList_fcmp rfl _ _ _ _ _ rfl _ _ _ rfl rfl (by decide) (by assumption) (by assumption) (by first | assumption | rfl) ?_))
    clear hb e2 HFR hx
    go_loopw [4, 5] (fun ff qq wr => ∃ (k r : Nat), k ≤ phN f ∧ ff = .float .f64 r ∧ qq = .int .i64 k ∧ Hid (Fl .f64 r (sq f k)) ∧ ∃ m, wr = w.drewN m) (fun _ qq _ => phN f - (intOf qq).toNat)
    case atStart => exact ⟨0, _, Nat.zero_le _, rfl, rfl, by unfold Hid; exact ff0, _, rfl⟩
    case round =>
      obtain ⟨k, r, hk, rfl, rfl, HF, m, rfl⟩ := hrel
      by_cases hlt : k < phN f
      · have hg5 := HGQ.out k hlt
        unfold gq at hg5
        have HSQ : Hid (sq f (k + 1) = fbin .sub .f64 (sq f k) 4598175219545276416) := rfl
        have hkb : k ≤ 4 := by have := phN_le f; omega
        have f1 : Fl .f64 r (sq f k) := HF.out
        generalize sq f k = fk at *
        clear HA HB
        go_wp2_with (first | (refine wpList_farith rfl _ _ _ _ _ rfl _ _ _ rfl rfl (by decide) (by assumption) (by assumption) ?_; intro _ _ _) | (refine wpList_fcmp rfl _ _ _ _ _ rfl _ _ _ rfl rfl (by decide) (by assumption) (by assumption) (by first | assumption | rfl) ?_))
        go_roundw
        case rel => exact ⟨k + 1, _, by omega, rfl, by go_num, by unfold Hid; rw [HSQ.out]; assumption, _, rfl⟩
        case measure => simp [intOf]; omega
      · have hkk : k = phN f := by omega
        subst hkk
        have hz2 := sq_zc hZC.out (phN f) (Nat.le_refl _)
        obtain ⟨u1, u2⟩ := zc_up hz2
        obtain ⟨l0, l1, l2, l3⟩ := zc_lt hz2
        obtain ⟨s1, s2⟩ := sc_up hz2
        have o1 : NarrowOk (cosV (sq f (phN f))) := up_bd s1 (by decide)
        have o2 : NarrowOk (sinV (sq f (phN f))) := up_bd s2 (by decide)
        have o3 : NarrowOk (fbin .sub .f64 0 (cosV (sq f (phN f)))) := up_bd (ne_up s1) (by decide)
        have o4 : NarrowOk (fbin .sub .f64 0 (sinV (sq f (phN f)))) := up_bd (ne_up s2) (by decide)
        have hg5 : gq f (phN f) = false := phN_after hZC.out
        unfold gq at hg5
        have hq4 := phN_le f
        have HC := hid (fun x w hx => sine_any x _ hx u2 w)
        have HS := hid (fun x w hx => sine_any x _ hx u1 w)
        have HRE : Hid (phRe (sq f (phN f)) (phN f) = if phN f = 1 then fbin .sub .f64 0 (sinV (sq f (phN f))) else if phN f = 2 then fbin .sub .f64 0 (cosV (sq f (phN f))) else if phN f = 3 then sinV (sq f (phN f)) else cosV (sq f (phN f))) := rfl
        have HIM : Hid (phIm (sq f (phN f)) (phN f) = if phN f = 1 then cosV (sq f (phN f)) else if phN f = 2 then fbin .sub .f64 0 (sinV (sq f (phN f))) else if phN f = 3 then fbin .sub .f64 0 (cosV (sq f (phN f))) else sinV (sq f (phN f))) := rfl
        change Hid (∀ (x : Nat) (w : World), Fl .f64 x (fbin .sub .f64 4598175219545276416 (sq f (phN f))) → Calls Try.prog 52 #[.float .f64 x] w fun e w' => (∃ r, e = .returned (.float .f64 r) ∧ Fl .f64 r (cosV (sq f (phN f)))) ∧ Dr w w') at HC
        change Hid (∀ (x : Nat) (w : World), Fl .f64 x (sq f (phN f)) → Calls Try.prog 52 #[.float .f64 x] w fun e w' => (∃ r, e = .returned (.float .f64 r) ∧ Fl .f64 r (sinV (sq f (phN f)))) ∧ Dr w w') at HS
        obtain ⟨re, hre⟩ : ∃ re, phRe (sq f (phN f)) (phN f) = re := ⟨_, rfl⟩
        obtain ⟨im, him⟩ : ∃ im, phIm (sq f (phN f)) (phN f) = im := ⟨_, rfl⟩
        rw [hre] at HRE HA
        rw [him] at HIM HB
        obtain ⟨cv, hcv⟩ : ∃ cv, cosV (sq f (phN f)) = cv := ⟨_, rfl⟩
        obtain ⟨sv, hsv⟩ : ∃ sv, sinV (sq f (phN f)) = sv := ⟨_, rfl⟩
        rw [hcv] at HC o1 o3 HRE HIM
        rw [hsv] at HS o2 o4 HRE HIM
        obtain ⟨fq, hfq⟩ : ∃ fq, sq f (phN f) = fq := ⟨_, rfl⟩
        have f1 : Fl .f64 r (sq f (phN f)) := HF.out
        rw [hfq] at f1 HC HS hg5
        clear hre him hcv hsv hfq HF hz2 u1 u2 l0 l1 l2 l3 s1 s2
        obtain ⟨q, hq⟩ : ∃ q, phN f = q := ⟨_, rfl⟩
        rw [hq] at HRE HIM hq4 ⊢
        clear hq hZC HGQ hlt hk
        have hqq : q = 0 ∨ q = 1 ∨ q = 2 ∨ q = 3 ∨ q = 4 := by omega
        rcases hqq with rfl | rfl | rfl | rfl | rfl
        all_goals
          have h3 := HRE.out
          have h4 := HIM.out
          simp at h3 h4
          have HRE3 := hid h3
          have HIM3 := hid h4
          clear HRE HIM h3 h4 hq4
          go_wp2_with (first | (refine wpList_fnarrow rfl _ _ _ rfl _ rfl (Option.isSome_iff_exists.2 ⟨_, (by with_reducible exact Try.underlying28)⟩) (by with_reducible exact Try.underlying23) (by assumption) (by assumption) ?_; intro _ _ _) | (go_at_call 52; first | (refine (HC.out _ _ (by assumption)).mono ?_; rintro e w' ⟨⟨r2, rfl, hr2⟩, n2, rfl⟩) | (refine (HS.out _ _ (by assumption)).mono ?_; rintro e w' ⟨⟨r2, rfl, hr2⟩, n2, rfl⟩)) | (refine wpList_farith rfl _ _ _ _ _ rfl _ _ _ rfl rfl (by decide) (by assumption) (by assumption) ?_; intro _ _ _) | (refine wpList_fcmp rfl _ _ _ _ _ rfl _ _ _ rfl rfl (by decide) (by assumption) (by assumption) (by first | assumption | rfl) ?_))
          go_ret
          exact ⟨⟨_, _, rfl, by rw [HA.out, HRE3.out]; assumption, by rw [HB.out, HIM3.out]; assumption⟩, _, rfl⟩
set_option maxHeartbeats 3200000 in
theorem l01Phasor_any (x y : Nat) (hx : Fl .f64 x y) (w : World) :
    Calls Try.prog 67 #[.float .f64 x] w fun e w' => (∃ re im, e = .returned (.complex .f32 re im) ∧ Fl .f32 re (phA y) ∧ Fl .f32 im (phB y)) ∧ Dr w w' := by
  have hne := ne_not (k := .f64) (fbin .sub .f64 y y) 0
  have h0' := fz64
  cases hb : fcmp .eql .f64 (fbin .sub .f64 y y) 0
  · have HA : Hid (phA y = nanW .f32) := by unfold Hid phA; rw [hb]; rfl
    have HB : Hid (phB y = nanW .f32) := by unfold Hid phB; rw [hb]; rfl
    rw [hb] at hne
    have hne2 : fcmp .neq .f64 (fbin .sub .f64 y y) 0 = true := hne
    clear hne
    go_enter Try.func67, Try.ntmps67
    go_wp2_with (first | (go_at_call 82; refine (l01From_any _ (by decide) (by decide) _).mono ?_; rintro e w' ⟨rfl, rfl⟩) | (refine wpList_farith rfl _ _ _ _ _ rfl _ _ _ rfl rfl (by decide) (by assumption) (by assumption) ?_; intro _ _ _) | (refine wpList_fcmp rfl _ _ _ _ _ rfl _ _ _ rfl rfl (by decide) (by assumption) (by assumption) (by first | assumption | rfl) ?_))
    go_ret
    exact ⟨⟨_, _, rfl, by rw [HA.out]; exact fl_canon_nan, by rw [HB.out]; exact fl_canon_nan⟩, _, rfl⟩
  rw [hb] at hne
  have hne2 : fcmp .neq .f64 (fbin .sub .f64 y y) 0 = false := hne
  clear hne
  have hF := fin64 hx.vlt hb
  have k1 : Fl .f64 4841369599423283200 4841369599423283200 := Fl.lit (by decide) (by decide)
  have k2 : Fl .f64 14064741636278059008 14064741636278059008 := Fl.lit (by decide) (by decide)
  by_cases hbig : 4841369599423283200 ≤ rung .f64 y
  · have HA : Hid (phA y = 1065353216) := by unfold Hid phA; rw [if_pos hb, if_pos hbig]
    have HB : Hid (phB y = 0) := by unfold Hid phB; rw [if_pos hb, if_pos hbig]
    have hg := big_two hF hbig
    clear hF hbig hb
    rcases hg with g1 | ⟨g1, g2⟩
    all_goals
      go_enter Try.func67, Try.ntmps67
      go_wp2_with (first | (refine wpList_farith rfl _ _ _ _ _ rfl _ _ _ rfl rfl (by decide) (by assumption) (by assumption) ?_; intro _ _ _) | (refine wpList_fcmp rfl _ _ _ _ _ rfl _ _ _ rfl rfl (by decide) (by assumption) (by assumption) (by first | assumption | rfl) ?_))
      go_ret
      exact ⟨⟨_, _, rfl, by rw [HA.out]; exact fone32, by rw [HB.out]; exact fz32⟩, _, rfl⟩
  · have hup : Up .f64 4841369599423283200 y := ⟨hF.1, by omega⟩
    have HA : Hid (phA y = fnarrow (phRe (sq (frV y) (phN (frV y))) (phN (frV y)))) := by unfold Hid phA; rw [if_pos hb, if_neg hbig]
    have HB : Hid (phB y = fnarrow (phIm (sq (frV y) (phN (frV y))) (phN (frV y)))) := by unfold Hid phB; rw [if_pos hb, if_neg hbig]
    have hZC := hid (frV_zc hup)
    have h0 := fz64
    have hq : Fl .f64 4598175219545276416 4598175219545276416 := Fl.lit (by decide) (by decide)
    obtain ⟨g1, g2⟩ := small_two hF (by omega)
    have hI := int_of hup
    have h1 : Fl .f64 4607182418800017408 4607182418800017408 := fone64
    have HF0 : Hid (frV y = if fcmp .lss .f64 (fbin .sub .f64 y (floatOfInt .f64 (trI y))) 0 then fbin .add .f64 (fbin .sub .f64 y (floatOfInt .f64 (trI y))) 4607182418800017408 else fbin .sub .f64 y (floatOfInt .f64 (trI y))) := rfl
    obtain ⟨T, hT⟩ : ∃ T, trI y = T := ⟨_, rfl⟩
    rw [hT] at HF0 hI
    obtain ⟨f, hf⟩ : ∃ f, frV y = f := ⟨_, rfl⟩
    rw [hf] at HA HB hZC HF0
    have HGQ := hid (fun k (h : k < phN f) => phN_before h)
    clear hF hbig hup hf hb hT
    cases c0 : fcmp .lss .f64 (fbin .sub .f64 y (floatOfInt .f64 T)) 0
    all_goals
      have HF1 := HF0.out
      rw [c0] at HF1
      first | simp only [if_true] at HF1 | simp only [if_false, Bool.false_eq_true] at HF1
      have HFF := hid (fun r (h : Fl .f64 r _) => show Fl .f64 r f by rw [HF1]; exact h)
      clear HF0 HF1
      go_enter Try.func67, Try.ntmps67
      go_wp2_with (first | (refine wpList_ftoint rfl _ _ _ rfl _ rfl (Option.isSome_iff_exists.2 ⟨_, (by with_reducible exact Try.underlying28)⟩) (by with_reducible exact Try.underlying2) (by assumption) (by assumption) ?_) | (refine wpList_fofint rfl _ _ _ rfl _ _ rfl (Option.isSome_iff_exists.2 ⟨_, (by with_reducible exact Try.underlying2)⟩) (by with_reducible exact Try.underlying28) ?_; intro _) | (refine wpList_fofint rfl _ _ _ rfl _ _ rfl (Option.isSome_iff_exists.2 ⟨_, (by with_reducible exact Try.underlying2)⟩) (by with_reducible exact Try.underlying23) ?_; intro _) | (refine wpList_fofint rfl _ _ _ rfl _ _ rfl (Option.isSome_iff_exists.2 ⟨_, (by with_reducible exact Try.underlying3)⟩) (by with_reducible exact Try.underlying28) ?_; intro _) | (refine wpList_fofint rfl _ _ _ rfl _ _ rfl (Option.isSome_iff_exists.2 ⟨_, (by with_reducible exact Try.underlying3)⟩) (by with_reducible exact Try.underlying23) ?_; intro _) | (refine wpList_farith rfl _ _ _ _ _ rfl _ _ _ rfl rfl (by decide) (by assumption) (by assumption) ?_; intro _ _ _) | (refine wpList_fcmp rfl _ _ _ _ _ rfl _ _ _ rfl rfl (by decide) (by assumption) (by assumption) (by first | assumption | rfl) ?_))
      have ff0 := HFF.out _ (by assumption)
      clear HFF hI g1 g2 c0 hx k1 k2 hne2
      go_loopw [3, 4] (fun ff qq wr => ∃ (k r : Nat), k ≤ phN f ∧ ff = .float .f64 r ∧ qq = .int .i64 k ∧ Hid (Fl .f64 r (sq f k)) ∧ ∃ m, wr = w.drewN m) (fun _ qq _ => phN f - (intOf qq).toNat)
      case atStart => exact ⟨0, _, Nat.zero_le _, rfl, rfl, by unfold Hid; exact ff0, _, rfl⟩
      case round =>
        obtain ⟨k, r, hk, rfl, rfl, HF, m, rfl⟩ := hrel
        by_cases hlt : k < phN f
        · have hg5 := HGQ.out k hlt
          unfold gq at hg5
          have HSQ : Hid (sq f (k + 1) = fbin .sub .f64 (sq f k) 4598175219545276416) := rfl
          have hkb : k ≤ 4 := by have := phN_le f; omega
          have f1 : Fl .f64 r (sq f k) := HF.out
          generalize sq f k = fk at *
          clear HA HB
          go_wp2_with (first | (refine wpList_farith rfl _ _ _ _ _ rfl _ _ _ rfl rfl (by decide) (by assumption) (by assumption) ?_; intro _ _ _) | (refine wpList_fcmp rfl _ _ _ _ _ rfl _ _ _ rfl rfl (by decide) (by assumption) (by assumption) (by first | assumption | rfl) ?_))
          go_roundw
          case rel => exact ⟨k + 1, _, by omega, rfl, by go_num, by unfold Hid; rw [HSQ.out]; assumption, _, rfl⟩
          case measure => simp [intOf]; omega
        · have hkk : k = phN f := by omega
          subst hkk
          have hz2 := sq_zc hZC.out (phN f) (Nat.le_refl _)
          obtain ⟨u1, u2⟩ := zc_up hz2
          obtain ⟨l0, l1, l2, l3⟩ := zc_lt hz2
          obtain ⟨s1, s2⟩ := sc_up hz2
          have o1 : NarrowOk (cosV (sq f (phN f))) := up_bd s1 (by decide)
          have o2 : NarrowOk (sinV (sq f (phN f))) := up_bd s2 (by decide)
          have o3 : NarrowOk (fbin .sub .f64 0 (cosV (sq f (phN f)))) := up_bd (ne_up s1) (by decide)
          have o4 : NarrowOk (fbin .sub .f64 0 (sinV (sq f (phN f)))) := up_bd (ne_up s2) (by decide)
          have hg5 : gq f (phN f) = false := phN_after hZC.out
          unfold gq at hg5
          have hq4 := phN_le f
          have HC := hid (fun x w hx => l01SineWide_fin x _ hx l2 l3 w)
          have HS := hid (fun x w hx => l01SineWide_fin x _ hx l0 l1 w)
          have HRE : Hid (phRe (sq f (phN f)) (phN f) = if phN f = 1 then fbin .sub .f64 0 (sinV (sq f (phN f))) else if phN f = 2 then fbin .sub .f64 0 (cosV (sq f (phN f))) else if phN f = 3 then sinV (sq f (phN f)) else cosV (sq f (phN f))) := rfl
          have HIM : Hid (phIm (sq f (phN f)) (phN f) = if phN f = 1 then cosV (sq f (phN f)) else if phN f = 2 then fbin .sub .f64 0 (sinV (sq f (phN f))) else if phN f = 3 then fbin .sub .f64 0 (cosV (sq f (phN f))) else sinV (sq f (phN f))) := rfl
          change Hid (∀ (x : Nat) (w : World), Fl .f64 x (fbin .sub .f64 4598175219545276416 (sq f (phN f))) → Calls Try.prog 77 #[.float .f64 x] w fun e w' => (∃ r, e = .returned (.float .f64 r) ∧ Fl .f64 r (cosV (sq f (phN f)))) ∧ Dr w w') at HC
          change Hid (∀ (x : Nat) (w : World), Fl .f64 x (sq f (phN f)) → Calls Try.prog 77 #[.float .f64 x] w fun e w' => (∃ r, e = .returned (.float .f64 r) ∧ Fl .f64 r (sinV (sq f (phN f)))) ∧ Dr w w') at HS
          obtain ⟨re, hre⟩ : ∃ re, phRe (sq f (phN f)) (phN f) = re := ⟨_, rfl⟩
          obtain ⟨im, him⟩ : ∃ im, phIm (sq f (phN f)) (phN f) = im := ⟨_, rfl⟩
          rw [hre] at HRE HA
          rw [him] at HIM HB
          obtain ⟨cv, hcv⟩ : ∃ cv, cosV (sq f (phN f)) = cv := ⟨_, rfl⟩
          obtain ⟨sv, hsv⟩ : ∃ sv, sinV (sq f (phN f)) = sv := ⟨_, rfl⟩
          rw [hcv] at HC o1 o3 HRE HIM
          rw [hsv] at HS o2 o4 HRE HIM
          obtain ⟨fq, hfq⟩ : ∃ fq, sq f (phN f) = fq := ⟨_, rfl⟩
          have f1 : Fl .f64 r (sq f (phN f)) := HF.out
          rw [hfq] at f1 HC HS hg5
          clear hre him hcv hsv hfq HF hz2 u1 u2 l0 l1 l2 l3 s1 s2
          obtain ⟨q, hq⟩ : ∃ q, phN f = q := ⟨_, rfl⟩
          rw [hq] at HRE HIM hq4 ⊢
          clear hq hZC HGQ hlt hk
          have hqq : q = 0 ∨ q = 1 ∨ q = 2 ∨ q = 3 ∨ q = 4 := by omega
          rcases hqq with rfl | rfl | rfl | rfl | rfl
          all_goals
            have h3 := HRE.out
            have h4 := HIM.out
            simp at h3 h4
            have HRE3 := hid h3
            have HIM3 := hid h4
            clear HRE HIM h3 h4 hq4
            go_wp2_with (first | (go_at_call 77; first | (refine (HC.out _ _ (by assumption)).mono ?_; rintro e w' ⟨⟨r2, rfl, hr2⟩, n2, rfl⟩) | (refine (HS.out _ _ (by assumption)).mono ?_; rintro e w' ⟨⟨r2, rfl, hr2⟩, n2, rfl⟩)) | (go_at_call 76; refine (l01Narrow_any _ _ (by assumption) (by assumption) _).mono ?_; rintro e w' ⟨⟨r4, rfl, hr4⟩, n4, rfl⟩) | (refine wpList_farith rfl _ _ _ _ _ rfl _ _ _ rfl rfl (by decide) (by assumption) (by assumption) ?_; intro _ _ _) | (refine wpList_fcmp rfl _ _ _ _ _ rfl _ _ _ rfl rfl (by decide) (by assumption) (by assumption) (by first | assumption | rfl) ?_))
            go_ret
            exact ⟨⟨_, _, rfl, by rw [HA.out, HRE3.out]; assumption, by rw [HB.out, HIM3.out]; assumption⟩, _, rfl⟩
theorem sPhasorOf_any (x y : Nat) (hx : Fl .f64 x y) (w : World) :
    Calls Try.prog 34 #[.float .f64 x] w fun e w' => (∃ re im, e = .returned (.complex .f32 re im) ∧ Fl .f32 re (phA y) ∧ Fl .f32 im (phB y)) ∧ Dr w w' := by
  go_enter Try.func34, Try.ntmps34
  go_wp2_with (first | (go_at_call 67; refine (l01Phasor_any _ _ hx _).mono ?_; rintro e w' ⟨⟨re, im, rfl, h1, h2⟩, n2, rfl⟩))
  go_ret
  exact ⟨⟨_, _, rfl, by assumption, by assumption⟩, _, rfl⟩
theorem FnExactPhasorOf_walk (a0 : Nat) (w : World) (w0 : (Lit.float .f64 a0).wf = true) :
    Calls Try.prog 11 #[.float .f64 a0] w fun e w' => e = .returned (.bool true) ∧ Below w.heap.size w w' := by
  have hx := fl_of_wf64 w0
  generalize nf .f64 a0 = y at hx
  have HB := hid (show ∀ w : World, _ from fun w => sPhasorOf_any _ _ hx w)
  have HC := hid (show ∀ w : World, _ from fun w => PhasorOf_any _ _ hx w)
  generalize phA y = A at HB HC
  generalize phB y = B at HB HC
  go_enter Try.func11, Try.ntmps11
  go_wp2_with (first | (go_at_call 34; refine (HB.out _).mono ?_; rintro e w' ⟨⟨r, i, rfl, hr, hi⟩, n, rfl⟩) | (go_at_call 35; refine (HC.out _).mono ?_; rintro e w' ⟨⟨r2, i2, rfl, hr2, hi2⟩, n2, rfl⟩) | (refine wpList_cwide rfl 28 (by with_reducible exact Try.underlying28) _ _ _ rfl _ _ rfl (Option.isSome_iff_exists.2 ⟨_, (by with_reducible exact Try.underlying35)⟩) (by with_reducible exact Try.underlying38) (by assumption) (by assumption) ?_; intro _ _ _ _ _) | (go_at_call 36; refine (sameComplex_true _ _ _ _ _ _ (by assumption) (by assumption) (by assumption) (by assumption) _).mono ?_; rintro e w' ⟨rfl, n3, rfl⟩))
  go_ret
  exact ⟨rfl, below_drewN (Below.refl _ _) _⟩
end Go.Proofs.Ythlocjkmbmniaaa
