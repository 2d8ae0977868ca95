/-
  DISTANCES OF ROWS: the walks. Printed by wip/tools/gen_rows.py 3. Own work.
-/
import Derived.Test.YthlocjkmbmniaaaEb
namespace Go.Proofs.Ythlocjkmbmniaaa
open Go.RowKit
attribute [local go_sem] opS fineS givesS


def farB (a b : List Nat) : Bool := twoB a b
def farW (a b : List Nat) : Nat := if twoB a b then farV a b else 0
theorem l02Size_any (x u : Nat) (hx : Fl .f32 x u) (w : World) :
    Calls Try.prog 59 #[.float .f32 x] w fun e w' => (∃ r, e = .returned (.float .f32 r) ∧ Fl .f32 r (sizeV u)) ∧ Dr w w' := by
  have h0 := fz32
  cases hb : fcmp .leq .f32 u 0
  all_goals
    have HV : Hid (sizeV u = if fcmp .leq .f32 u 0 then fbin .sub .f32 0 u else u) := rfl
    go_enter Try.func59, Try.ntmps59
    go_wp2_with (first | (refine wpList_farith rfl _ _ _ _ _ rfl _ _ _ rfl rfl (by decide) (by assumption) (by assumption) ?_; intro _ _ _) | (refine wpList_fcmp rfl _ _ _ _ _ rfl _ _ _ rfl rfl (by decide) (by assumption) (by assumption) (by first | assumption | rfl) ?_) | (refine wpList_fneg rfl _ _ rfl _ rfl (by assumption) ?_; intro _ _))
    go_ret
    refine ⟨⟨_, rfl, ?_⟩, by first | exact ⟨_, rfl⟩ | exact ⟨0, rfl⟩⟩
    rw [HV.out, hb]
    assumption

set_option maxHeartbeats 1600000 in
theorem FarOfRows_any (p q : Option Addr) (c1 c2 : Nat) (xs ys : List Nat) (w : World) (hs : SL (.float .f32) 0 w p xs) (hz : ∀ z ∈ xs, z < 4294967296) (hs2 : SL (.float .f32) 0 w q ys) (hz2 : ∀ z ∈ ys, z < 4294967296) (hm : xs.length ≤ 1048576) (hm2 : ys.length ≤ 1048576) :
    Calls Try.prog 31 #[.slice p xs.length c1, .slice q ys.length c2] w fun e w' => (∃ r, e = .returned (.tuple #[.float .f32 r, .bool (farB (us xs) (us ys))]) ∧ Fl .f32 r (farW (us xs) (us ys))) ∧ Dr w w' := by
  have HA := hid (areRows_any p q c1 c2 xs ys w hs hz hs2 hz2 hm hm2)
  have HB : Hid (farB (us xs) (us ys) = twoB (us xs) (us ys)) := rfl
  have h0 := fz32
  by_cases ht : twoB (us xs) (us ys) = true
  · have HV : Hid (farW (us xs) (us ys) = farV (us xs) (us ys)) := by unfold Hid farW; rw [if_pos ht]
    obtain ⟨t1, t2, t3⟩ := twoB_parts ht
    have hu1 := fun j hj => (row_up (us_lt hz) t1 (j := j) hj).2
    have hu2 := fun j hj => (row_up (us_lt hz2) t2 (j := j) hj).2
    have hv1 := fun j hj => (row_up (us_lt hz) t1 (j := j) hj).1
    have hv2 := fun j hj => (row_up (us_lt hz2) t2 (j := j) hj).1
    have hlen := (row_len t1).2
    have HP := hid (far_plain (a := us xs) (b := us ys) t3 hlen hu1 hu2)
    rw [us_len, us_len] at t3
    rw [ht] at HA HB
    have HS := hid hs
    have HZ := hid hz
    have HS2 := hid hs2
    have HZ2 := hid hz2
    have HL := hid t3
    clear hs hz hs2 hz2 t1 t2 t3 ht hu1 hu2 hv1 hv2 hlen
    go_enter Try.func31, Try.ntmps31
    go_wp2_with (fail)
    refine HA.out.mono ?_
    rintro e w' ⟨rfl, n, rfl⟩
    go_wp2_with (fail)
    clear HA
    go_loopw [6, 15] (fun s i wr => ∃ k r : Nat, k ≤ xs.length ∧ i = .int .i64 k ∧ s = .float .f32 r ∧ Hid (Fl .f32 r (fold2 farS ((us xs).take k) ((us ys).take k))) ∧ ∃ n, wr = w.drewN n) (fun _ i _ => xs.length - (intOf i).toNat)
    case atStart => exact ⟨0, 0, Nat.zero_le _, rfl, rfl, h0, _, rfl⟩
    case round =>
      obtain ⟨k, r, hk, rfl, rfl, HF, n, rfl⟩ := hrel
      by_cases hlt : k < xs.length
      · obtain ⟨b, off, rfl, hc⟩ := HS.out k hlt
        have hlt2 : k < ys.length := by rw [← HL.out]; exact hlt
        obtain ⟨b2, off2, rfl, hc2⟩ := HS2.out k hlt2
        have hI : (k : Int) < (xs.length : Int) := by omega
        have hI2 : (k : Int) < (ys.length : Int) := by omega
        have f1 := us_fl HZ.out hlt
        have f3 := us_fl HZ2.out hlt2
        have HT := hid (fold2_succ farS (us xs) (us ys) k (by rw [us_len]; exact hlt) (by rw [us_len, us_len]; exact HL.out))
        have f2 : Fl .f32 r (fold2 farS ((us xs).take k) ((us ys).take k)) := HF.out
        generalize (us xs).getD k 0 = u at *
        generalize xs.getD k 0 = x at *
        generalize (us ys).getD k 0 = u2 at *
        generalize ys.getD k 0 = x2 at *
        generalize fold2 farS ((us xs).take k) ((us ys).take k) = v at *
        go_wp2_with (first | (refine wpList_farith rfl _ _ _ _ _ rfl _ _ _ rfl rfl (by decide) (by assumption) (by assumption) ?_; intro _ _ _) | (refine wpList_fcmp rfl _ _ _ _ _ rfl _ _ _ rfl rfl (by decide) (by assumption) (by assumption) (by first | assumption | rfl) ?_))
        refine (absolute_any _ _ (by assumption) _).mono ?_
        rintro e w' ⟨⟨r2, rfl, hr2⟩, n2, rfl⟩
        go_wp2_with (first | (refine wpList_farith rfl _ _ _ _ _ rfl _ _ _ rfl rfl (by decide) (by assumption) (by assumption) ?_; intro _ _ _) | (refine wpList_fcmp rfl _ _ _ _ _ rfl _ _ _ rfl rfl (by decide) (by assumption) (by assumption) (by first | assumption | rfl) ?_))
        go_roundw
        case rel => exact ⟨k + 1, _, by omega, by go_num, rfl, by unfold Hid; rw [HT.out]; assumption, _, rfl⟩
        case measure => simp [intOf]; omega
      · have HK := hid (show k = xs.length by omega)
        have f2 : Fl .f32 r (fold2 farS (us xs) (us ys)) := by
          have h := HF.out
          rw [HK.out, ← us_len xs, List.take_length, us_len, HL.out, ← us_len ys, List.take_length] at h
          exact h
        have f4 : Fl .f32 1073741824 1073741824 := Fl.lit (by decide) (by decide)
        have f5 : Fl .f32 1056964608 1056964608 := Fl.lit (by decide) (by decide)
        have HVT : Hid (farV (us xs) (us ys) = fbin .quo .f32 (fold2 farS (us xs) (us ys)) 1073741824) := rfl
        have hN : Hid (numV (farV (us xs) (us ys)) = farV (us xs) (us ys)) := by unfold Hid numV; rw [if_pos HP.out.1]
        have hFB := HP.out.1
        generalize fold2 farS (us xs) (us ys) = v at *
        generalize farV (us xs) (us ys) = tv at *
        clear HF HS HS2 HP
        go_wp2_with (first | (refine wpList_farith rfl _ _ _ _ _ rfl _ _ _ rfl rfl (by decide) (by assumption) (by assumption) ?_; intro _ _ _) | (refine wpList_fcmp rfl _ _ _ _ _ rfl _ _ _ rfl rfl (by decide) (by assumption) (by assumption) (by first | assumption | rfl) ?_) | (go_at_call 62; refine (asNumber_any _ tv (by rw [HVT.out]; assumption) _).mono ?_; rw [hFB]; rintro e w' ⟨⟨r3, rfl, hr3⟩, n3, rfl⟩))
        go_ret2
        exact ⟨⟨_, by rw [HB.out]; rfl, by rw [HV.out, ← hN.out]; assumption⟩, _, rfl⟩
  · have ht : twoB (us xs) (us ys) = false := by cases h : twoB (us xs) (us ys) <;> simp_all
    have HV : Hid (farW (us xs) (us ys) = 0) := by unfold Hid farW; rw [if_neg (by rw [ht]; decide)]
    rw [ht] at HA HB
    clear hs hz hs2 hz2 ht
    go_enter Try.func31, Try.ntmps31
    go_wp2_with (fail)
    refine HA.out.mono ?_
    rintro e w' ⟨rfl, n, rfl⟩
    go_wp2_with (fail)
    go_ret2
    exact ⟨⟨_, by rw [HB.out]; rfl, by rw [HV.out]; exact h0⟩, _, rfl⟩
set_option maxHeartbeats 1600000 in
theorem sFarOfRows_any (p q : Option Addr) (c1 c2 : Nat) (xs ys : List Nat) (w : World) (hs : SL (.float .f32) 0 w p xs) (hz : ∀ z ∈ xs, z < 4294967296) (hs2 : SL (.float .f32) 0 w q ys) (hz2 : ∀ z ∈ ys, z < 4294967296) (hm : xs.length ≤ 1048576) (hm2 : ys.length ≤ 1048576) :
    Calls Try.prog 30 #[.slice p xs.length c1, .slice q ys.length c2] w fun e w' => (∃ r, e = .returned (.tuple #[.float .f32 r, .bool (farB (us xs) (us ys))]) ∧ Fl .f32 r (farW (us xs) (us ys))) ∧ Dr w w' := by
  have HA := hid (l02Two_any p q c1 c2 xs ys w hs hz hs2 hz2 hm hm2)
  have HB : Hid (farB (us xs) (us ys) = twoB (us xs) (us ys)) := rfl
  have h0 := fz32
  by_cases ht : twoB (us xs) (us ys) = true
  · have HV : Hid (farW (us xs) (us ys) = farV (us xs) (us ys)) := by unfold Hid farW; rw [if_pos ht]
    obtain ⟨t1, t2, t3⟩ := twoB_parts ht
    have hu1 := fun j hj => (row_up (us_lt hz) t1 (j := j) hj).2
    have hu2 := fun j hj => (row_up (us_lt hz2) t2 (j := j) hj).2
    have hv1 := fun j hj => (row_up (us_lt hz) t1 (j := j) hj).1
    have hv2 := fun j hj => (row_up (us_lt hz2) t2 (j := j) hj).1
    have hlen := (row_len t1).2
    have HP := hid (far_plain (a := us xs) (b := us ys) t3 hlen hu1 hu2)
    rw [us_len, us_len] at t3
    rw [ht] at HA HB
    have HS := hid hs
    have HZ := hid hz
    have HS2 := hid hs2
    have HZ2 := hid hz2
    have HL := hid t3
    clear hs hz hs2 hz2 t1 t2 t3 ht hu1 hu2 hv1 hv2 hlen
    go_enter Try.func30, Try.ntmps30
    go_wp2_with (fail)
    refine HA.out.mono ?_
    rintro e w' ⟨rfl, n, rfl⟩
    go_wp2_with (fail)
    clear HA
    go_loopw [6, 7] (fun s i wr => ∃ k r : Nat, k ≤ xs.length ∧ i = .int .i64 k ∧ s = .float .f32 r ∧ Hid (Fl .f32 r (fold2 farT ((us xs).take k) ((us ys).take k))) ∧ ∃ n, wr = w.drewN n) (fun _ i _ => xs.length - (intOf i).toNat)
    case atStart => exact ⟨0, 0, Nat.zero_le _, rfl, rfl, h0, _, rfl⟩
    case round =>
      obtain ⟨k, r, hk, rfl, rfl, HF, n, rfl⟩ := hrel
      by_cases hlt : k < xs.length
      · obtain ⟨b, off, rfl, hc⟩ := HS.out k hlt
        have hlt2 : k < ys.length := by rw [← HL.out]; exact hlt
        obtain ⟨b2, off2, rfl, hc2⟩ := HS2.out k hlt2
        have hI : (k : Int) < (xs.length : Int) := by omega
        have hI2 : (k : Int) < (ys.length : Int) := by omega
        have f1 := us_fl HZ.out hlt
        have f3 := us_fl HZ2.out hlt2
        have HT := hid (fold2_succ farT (us xs) (us ys) k (by rw [us_len]; exact hlt) (by rw [us_len, us_len]; exact HL.out))
        have f2 : Fl .f32 r (fold2 farT ((us xs).take k) ((us ys).take k)) := HF.out
        generalize (us xs).getD k 0 = u at *
        generalize xs.getD k 0 = x at *
        generalize (us ys).getD k 0 = u2 at *
        generalize ys.getD k 0 = x2 at *
        generalize fold2 farT ((us xs).take k) ((us ys).take k) = v at *
        go_wp2_with (first | (refine wpList_farith rfl _ _ _ _ _ rfl _ _ _ rfl rfl (by decide) (by assumption) (by assumption) ?_; intro _ _ _) | (refine wpList_fcmp rfl _ _ _ _ _ rfl _ _ _ rfl rfl (by decide) (by assumption) (by assumption) (by first | assumption | rfl) ?_))
        refine wp_region_mixN (callG sizeV) (by kernel_rfl) (by kernel_rfl) ?_
        simp only [List.map_cons, List.map_nil]
        repeat (refine mixS_step (fun K hK => ?_); first | (refine opS_farith rfl _ _ _ _ _ rfl _ _ _ rfl rfl (by decide) (by assumption) (by assumption) ?_; intro _ _; refine hK _ ?_; clear hK K) | (go_simp; refine hK _ ?_; clear hK K) | (refine opS_callf (f := 59) (u := fbin .sub .f32 u u2) rfl ?_ (by assumption) (fun w' => l02Size_any _ _ (by assumption) w') ?_; (focus intro w'; go_simp; done); intro _ _; refine hK _ ?_; clear hK K))
        refine mixS_nil ?_
        rintro w' ⟨m, rfl⟩
        go_wp2_with (first | (refine wpList_farith rfl _ _ _ _ _ rfl _ _ _ rfl rfl (by decide) (by assumption) (by assumption) ?_; intro _ _ _) | (refine wpList_fcmp rfl _ _ _ _ _ rfl _ _ _ rfl rfl (by decide) (by assumption) (by assumption) (by first | assumption | rfl) ?_))
        go_roundw
        case rel => exact ⟨k + 1, _, by omega, by go_num, rfl, by unfold Hid; rw [HT.out]; assumption, _, rfl⟩
        case measure => simp [intOf]; omega
      · have HK := hid (show k = xs.length by omega)
        have f2 : Fl .f32 r (fold2 farT (us xs) (us ys)) := by
          have h := HF.out
          rw [HK.out, ← us_len xs, List.take_length, us_len, HL.out, ← us_len ys, List.take_length] at h
          exact h
        have f4 : Fl .f32 1073741824 1073741824 := Fl.lit (by decide) (by decide)
        have f5 : Fl .f32 1056964608 1056964608 := Fl.lit (by decide) (by decide)
        have HVT : Hid (farV (us xs) (us ys) = fbin .mul .f32 1056964608 (fold2 farT (us xs) (us ys))) := HP.out.2
        generalize fold2 farT (us xs) (us ys) = v at *
        generalize farV (us xs) (us ys) = tv at *
        clear HF HS HS2 HP
        go_wp2_with (first | (refine wpList_farith rfl _ _ _ _ _ rfl _ _ _ rfl rfl (by decide) (by assumption) (by assumption) ?_; intro _ _ _) | (refine wpList_fcmp rfl _ _ _ _ _ rfl _ _ _ rfl rfl (by decide) (by assumption) (by assumption) (by first | assumption | rfl) ?_))
        go_ret2
        exact ⟨⟨_, by rw [HB.out]; rfl, by rw [HV.out, HVT.out]; assumption⟩, _, rfl⟩
  · have ht : twoB (us xs) (us ys) = false := by cases h : twoB (us xs) (us ys) <;> simp_all
    have HV : Hid (farW (us xs) (us ys) = 0) := by unfold Hid farW; rw [if_neg (by rw [ht]; decide)]
    rw [ht] at HA HB
    clear hs hz hs2 hz2 ht
    go_enter Try.func30, Try.ntmps30
    go_wp2_with (fail)
    refine HA.out.mono ?_
    rintro e w' ⟨rfl, n, rfl⟩
    go_wp2_with (fail)
    go_ret2
    exact ⟨⟨_, by rw [HB.out]; rfl, by rw [HV.out]; exact h0⟩, _, rfl⟩

def roS (s a b : Nat) : Nat := fbin .add .f32 s (rootV (fbin .mul .f32 a b))
def roD (a b : List Nat) : Nat := fbin .sub .f32 1065353216 (fold2 roS a b)
def roT (a b : List Nat) : Nat := if fcmp .lss .f32 (roD a b) 0 then 0 else rootV (roD a b)
def roW (a b : List Nat) : Nat := if twoB a b then roT a b else 0
theorem root_zero : rootV 0 = 0 ∧ rootV 2147483648 = 2147483648 := by decide +kernel
theorem root_fin {u : Nat} (h : NonNeg .f32 u) : Up .f32 1644167168 (rootV u) ∧ sgn .f32 (rootV u) = sgn .f32 u := by
  by_cases h0 : rung .f32 u = 0
  · have hw := word_of h.1.1
    rw [h0] at hw
    cases hs : sgn .f32 u
    · rw [hs] at hw
      have hu : u = 0 := hw
      subst hu
      rw [root_zero.1]
      exact ⟨⟨by decide, by decide⟩, by decide⟩
    · rw [hs] at hw
      have hu : u = 2147483648 := hw
      subst hu
      rw [root_zero.2]
      exact ⟨⟨by decide, by decide⟩, by decide⟩
  · have hs : sgn .f32 u = false := by
      rcases h.2 with h1 | h1
      · exact h1
      · exact absurd h1 h0
    have hr := h.1.2
    rw [inf32] at hr
    have hb := bd_fwide hr
    have hsw : sgn .f64 (fwide u) = false := by rw [(fwide_parts h.1.notN).1, hs]
    obtain ⟨hq, hqs⟩ := Bd.sqrt hb (by decide) hsw 1090 (by decide) (by decide)
    have hqr := read_bd (k := .f64) hq (by decide)
    have hex := ex_le (k := .f64) hq.2
    have hqn := hq.notN (by decide)
    have e : rootV u = FloatKind.f32.format.nearest false (sig .f64 (rung .f64 (fsqrt (fwide u)))) (FloatKind.f64.format.leastPlace + (pl .f64 (rung .f64 (fsqrt (fwide u))) : Int)) := by
      unfold rootV fnarrow
      rw [if_neg (by rw [hqn]; decide), hqr, hqs]; rfl
    rw [e, hs]
    refine ⟨?_, sgn_nearest .f32 false _ _⟩
    have hbn := bd_nearest (k := .f32) false (m := sig .f64 (rung .f64 (fsqrt (fwide u)))) (place := FloatKind.f64.format.leastPlace + (pl .f64 (rung .f64 (fsqrt (fwide u))) : Int)) (N := 195) (fun hm => by
      have h2 := hex (sig_ne hm)
      have b1 : (bias .f64 : Int) = 1023 := rfl
      have b2 : (bias .f32 : Int) = 127 := rfl
      omega) (by decide)
    refine ⟨hbn.1, Nat.le_trans (Nat.le_of_lt hbn.2) (by decide)⟩


theorem mul_nonneg {a b : Nat} (ha : NonNeg .f32 a) (hb : NonNeg .f32 b) (ua : Up .f32 1073741824 a) (ub : Up .f32 1073741824 b) : NonNeg .f32 (fbin .mul .f32 a b) := by
  have hu : Up .f32 1082130432 (fbin .mul .f32 a b) := Up.mul ua ub (by rw [inf32]; decide) (by rw [inf32]; decide) (by decide +kernel)
  refine ⟨hu.fin (by rw [inf32]; decide), ?_⟩
  rw [fmul_fin ha.1 hb.1, sgn_word .f32 _ (rg_sw ..), rung_word .f32 _ (rg_sw ..)]
  rcases ha.2 with h1 | h1
  · rcases hb.2 with h2 | h2
    · rw [h1, h2]; exact Or.inl rfl
    · rw [h2, mag_zero, Nat.mul_zero, rg_zero]; exact Or.inr rfl
  · rw [h1, mag_zero, Nat.zero_mul, rg_zero]; exact Or.inr rfl
def cr (k : Nat) : Nat := floatOfInt .f32 ((k : Int) * 590295810358705651712)
theorem cr_all : ∀ k : _root_.Fin 32, rg .f32 (mag .f32 (cr k.val) + mag .f32 1644167168) FloatKind.f32.format.leastPlace ≤ cr (k.val + 1) := by decide +kernel
theorem cr_inf : ∀ k : _root_.Fin 33, cr k.val ≤ 1686110208 := by decide +kernel
theorem ro_folds {a b : List Nat} (hl : a.length = b.length) (hm : a.length ≤ 32) (ha : ∀ j, j < a.length → NonNeg .f32 (a.getD j 0) ∧ Up .f32 1073741824 (a.getD j 0)) (hb : ∀ j, j < b.length → NonNeg .f32 (b.getD j 0) ∧ Up .f32 1073741824 (b.getD j 0)) : ∀ k, k ≤ a.length →
    Up .f32 (cr k) (fold2 roS (a.take k) (b.take k))
  | 0, _ => by
    rw [List.take_zero, List.take_zero]
    exact show Up .f32 (cr 0) 0 from ⟨by decide, by decide⟩
  | k + 1, h => by
    have ih := ro_folds hl hm ha hb k (by omega)
    rw [fold2_succ roS a b k (by omega) hl]
    have h1 := ha k (by omega)
    have h2 := hb k (by omega)
    have hr := root_fin (mul_nonneg h1.1 h2.1 h1.2 h2.2)
    have hc := cr_inf ⟨k, by omega⟩
    exact Up.add ih hr.1 (by rw [inf32]; exact Nat.lt_of_le_of_lt hc (by decide)) (by rw [inf32]; decide) (cr_all ⟨k, by omega⟩)
theorem ro_plain {a b : List Nat} (hl : a.length = b.length) (hm : a.length ≤ 32) (ha : ∀ j, j < a.length → NonNeg .f32 (a.getD j 0) ∧ Up .f32 1073741824 (a.getD j 0)) (hb : ∀ j, j < b.length → NonNeg .f32 (b.getD j 0) ∧ Up .f32 1073741824 (b.getD j 0)) (hn : fcmp .lss .f32 (roD a b) 0 = false) :
    finB (rootV (roD a b)) = true := by
  have h := ro_folds hl hm ha hb a.length (Nat.le_refl _)
  have e2 : b.take a.length = b := by rw [hl, List.take_length]
  rw [List.take_length, e2] at h
  have hc := cr_inf ⟨a.length, by omega⟩
  have hd : Up .f32 1694498816 (roD a b) := Up.sub (cu := 1065353216) (cv := 1686110208) ⟨by decide, by decide⟩ (h.mono hc) (by rw [inf32]; decide) (by rw [inf32]; decide) (by decide +kernel)
  have hf := hd.fin (by rw [inf32]; decide)
  have hnn : NonNeg .f32 (roD a b) := by
    refine ⟨hf, ?_⟩
    rw [flt_key hf.notN (by decide), key_zero] at hn
    have hn := of_decide_eq_false hn
    unfold key sm at hn
    cases hs : sgn .f32 (roD a b)
    · exact Or.inl rfl
    · rw [hs] at hn
      simp at hn
      exact Or.inr (by omega)
  exact finB_fin ((root_fin hnn).1.fin (by rw [inf32]; decide))

set_option maxHeartbeats 1600000 in
theorem RootFar_any (p q : Option Addr) (c1 c2 : Nat) (xs ys : List Nat) (w : World) (hs : SL (.float .f32) 0 w p xs) (hz : ∀ z ∈ xs, z < 4294967296) (hs2 : SL (.float .f32) 0 w q ys) (hz2 : ∀ z ∈ ys, z < 4294967296) (hm : xs.length ≤ 1048576) (hm2 : ys.length ≤ 1048576) :
    Calls Try.prog 42 #[.slice p xs.length c1, .slice q ys.length c2] w fun e w' => (∃ r, e = .returned (.tuple #[.float .f32 r, .bool (farB (us xs) (us ys))]) ∧ Fl .f32 r (roW (us xs) (us ys))) ∧ Dr w w' := by
  have HA := hid (areRows_any p q c1 c2 xs ys w hs hz hs2 hz2 hm hm2)
  have HB : Hid (farB (us xs) (us ys) = twoB (us xs) (us ys)) := rfl
  have h0 := fz32
  by_cases ht : twoB (us xs) (us ys) = true
  · have HV : Hid (roW (us xs) (us ys) = roT (us xs) (us ys)) := by unfold Hid roW; rw [if_pos ht]
    obtain ⟨t1, t2, t3⟩ := twoB_parts ht
    have hu1 := fun j hj => (row_up (us_lt hz) t1 (j := j) hj).2
    have hu2 := fun j hj => (row_up (us_lt hz2) t2 (j := j) hj).2
    have hv1 := fun j hj => (row_up (us_lt hz) t1 (j := j) hj).1
    have hv2 := fun j hj => (row_up (us_lt hz2) t2 (j := j) hj).1
    have hlen := (row_len t1).2
    have HP := hid (ro_plain (a := us xs) (b := us ys) t3 hlen (fun j hj => ⟨hv1 j hj, hu1 j hj⟩) (fun j hj => ⟨hv2 j hj, hu2 j hj⟩))
    rw [us_len, us_len] at t3
    rw [ht] at HA HB
    have HS := hid hs
    have HZ := hid hz
    have HS2 := hid hs2
    have HZ2 := hid hz2
    have HL := hid t3
    clear hs hz hs2 hz2 t1 t2 t3 ht hu1 hu2 hv1 hv2 hlen
    go_enter Try.func42, Try.ntmps42
    go_wp2_with (fail)
    refine HA.out.mono ?_
    rintro e w' ⟨rfl, n, rfl⟩
    go_wp2_with (fail)
    clear HA
    go_loopw [6, 15] (fun s i wr => ∃ k r : Nat, k ≤ xs.length ∧ i = .int .i64 k ∧ s = .float .f32 r ∧ Hid (Fl .f32 r (fold2 roS ((us xs).take k) ((us ys).take k))) ∧ ∃ n, wr = w.drewN n) (fun _ i _ => xs.length - (intOf i).toNat)
    case atStart => exact ⟨0, 0, Nat.zero_le _, rfl, rfl, h0, _, rfl⟩
    case round =>
      obtain ⟨k, r, hk, rfl, rfl, HF, n, rfl⟩ := hrel
      by_cases hlt : k < xs.length
      · obtain ⟨b, off, rfl, hc⟩ := HS.out k hlt
        have hlt2 : k < ys.length := by rw [← HL.out]; exact hlt
        obtain ⟨b2, off2, rfl, hc2⟩ := HS2.out k hlt2
        have hI : (k : Int) < (xs.length : Int) := by omega
        have hI2 : (k : Int) < (ys.length : Int) := by omega
        have f1 := us_fl HZ.out hlt
        have f3 := us_fl HZ2.out hlt2
        have HT := hid (fold2_succ roS (us xs) (us ys) k (by rw [us_len]; exact hlt) (by rw [us_len, us_len]; exact HL.out))
        have f2 : Fl .f32 r (fold2 roS ((us xs).take k) ((us ys).take k)) := HF.out
        generalize (us xs).getD k 0 = u at *
        generalize xs.getD k 0 = x at *
        generalize (us ys).getD k 0 = u2 at *
        generalize ys.getD k 0 = x2 at *
        generalize fold2 roS ((us xs).take k) ((us ys).take k) = v at *
        go_wp2_with (first | (refine wpList_farith rfl _ _ _ _ _ rfl _ _ _ rfl rfl (by decide) (by assumption) (by assumption) ?_; intro _ _ _) | (refine wpList_fcmp rfl _ _ _ _ _ rfl _ _ _ rfl rfl (by decide) (by assumption) (by assumption) (by first | assumption | rfl) ?_))
        refine (RootNumber_any _ _ (by assumption) _).mono ?_
        rintro e w' ⟨⟨r2, rfl, hr2⟩, n2, rfl⟩
        go_wp2_with (first | (refine wpList_farith rfl _ _ _ _ _ rfl _ _ _ rfl rfl (by decide) (by assumption) (by assumption) ?_; intro _ _ _) | (refine wpList_fcmp rfl _ _ _ _ _ rfl _ _ _ rfl rfl (by decide) (by assumption) (by assumption) (by first | assumption | rfl) ?_))
        go_roundw
        case rel => exact ⟨k + 1, _, by omega, by go_num, rfl, by unfold Hid; rw [HT.out]; assumption, _, rfl⟩
        case measure => simp [intOf]; omega
      · have HK := hid (show k = xs.length by omega)
        have f2 : Fl .f32 r (fold2 roS (us xs) (us ys)) := by
          have h := HF.out
          rw [HK.out, ← us_len xs, List.take_length, us_len, HL.out, ← us_len ys, List.take_length] at h
          exact h
        have f4 : Fl .f32 1065353216 1065353216 := fone32
        have HVT : Hid (roD (us xs) (us ys) = fbin .sub .f32 1065353216 (fold2 roS (us xs) (us ys))) := rfl
        have HVR : Hid (roT (us xs) (us ys) = if fcmp .lss .f32 (roD (us xs) (us ys)) 0 then 0 else rootV (roD (us xs) (us ys))) := rfl
        generalize fold2 roS (us xs) (us ys) = v at *
        generalize roT (us xs) (us ys) = rv at *
        generalize roD (us xs) (us ys) = tv at *
        clear HF HS HS2
        rw [HVT.out] at HP HVR
        cases hb : fcmp .lss .f32 (fbin .sub .f32 1065353216 v) 0
        · have hFB := HP.out hb
          have hN : Hid (numV (rootV (fbin .sub .f32 1065353216 v)) = rv) := by unfold Hid numV; rw [if_pos hFB, HVR.out, hb]; rfl
          clear HP HVR
          go_wp2_with (first | (refine wpList_farith rfl _ _ _ _ _ rfl _ _ _ rfl rfl (by decide) (by assumption) (by assumption) ?_; intro _ _ _) | (refine wpList_fcmp rfl _ _ _ _ _ rfl _ _ _ rfl rfl (by decide) (by assumption) (by assumption) (by first | assumption | rfl) ?_) | (go_at_call 27; refine (RootNumber_any _ (fbin .sub .f32 1065353216 v) (by assumption) _).mono ?_; rintro e w' ⟨⟨r2, rfl, hr2⟩, n2, rfl⟩) | (go_at_call 62; refine (asNumber_any _ (rootV (fbin .sub .f32 1065353216 v)) (by assumption) _).mono ?_; rw [hFB]; rintro e w' ⟨⟨r3, rfl, hr3⟩, n3, rfl⟩))
          go_ret2
          exact ⟨⟨_, by rw [HB.out]; rfl, by rw [HV.out, ← hN.out]; assumption⟩, _, rfl⟩
        · have hN : Hid (rv = 0) := by unfold Hid; rw [HVR.out, hb]; rfl
          clear HP HVR
          go_wp2_with (first | (refine wpList_farith rfl _ _ _ _ _ rfl _ _ _ rfl rfl (by decide) (by assumption) (by assumption) ?_; intro _ _ _) | (refine wpList_fcmp rfl _ _ _ _ _ rfl _ _ _ rfl rfl (by decide) (by assumption) (by assumption) (by first | assumption | rfl) ?_))
          go_ret2
          exact ⟨⟨_, by rw [HB.out]; rfl, by rw [HV.out, hN.out]; exact h0⟩, _, rfl⟩
  · have ht : twoB (us xs) (us ys) = false := by cases h : twoB (us xs) (us ys) <;> simp_all
    have HV : Hid (roW (us xs) (us ys) = 0) := by unfold Hid roW; rw [if_neg (by rw [ht]; decide)]
    rw [ht] at HA HB
    clear hs hz hs2 hz2 ht
    go_enter Try.func42, Try.ntmps42
    go_wp2_with (fail)
    refine HA.out.mono ?_
    rintro e w' ⟨rfl, n, rfl⟩
    go_wp2_with (fail)
    go_ret2
    exact ⟨⟨_, by rw [HB.out]; rfl, by rw [HV.out]; exact h0⟩, _, rfl⟩
set_option maxHeartbeats 1600000 in
theorem sRootFar_any (p q : Option Addr) (c1 c2 : Nat) (xs ys : List Nat) (w : World) (hs : SL (.float .f32) 0 w p xs) (hz : ∀ z ∈ xs, z < 4294967296) (hs2 : SL (.float .f32) 0 w q ys) (hz2 : ∀ z ∈ ys, z < 4294967296) (hm : xs.length ≤ 1048576) (hm2 : ys.length ≤ 1048576) :
    Calls Try.prog 41 #[.slice p xs.length c1, .slice q ys.length c2] w fun e w' => (∃ r, e = .returned (.tuple #[.float .f32 r, .bool (farB (us xs) (us ys))]) ∧ Fl .f32 r (roW (us xs) (us ys))) ∧ Dr w w' := by
  have HA := hid (l02Two_any p q c1 c2 xs ys w hs hz hs2 hz2 hm hm2)
  have HB : Hid (farB (us xs) (us ys) = twoB (us xs) (us ys)) := rfl
  have h0 := fz32
  by_cases ht : twoB (us xs) (us ys) = true
  · have HV : Hid (roW (us xs) (us ys) = roT (us xs) (us ys)) := by unfold Hid roW; rw [if_pos ht]
    obtain ⟨t1, t2, t3⟩ := twoB_parts ht
    have hu1 := fun j hj => (row_up (us_lt hz) t1 (j := j) hj).2
    have hu2 := fun j hj => (row_up (us_lt hz2) t2 (j := j) hj).2
    have hv1 := fun j hj => (row_up (us_lt hz) t1 (j := j) hj).1
    have hv2 := fun j hj => (row_up (us_lt hz2) t2 (j := j) hj).1
    have hlen := (row_len t1).2
    have HP := hid (ro_plain (a := us xs) (b := us ys) t3 hlen (fun j hj => ⟨hv1 j hj, hu1 j hj⟩) (fun j hj => ⟨hv2 j hj, hu2 j hj⟩))
    rw [us_len, us_len] at t3
    rw [ht] at HA HB
    have HS := hid hs
    have HZ := hid hz
    have HS2 := hid hs2
    have HZ2 := hid hz2
    have HL := hid t3
    clear hs hz hs2 hz2 t1 t2 t3 ht hu1 hu2 hv1 hv2 hlen
    go_enter Try.func41, Try.ntmps41
    go_wp2_with (fail)
    refine HA.out.mono ?_
    rintro e w' ⟨rfl, n, rfl⟩
    go_wp2_with (fail)
    clear HA
    go_loopw [6, 7] (fun s i wr => ∃ k r : Nat, k ≤ xs.length ∧ i = .int .i64 k ∧ s = .float .f32 r ∧ Hid (Fl .f32 r (fold2 roS ((us xs).take k) ((us ys).take k))) ∧ ∃ n, wr = w.drewN n) (fun _ i _ => xs.length - (intOf i).toNat)
    case atStart => exact ⟨0, 0, Nat.zero_le _, rfl, rfl, h0, _, rfl⟩
    case round =>
      obtain ⟨k, r, hk, rfl, rfl, HF, n, rfl⟩ := hrel
      by_cases hlt : k < xs.length
      · obtain ⟨b, off, rfl, hc⟩ := HS.out k hlt
        have hlt2 : k < ys.length := by rw [← HL.out]; exact hlt
        obtain ⟨b2, off2, rfl, hc2⟩ := HS2.out k hlt2
        have hI : (k : Int) < (xs.length : Int) := by omega
        have hI2 : (k : Int) < (ys.length : Int) := by omega
        have f1 := us_fl HZ.out hlt
        have f3 := us_fl HZ2.out hlt2
        have HT := hid (fold2_succ roS (us xs) (us ys) k (by rw [us_len]; exact hlt) (by rw [us_len, us_len]; exact HL.out))
        have f2 : Fl .f32 r (fold2 roS ((us xs).take k) ((us ys).take k)) := HF.out
        generalize (us xs).getD k 0 = u at *
        generalize xs.getD k 0 = x at *
        generalize (us ys).getD k 0 = u2 at *
        generalize ys.getD k 0 = x2 at *
        generalize fold2 roS ((us xs).take k) ((us ys).take k) = v at *
        go_wp2_with (first | (refine wpList_farith rfl _ _ _ _ _ rfl _ _ _ rfl rfl (by decide) (by assumption) (by assumption) ?_; intro _ _ _) | (refine wpList_fcmp rfl _ _ _ _ _ rfl _ _ _ rfl rfl (by decide) (by assumption) (by assumption) (by first | assumption | rfl) ?_))
        refine wp_region_mixN (callG rootV) (by kernel_rfl) (by kernel_rfl) ?_
        simp only [List.map_cons, List.map_nil]
        repeat (refine mixS_step (fun K hK => ?_); first | (refine opS_farith rfl _ _ _ _ _ rfl _ _ _ rfl rfl (by decide) (by assumption) (by assumption) ?_; intro _ _; refine hK _ ?_; clear hK K) | (go_simp; refine hK _ ?_; clear hK K) | (refine opS_callf (f := 53) (u := fbin .mul .f32 u u2) rfl ?_ (by assumption) (fun w' => l01Sqrt_any _ _ (by assumption) w') ?_; (focus intro w'; go_simp; done); intro _ _; refine hK _ ?_; clear hK K))
        refine mixS_nil ?_
        rintro w' ⟨m, rfl⟩
        go_wp2_with (first | (refine wpList_farith rfl _ _ _ _ _ rfl _ _ _ rfl rfl (by decide) (by assumption) (by assumption) ?_; intro _ _ _) | (refine wpList_fcmp rfl _ _ _ _ _ rfl _ _ _ rfl rfl (by decide) (by assumption) (by assumption) (by first | assumption | rfl) ?_))
        go_roundw
        case rel => exact ⟨k + 1, _, by omega, by go_num, rfl, by unfold Hid; rw [HT.out]; assumption, _, rfl⟩
        case measure => simp [intOf]; omega
      · have HK := hid (show k = xs.length by omega)
        have f2 : Fl .f32 r (fold2 roS (us xs) (us ys)) := by
          have h := HF.out
          rw [HK.out, ← us_len xs, List.take_length, us_len, HL.out, ← us_len ys, List.take_length] at h
          exact h
        have f4 : Fl .f32 1065353216 1065353216 := fone32
        have HVT : Hid (roD (us xs) (us ys) = fbin .sub .f32 1065353216 (fold2 roS (us xs) (us ys))) := rfl
        have HVR : Hid (roT (us xs) (us ys) = if fcmp .lss .f32 (roD (us xs) (us ys)) 0 then 0 else rootV (roD (us xs) (us ys))) := rfl
        generalize fold2 roS (us xs) (us ys) = v at *
        generalize roT (us xs) (us ys) = rv at *
        generalize roD (us xs) (us ys) = tv at *
        clear HF HS HS2
        rw [HVT.out] at HP HVR
        cases hb : fcmp .lss .f32 (fbin .sub .f32 1065353216 v) 0
        · have hN : Hid (rootV (fbin .sub .f32 1065353216 v) = rv) := by unfold Hid; rw [HVR.out, hb]; rfl
          clear HP HVR
          go_wp2_with (first | (refine wpList_farith rfl _ _ _ _ _ rfl _ _ _ rfl rfl (by decide) (by assumption) (by assumption) ?_; intro _ _ _) | (refine wpList_fcmp rfl _ _ _ _ _ rfl _ _ _ rfl rfl (by decide) (by assumption) (by assumption) (by first | assumption | rfl) ?_) | (go_at_call 53; refine (l01Sqrt_any _ (fbin .sub .f32 1065353216 v) (by assumption) _).mono ?_; rintro e w' ⟨⟨r2, rfl, hr2⟩, n2, rfl⟩))
          go_ret2
          exact ⟨⟨_, by rw [HB.out]; rfl, by rw [HV.out, ← hN.out]; assumption⟩, _, rfl⟩
        · have hN : Hid (rootV 0 = rv) := by unfold Hid; rw [HVR.out, hb, root_zero.1]; rfl
          clear HP HVR
          go_wp2_with (first | (refine wpList_farith rfl _ _ _ _ _ rfl _ _ _ rfl rfl (by decide) (by assumption) (by assumption) ?_; intro _ _ _) | (refine wpList_fcmp rfl _ _ _ _ _ rfl _ _ _ rfl rfl (by decide) (by assumption) (by assumption) (by first | assumption | rfl) ?_) | (go_at_call 53; refine (l01Sqrt_any _ 0 h0 _).mono ?_; rintro e w' ⟨⟨r2, rfl, hr2⟩, n2, rfl⟩))
          go_ret2
          exact ⟨⟨_, by rw [HB.out]; rfl, by rw [HV.out, ← hN.out]; assumption⟩, _, rfl⟩
  · have ht : twoB (us xs) (us ys) = false := by cases h : twoB (us xs) (us ys) <;> simp_all
    have HV : Hid (roW (us xs) (us ys) = 0) := by unfold Hid roW; rw [if_neg (by rw [ht]; decide)]
    rw [ht] at HA HB
    clear hs hz hs2 hz2 ht
    go_enter Try.func41, Try.ntmps41
    go_wp2_with (fail)
    refine HA.out.mono ?_
    rintro e w' ⟨rfl, n, rfl⟩
    go_wp2_with (fail)
    go_ret2
    exact ⟨⟨_, by rw [HB.out]; rfl, by rw [HV.out]; exact h0⟩, _, rfl⟩
set_option maxHeartbeats 800000 in
theorem FnExactFarOfRows_walk (a0 : Option Addr) (len0 cap0 : Nat) (z0 : List Nat) (a1 : Option Addr) (len1 cap1 : Nat) (z1 : List Nat) (w : World) (w0 : z0.length = len0 ∧ len0 ≤ maxLen ∧ SL (.float .f32) 0 w a0 z0 ∧ ∀ z ∈ z0, z < 4294967296) (w1 : z1.length = len1 ∧ len1 ≤ maxLen ∧ SL (.float .f32) 0 w a1 z1 ∧ ∀ z ∈ z1, z < 4294967296) :
    Calls Try.prog 9 #[.slice a0 len0 cap0, .slice a1 len1 cap1] w fun e w' => e = .returned (.bool true) ∧ Below w.heap.size w w' := by
  obtain ⟨rfl, hm, hs, hz⟩ := w0
  obtain ⟨rfl, hm1, hs1, hz1⟩ := w1
  unfold maxLen at hm hm1
  have HS := hid hs
  have HZ := hid hz
  have HT := hid hs1
  have HY := hid hz1
  clear hs hz hs1 hz1
  by_cases hbig : z0.length ≤ 1048576
  · by_cases hbig1 : z1.length ≤ 1048576
    · generalize hv : farW (us z0) (us z1) = v
      generalize hb : farB (us z0) (us z1) = b
      have HV := hid hv
      have HB := hid hb
      clear hv hb
      go_enter Try.func9, Try.ntmps9
      go_wp2_with (fail)
      refine (toFloat32S_any _ _ _ _ HS.out hbig).mono ?_
      rintro e w1 ⟨⟨g1, rfl, hg1, ho1⟩, hb1⟩
      have S1 := hid (SL.own (d := 0) ho1)
      have A1 := hid (HS.out.below_all hb1)
      have E1 := hid (HT.out.below_all hb1)
      have B1 := hid hb1
      clear ho1 hb1 hg1
      go_wp2_with (fail)
      refine (toFloat32S_any _ _ _ _ E1.out hbig1).mono ?_
      rintro e w2 ⟨⟨g2, rfl, hg2, ho2⟩, hb2⟩
      have S2 := hid (SL.own (d := 0) ho2)
      have S1b := hid (S1.out.below_all hb2)
      have A2 := hid (A1.out.below_all hb2)
      have E2 := hid (E1.out.below_all hb2)
      have B2 : Hid (Below w.heap.size w w2) := B1.out.trans (hb2.mono B1.out.size)
      clear ho2 hb2 hg2
      go_wp2_with (fail)
      refine (sFarOfRows_any _ _ _ _ _ _ _ S1b.out HZ.out S2.out HY.out hbig hbig1).mono ?_
      rw [HV.out, HB.out]
      rintro e w' ⟨⟨r1, rfl, f1⟩, n1, rfl⟩
      go_wp2_with (fail)
      refine (toFloat32S_any _ _ _ _ (A2.out.drewN _) hbig).mono ?_
      rintro e w3 ⟨⟨g3, rfl, hg3, ho3⟩, hb3⟩
      have S3 := hid (SL.own (d := 0) ho3)
      have A3 := hid ((A2.out.drewN _).below_all hb3)
      have E3 := hid ((E2.out.drewN _).below_all hb3)
      have B3 : Hid (Below w.heap.size w w3) := (below_drewN B2.out _).trans (hb3.mono B2.out.size)
      clear ho3 hb3 hg3
      go_wp2_with (fail)
      refine (toFloat32S_any _ _ _ _ E3.out hbig1).mono ?_
      rintro e w4 ⟨⟨g4, rfl, hg4, ho4⟩, hb4⟩
      have S4 := hid (SL.own (d := 0) ho4)
      have S3b := hid (S3.out.below_all hb4)
      have A4 := hid (A3.out.below_all hb4)
      have E4 := hid (E3.out.below_all hb4)
      have B4 : Hid (Below w.heap.size w w4) := B3.out.trans (hb4.mono B3.out.size)
      clear ho4 hb4 hg4
      go_wp2_with (fail)
      refine (FarOfRows_any _ _ _ _ _ _ _ S3b.out HZ.out S4.out HY.out hbig hbig1).mono ?_
      rw [HV.out, HB.out]
      rintro e w' ⟨⟨r2, rfl, f2⟩, n2, rfl⟩
      go_wp2_with (first | (refine wpList_fwide rfl _ _ _ rfl _ rfl (Option.isSome_iff_exists.2 ⟨_, (by with_reducible exact Try.underlying23)⟩) (by with_reducible exact Try.underlying28) (by assumption) ?_; intro _ _ _))
      refine (sameFloat_true _ _ _ (by assumption) (by assumption) _).mono ?_
      rintro e w' ⟨rfl, n3, rfl⟩
      go_wp2_with (fail)
      refine (toFloat32S_any _ _ _ _ (A4.out.drewN _) hbig).mono ?_
      rintro e w5 ⟨⟨g5, rfl, hg5, ho5⟩, hb5⟩
      have S5 := hid (SL.own (d := 0) ho5)
      have S3c := hid ((S3b.out.drewN _).below_all hb5)
      have S4c := hid ((S4.out.drewN _).below_all hb5)
      have E5 := hid ((E4.out.drewN _).below_all hb5)
      have B5 : Hid (Below w.heap.size w w5) := (below_drewN B4.out _).trans (hb5.mono B4.out.size)
      clear ho5 hb5 hg5
      go_wp2_with (fail)
      refine (eqFloat32S_same _ _ _ _ _ _ _ S3c.out S5.out HZ.out HZ.out rfl (by omega) _ rfl).mono ?_
      rintro e w' ⟨rfl, n4, rfl⟩
      go_wp2_with (fail)
      refine (toFloat32S_any _ _ _ _ (E5.out.drewN _) hbig1).mono ?_
      rintro e w6 ⟨⟨g6, rfl, hg6, ho6⟩, hb6⟩
      have S6 := hid (SL.own (d := 0) ho6)
      have S4d := hid ((S4c.out.drewN _).below_all hb6)
      have B6 : Hid (Below w.heap.size w w6) := (below_drewN B5.out _).trans (hb6.mono B5.out.size)
      clear ho6 hb6 hg6
      go_wp2_with (fail)
      refine (eqFloat32S_same _ _ _ _ _ _ _ S4d.out S6.out HY.out HY.out rfl (by omega) _ rfl).mono ?_
      rintro e w' ⟨rfl, n5, rfl⟩
      go_wp2_with (fail)
      go_ret
      exact ⟨rfl, below_drewN B6.out _⟩
    · go_enter Try.func9, Try.ntmps9
      go_wp2_with (fail)
      go_ret
      exact ⟨rfl, Below.refl _ _⟩
  · go_enter Try.func9, Try.ntmps9
    go_wp2_with (fail)
    go_ret
    exact ⟨rfl, Below.refl _ _⟩

set_option maxHeartbeats 800000 in
theorem FnExactRootFar_walk (a0 : Option Addr) (len0 cap0 : Nat) (z0 : List Nat) (a1 : Option Addr) (len1 cap1 : Nat) (z1 : List Nat) (w : World) (w0 : z0.length = len0 ∧ len0 ≤ maxLen ∧ SL (.float .f32) 0 w a0 z0 ∧ ∀ z ∈ z0, z < 4294967296) (w1 : z1.length = len1 ∧ len1 ≤ maxLen ∧ SL (.float .f32) 0 w a1 z1 ∧ ∀ z ∈ z1, z < 4294967296) :
    Calls Try.prog 14 #[.slice a0 len0 cap0, .slice a1 len1 cap1] w fun e w' => e = .returned (.bool true) ∧ Below w.heap.size w w' := by
  obtain ⟨rfl, hm, hs, hz⟩ := w0
  obtain ⟨rfl, hm1, hs1, hz1⟩ := w1
  unfold maxLen at hm hm1
  have HS := hid hs
  have HZ := hid hz
  have HT := hid hs1
  have HY := hid hz1
  clear hs hz hs1 hz1
  by_cases hbig : z0.length ≤ 1048576
  · by_cases hbig1 : z1.length ≤ 1048576
    · generalize hv : roW (us z0) (us z1) = v
      generalize hb : farB (us z0) (us z1) = b
      have HV := hid hv
      have HB := hid hb
      clear hv hb
      go_enter Try.func14, Try.ntmps14
      go_wp2_with (fail)
      refine (toFloat32S_any _ _ _ _ HS.out hbig).mono ?_
      rintro e w1 ⟨⟨g1, rfl, hg1, ho1⟩, hb1⟩
      have S1 := hid (SL.own (d := 0) ho1)
      have A1 := hid (HS.out.below_all hb1)
      have E1 := hid (HT.out.below_all hb1)
      have B1 := hid hb1
      clear ho1 hb1 hg1
      go_wp2_with (fail)
      refine (toFloat32S_any _ _ _ _ E1.out hbig1).mono ?_
      rintro e w2 ⟨⟨g2, rfl, hg2, ho2⟩, hb2⟩
      have S2 := hid (SL.own (d := 0) ho2)
      have S1b := hid (S1.out.below_all hb2)
      have A2 := hid (A1.out.below_all hb2)
      have E2 := hid (E1.out.below_all hb2)
      have B2 : Hid (Below w.heap.size w w2) := B1.out.trans (hb2.mono B1.out.size)
      clear ho2 hb2 hg2
      go_wp2_with (fail)
      refine (sRootFar_any _ _ _ _ _ _ _ S1b.out HZ.out S2.out HY.out hbig hbig1).mono ?_
      rw [HV.out, HB.out]
      rintro e w' ⟨⟨r1, rfl, f1⟩, n1, rfl⟩
      go_wp2_with (fail)
      refine (toFloat32S_any _ _ _ _ (A2.out.drewN _) hbig).mono ?_
      rintro e w3 ⟨⟨g3, rfl, hg3, ho3⟩, hb3⟩
      have S3 := hid (SL.own (d := 0) ho3)
      have A3 := hid ((A2.out.drewN _).below_all hb3)
      have E3 := hid ((E2.out.drewN _).below_all hb3)
      have B3 : Hid (Below w.heap.size w w3) := (below_drewN B2.out _).trans (hb3.mono B2.out.size)
      clear ho3 hb3 hg3
      go_wp2_with (fail)
      refine (toFloat32S_any _ _ _ _ E3.out hbig1).mono ?_
      rintro e w4 ⟨⟨g4, rfl, hg4, ho4⟩, hb4⟩
      have S4 := hid (SL.own (d := 0) ho4)
      have S3b := hid (S3.out.below_all hb4)
      have A4 := hid (A3.out.below_all hb4)
      have E4 := hid (E3.out.below_all hb4)
      have B4 : Hid (Below w.heap.size w w4) := B3.out.trans (hb4.mono B3.out.size)
      clear ho4 hb4 hg4
      go_wp2_with (fail)
      refine (RootFar_any _ _ _ _ _ _ _ S3b.out HZ.out S4.out HY.out hbig hbig1).mono ?_
      rw [HV.out, HB.out]
      rintro e w' ⟨⟨r2, rfl, f2⟩, n2, rfl⟩
      go_wp2_with (first | (refine wpList_fwide rfl _ _ _ rfl _ rfl (Option.isSome_iff_exists.2 ⟨_, (by with_reducible exact Try.underlying23)⟩) (by with_reducible exact Try.underlying28) (by assumption) ?_; intro _ _ _))
      refine (sameFloat_true _ _ _ (by assumption) (by assumption) _).mono ?_
      rintro e w' ⟨rfl, n3, rfl⟩
      go_wp2_with (fail)
      refine (toFloat32S_any _ _ _ _ (A4.out.drewN _) hbig).mono ?_
      rintro e w5 ⟨⟨g5, rfl, hg5, ho5⟩, hb5⟩
      have S5 := hid (SL.own (d := 0) ho5)
      have S3c := hid ((S3b.out.drewN _).below_all hb5)
      have S4c := hid ((S4.out.drewN _).below_all hb5)
      have E5 := hid ((E4.out.drewN _).below_all hb5)
      have B5 : Hid (Below w.heap.size w w5) := (below_drewN B4.out _).trans (hb5.mono B4.out.size)
      clear ho5 hb5 hg5
      go_wp2_with (fail)
      refine (eqFloat32S_same _ _ _ _ _ _ _ S3c.out S5.out HZ.out HZ.out rfl (by omega) _ rfl).mono ?_
      rintro e w' ⟨rfl, n4, rfl⟩
      go_wp2_with (fail)
      refine (toFloat32S_any _ _ _ _ (E5.out.drewN _) hbig1).mono ?_
      rintro e w6 ⟨⟨g6, rfl, hg6, ho6⟩, hb6⟩
      have S6 := hid (SL.own (d := 0) ho6)
      have S4d := hid ((S4c.out.drewN _).below_all hb6)
      have B6 : Hid (Below w.heap.size w w6) := (below_drewN B5.out _).trans (hb6.mono B5.out.size)
      clear ho6 hb6 hg6
      go_wp2_with (fail)
      refine (eqFloat32S_same _ _ _ _ _ _ _ S4d.out S6.out HY.out HY.out rfl (by omega) _ rfl).mono ?_
      rintro e w' ⟨rfl, n5, rfl⟩
      go_wp2_with (fail)
      go_ret
      exact ⟨rfl, below_drewN B6.out _⟩
    · go_enter Try.func14, Try.ntmps14
      go_wp2_with (fail)
      go_ret
      exact ⟨rfl, Below.refl _ _⟩
  · go_enter Try.func14, Try.ntmps14
    go_wp2_with (fail)
    go_ret
    exact ⟨rfl, Below.refl _ _⟩

end Go.Proofs.Ythlocjkmbmniaaa
