/-
  SMOOTHED ROWS. Printed by wip/tools/gen_own.py d. Own work; no condition beyond what each theorem names.
-/
import Derived.Test.YtkmodgkkldcpkaaOc
namespace Go.Proofs.Ytkmodgkkldcpkaa
open Go.RowKit
attribute [local go_sem] run_store_float opS fineS givesS


/-! ### Smoothed rows -/
def smA (zs : List Int) (u : Nat) : Nat := fbin .add .f32 (floatOfInt .f32 (tot zs)) (fbin .mul .f32 u (floatOfInt .f32 zs.length))
def smE (zs : List Int) (u : Nat) (j : Nat) : Nat := fbin .quo .f32 (fbin .add .f32 (floatOfInt .f32 (zs.getD j 0)) u) (smA zs u)
def smL (zs : List Int) (u : Nat) : List Nat := RL (smE zs u) zs.length
def smC (zs : List Int) (u : Nat) : Bool := (cntB zs && goodU u) && fcmp .gtr .f32 (smA zs u) 0
def smB (zs : List Int) (u : Nat) : Bool := smC zs u && isRowB (smL zs u)
theorem smB_len (zs : List Int) (u : Nat) : smB zs u = true → (smL zs u).length ≤ 1048576 := fun h => Nat.le_trans (row_len (Bool.and_eq_true_iff.1 h).2).2 (by decide)

/-- What is divided by an infinity is zero or no number. -/
theorem quo_inf (x : Nat) : isN .f32 (fbin .quo .f32 x 2139095040) = true ∨ (Fin .f32 (fbin .quo .f32 x 2139095040) ∧ rung .f32 (fbin .quo .f32 x 2139095040) = 0) := by
  cases hn : isN .f32 x
  · have hl := notN hn
    have hi : FloatKind.f32.format.read 2139095040 = .infinity false := by decide
    rcases Nat.lt_or_eq_of_le hl with h | h
    · have e : fbin .quo .f32 x 2139095040 = FloatKind.f32.format.nearest (sgn .f32 x ^^ false) 0 0 := by
        unfold fbin floatBits Ieee.Format.div
        simp only [read_fin h, hi, Ieee.Datum.quotient, Option.map_some, Option.getD_some]; rfl
      rw [e, nearest_rg, rg_zero]
      exact Or.inr ⟨⟨FloatKind.f32.format.word_lt _ (by decide), by rw [rung_word .f32 _ (by decide)]; decide⟩, rung_word .f32 _ (by decide)⟩
    · have e : fbin .quo .f32 x 2139095040 = nanW .f32 := by
        unfold fbin floatBits Ieee.Format.div
        simp only [read_inf h, hi, Ieee.Datum.quotient]; rfl
      rw [e]; exact Or.inl (isN_nanW .f32)
  · rw [fbin_nan_left hn]; exact Or.inl (isN_nanW .f32)
theorem zeros_sum {l : List Nat} (h : ∀ j, j < l.length → Fin .f32 (l.getD j 0) ∧ rung .f32 (l.getD j 0) = 0) : ∀ k, k ≤ l.length → sumF (l.take k) = 0
  | 0, _ => by rw [List.take_zero]; rfl
  | k + 1, hk => by
    rw [sumF_succ l k (by omega), zeros_sum h k (by omega)]
    obtain ⟨h1, h2⟩ := h k (by omega)
    exact add_zero_right (fin_lit (by decide) (by decide)) h1 h2 (by decide)
theorem RL_get (g : Nat → Nat) (k j : Nat) (hj : j < k) : (RL g k).getD j 0 = g j := by simp [RL, List.getD, hj]
/-- Quotients by an infinity are no row. -/
theorem inf_norow (g : Nat → Nat) (k : Nat) : isRowB (RL (fun j => fbin .quo .f32 (g j) 2139095040) k) = false := by
  have hC : rowC (RL (fun j => fbin .quo .f32 (g j) 2139095040) k) = false := by
    by_cases hb : ∃ j, j < k ∧ isN .f32 (fbin .quo .f32 (g j) 2139095040) = true
    · obtain ⟨j, hj, hn⟩ := hb
      refine rowC_bad (k := j) (by rw [RL_len]; exact hj) ?_
      rw [RL_get _ _ _ hj]
      unfold goodU
      rw [fcmp_nan_left (by decide) hn, Bool.and_false]
    · have hz : ∀ j, j < (RL (fun j => fbin .quo .f32 (g j) 2139095040) k).length → Fin .f32 ((RL (fun j => fbin .quo .f32 (g j) 2139095040) k).getD j 0) ∧ rung .f32 ((RL (fun j => fbin .quo .f32 (g j) 2139095040) k).getD j 0) = 0 := fun j hj => by
        rw [RL_len] at hj
        rw [RL_get _ _ _ hj]
        rcases quo_inf (g j) with h | h
        · exact absurd ⟨j, hj, h⟩ hb
        · exact h
      have hs := zeros_sum hz _ (Nat.le_refl _)
      rw [List.take_length] at hs
      unfold rowC
      rw [hs, show nearU 0 = false by decide, Bool.and_false]
  unfold isRowB
  rw [hC, Bool.and_false]
theorem above_kinds {a : Nat} (ha : a < 4294967296) (h : fcmp .gtr .f32 a 0 = true) : finB a = true ∨ a = 2139095040 := by
  cases hn : isN .f32 a
  · have hl := notN hn
    rcases Nat.lt_or_eq_of_le hl with h1 | h1
    · exact Or.inl (finB_fin ⟨ha, h1⟩)
    · refine Or.inr ?_
      rw [inf32, rung32] at h1
      have : a = 2139095040 ∨ a = 4286578688 := by omega
      rcases this with h2 | h2
      · exact h2
      · subst h2; exact absurd h (by decide)
  · rw [fcmp_nan_left (by decide) hn] at h; exact absurd h (by decide)
theorem smA_lt (zs : List Int) (u : Nat) : smA zs u < 4294967296 := fbin_lt .add .f32 _ _
/-- The reference's further test changes nothing. -/
theorem sm_inf (zs : List Int) (u : Nat) (h : smA zs u = 2139095040) : isRowB (smL zs u) = false := by
  have e : smL zs u = RL (fun j => fbin .quo .f32 (fbin .add .f32 (floatOfInt .f32 (zs.getD j 0)) u) 2139095040) zs.length := by unfold smL smE; rw [h]
  rw [e]
  exact inf_norow (fun j => fbin .add .f32 (floatOfInt .f32 (zs.getD j 0)) u) _
theorem l02Above_any (x u : Nat) (hx : Fl .f32 x u) (w : World) : Calls Try.prog 81 #[.float .f32 x] w fun e w' => e = .returned (.bool (finB u && fcmp .gtr .f32 u 0)) ∧ Dr w w' := by
  have h0 := fz32
  cases c1 : finB u <;> cases c2 : fcmp .gtr .f32 u 0
  all_goals
    go_enter Try.func81, Try.ntmps81
    go_wp2_with (first | (refine wpList_farith rfl _ _ _ _ _ rfl _ _ _ rfl rfl (by decide) (by assumption) (by assumption) ?_; intro _ _ _) | (refine wpList_fcmp rfl _ _ _ _ _ rfl _ _ _ rfl rfl (by decide) (by assumption) (by assumption) (by first | assumption | rfl) ?_) | (go_at_call 100; refine (l01Finite_any _ _ hx _).mono ?_; rw [c1]; rintro e w' ⟨rfl, n, rfl⟩))
    go_ret
    exact ⟨rfl, _, rfl⟩

set_option maxHeartbeats 3200000 in
theorem SmoothRow_any (p : Option Addr) (c1 : Nat) (zs : List Int) (x u : Nat) (w : World) (hs : SL (.int .i64) 0 w p zs) (hm : zs.length ≤ 1048576) (hx : Fl .f32 x u) :
    Calls Try.prog 43 #[.slice p zs.length c1, .float .f32 x] w (RowPost w w.heap.size (smB zs u) (smL zs u)) := by
  obtain ⟨i0, hi, hz0, hz1, hz2x⟩ := info_parts info_f32
  have h0 := fz32
  have HB0 : Hid (smB zs u = (((cntB zs && goodU u) && fcmp .gtr .f32 (smA zs u) 0) && isRowB (smL zs u))) := rfl
  have HGU : Hid (goodU u = (finB u && fcmp .geq .f32 u 0)) := rfl
  have HA := hid (countSum_any p c1 zs w hs hm)
  cases hc : cntB zs
  · have HB : Hid (smB zs u = false) := by unfold Hid; rw [HB0.out, hc]; rfl
    rw [hc] at HA
    clear hs hc HB0
    go_enter Try.func43, Try.ntmps43
    go_wp2_with (fail)
    refine HA.out.mono ?_
    rintro e w' ⟨rfl, n, rfl⟩
    try go_wp2_with (first | (refine wpList_fofint rfl _ _ _ rfl _ _ rfl (Option.isSome_iff_exists.2 ⟨_, (by with_reducible exact Try.underlying2)⟩) (by with_reducible exact Try.underlying58) ?_; intro _) | (refine wpList_fofint rfl _ _ _ rfl _ _ rfl (Option.isSome_iff_exists.2 ⟨_, (by with_reducible exact Try.underlying2)⟩) (by with_reducible exact Try.underlying32) ?_; intro _) | (refine wpList_fofint rfl _ _ _ rfl _ _ rfl (Option.isSome_iff_exists.2 ⟨_, (by with_reducible exact Try.underlying3)⟩) (by with_reducible exact Try.underlying58) ?_; intro _) | (refine wpList_fofint rfl _ _ _ rfl _ _ rfl (Option.isSome_iff_exists.2 ⟨_, (by with_reducible exact Try.underlying3)⟩) (by with_reducible exact Try.underlying32) ?_; intro _) | (refine wpList_farith rfl _ _ _ _ _ rfl _ _ _ rfl rfl (by decide) (by assumption) (by assumption) ?_; intro _ _ _) | (refine wpList_fcmp rfl _ _ _ _ _ rfl _ _ _ rfl rfl (by decide) (by assumption) (by assumption) (by first | assumption | rfl) ?_))
    go_ret2
    exact ⟨_, [], by rw [HB.out]; rfl, OF_nil _ _, by rw [HB.out]; rfl, below_drewN (Below.refl _ _) _⟩
  · obtain ⟨q1, q2, q3, q4, q5, q6⟩ := cnt_bd hc
    rw [hc] at HA
    rw [q1] at HA
    have HL32 := hid q5
    have HS := hid hs
    cases c1' : finB u
    · have HB : Hid (smB zs u = false) := by unfold Hid; rw [HB0.out, HGU.out, c1', Bool.false_and, Bool.and_false, Bool.false_and, Bool.false_and]
      clear hs hc HB0 HGU
      go_enter Try.func43, Try.ntmps43
      go_wp2_with (fail)
      refine HA.out.mono ?_
      rintro e w' ⟨rfl, n, rfl⟩
      go_wp2_with (first | (go_at_call 82; refine (IsFinite_any _ _ hx _).mono ?_; rw [c1']; rintro e w' ⟨rfl, n2, rfl⟩) | (refine wpList_fofint rfl _ _ _ rfl _ _ rfl (Option.isSome_iff_exists.2 ⟨_, (by with_reducible exact Try.underlying2)⟩) (by with_reducible exact Try.underlying58) ?_; intro _) | (refine wpList_fofint rfl _ _ _ rfl _ _ rfl (Option.isSome_iff_exists.2 ⟨_, (by with_reducible exact Try.underlying2)⟩) (by with_reducible exact Try.underlying32) ?_; intro _) | (refine wpList_fofint rfl _ _ _ rfl _ _ rfl (Option.isSome_iff_exists.2 ⟨_, (by with_reducible exact Try.underlying3)⟩) (by with_reducible exact Try.underlying58) ?_; intro _) | (refine wpList_fofint rfl _ _ _ rfl _ _ rfl (Option.isSome_iff_exists.2 ⟨_, (by with_reducible exact Try.underlying3)⟩) (by with_reducible exact Try.underlying32) ?_; intro _) | (refine wpList_farith rfl _ _ _ _ _ rfl _ _ _ rfl rfl (by decide) (by assumption) (by assumption) ?_; intro _ _ _) | (refine wpList_fcmp rfl _ _ _ _ _ rfl _ _ _ rfl rfl (by decide) (by assumption) (by assumption) (by first | assumption | rfl) ?_))
      try go_wp2_with (first | (refine wpList_fofint rfl _ _ _ rfl _ _ rfl (Option.isSome_iff_exists.2 ⟨_, (by with_reducible exact Try.underlying2)⟩) (by with_reducible exact Try.underlying58) ?_; intro _) | (refine wpList_fofint rfl _ _ _ rfl _ _ rfl (Option.isSome_iff_exists.2 ⟨_, (by with_reducible exact Try.underlying2)⟩) (by with_reducible exact Try.underlying32) ?_; intro _) | (refine wpList_fofint rfl _ _ _ rfl _ _ rfl (Option.isSome_iff_exists.2 ⟨_, (by with_reducible exact Try.underlying3)⟩) (by with_reducible exact Try.underlying58) ?_; intro _) | (refine wpList_fofint rfl _ _ _ rfl _ _ rfl (Option.isSome_iff_exists.2 ⟨_, (by with_reducible exact Try.underlying3)⟩) (by with_reducible exact Try.underlying32) ?_; intro _) | (refine wpList_farith rfl _ _ _ _ _ rfl _ _ _ rfl rfl (by decide) (by assumption) (by assumption) ?_; intro _ _ _) | (refine wpList_fcmp rfl _ _ _ _ _ rfl _ _ _ rfl rfl (by decide) (by assumption) (by assumption) (by first | assumption | rfl) ?_))
      go_ret2
      exact ⟨_, [], by rw [HB.out]; rfl, OF_nil _ _, by rw [HB.out]; rfl, below_drewN (Below.refl _ _) _⟩
    cases c2 : fcmp .geq .f32 u 0
    · have HB : Hid (smB zs u = false) := by unfold Hid; rw [HB0.out, HGU.out, c2, Bool.and_false, Bool.and_false, Bool.false_and, Bool.false_and]
      clear hs hc HB0 HGU
      go_enter Try.func43, Try.ntmps43
      go_wp2_with (fail)
      refine HA.out.mono ?_
      rintro e w' ⟨rfl, n, rfl⟩
      go_wp2_with (first | (go_at_call 82; refine (IsFinite_any _ _ hx _).mono ?_; rw [c1']; rintro e w' ⟨rfl, n2, rfl⟩) | (refine wpList_fofint rfl _ _ _ rfl _ _ rfl (Option.isSome_iff_exists.2 ⟨_, (by with_reducible exact Try.underlying2)⟩) (by with_reducible exact Try.underlying58) ?_; intro _) | (refine wpList_fofint rfl _ _ _ rfl _ _ rfl (Option.isSome_iff_exists.2 ⟨_, (by with_reducible exact Try.underlying2)⟩) (by with_reducible exact Try.underlying32) ?_; intro _) | (refine wpList_fofint rfl _ _ _ rfl _ _ rfl (Option.isSome_iff_exists.2 ⟨_, (by with_reducible exact Try.underlying3)⟩) (by with_reducible exact Try.underlying58) ?_; intro _) | (refine wpList_fofint rfl _ _ _ rfl _ _ rfl (Option.isSome_iff_exists.2 ⟨_, (by with_reducible exact Try.underlying3)⟩) (by with_reducible exact Try.underlying32) ?_; intro _) | (refine wpList_farith rfl _ _ _ _ _ rfl _ _ _ rfl rfl (by decide) (by assumption) (by assumption) ?_; intro _ _ _) | (refine wpList_fcmp rfl _ _ _ _ _ rfl _ _ _ rfl rfl (by decide) (by assumption) (by assumption) (by first | assumption | rfl) ?_))
      try go_wp2_with (first | (refine wpList_fofint rfl _ _ _ rfl _ _ rfl (Option.isSome_iff_exists.2 ⟨_, (by with_reducible exact Try.underlying2)⟩) (by with_reducible exact Try.underlying58) ?_; intro _) | (refine wpList_fofint rfl _ _ _ rfl _ _ rfl (Option.isSome_iff_exists.2 ⟨_, (by with_reducible exact Try.underlying2)⟩) (by with_reducible exact Try.underlying32) ?_; intro _) | (refine wpList_fofint rfl _ _ _ rfl _ _ rfl (Option.isSome_iff_exists.2 ⟨_, (by with_reducible exact Try.underlying3)⟩) (by with_reducible exact Try.underlying58) ?_; intro _) | (refine wpList_fofint rfl _ _ _ rfl _ _ rfl (Option.isSome_iff_exists.2 ⟨_, (by with_reducible exact Try.underlying3)⟩) (by with_reducible exact Try.underlying32) ?_; intro _) | (refine wpList_farith rfl _ _ _ _ _ rfl _ _ _ rfl rfl (by decide) (by assumption) (by assumption) ?_; intro _ _ _) | (refine wpList_fcmp rfl _ _ _ _ _ rfl _ _ _ rfl rfl (by decide) (by assumption) (by assumption) (by first | assumption | rfl) ?_))
      go_ret2
      exact ⟨_, [], by rw [HB.out]; rfl, OF_nil _ _, by rw [HB.out]; rfl, below_drewN (Below.refl _ _) _⟩
    have hgu : goodU u = true := by rw [HGU.out, c1', c2]; rfl
    have HSA : Hid (smA zs u = fbin .add .f32 (floatOfInt .f32 (tot zs)) (fbin .mul .f32 u (floatOfInt .f32 zs.length))) := rfl
    have HEV : Hid (∀ k, smE zs u k = fbin .quo .f32 (fbin .add .f32 (floatOfInt .f32 (zs.getD k 0)) u) (smA zs u)) := fun _ => rfl
    have hak := above_kinds (smA_lt zs u)
    have hin := sm_inf zs u
    obtain ⟨base, hbase⟩ : ∃ base, w.heap.size = base := ⟨_, rfl⟩
    obtain ⟨av, hav⟩ : ∃ av, smA zs u = av := ⟨_, rfl⟩
    rw [hav] at HSA HEV hak hin HB0
    rw [HSA.out] at hak hin HEV HB0
    have hT : tot zs = tot zs := rfl
    generalize tot zs = T at *
    clear hav hT HSA
    cases c3 : fcmp .gtr .f32 (fbin .add .f32 (floatOfInt .f32 T) (fbin .mul .f32 u (floatOfInt .f32 zs.length))) 0
    · have HB : Hid (smB zs u = false) := by unfold Hid; rw [HB0.out, c3, Bool.and_false, Bool.false_and]
      clear hs hc HB0 HGU hak hin q1
      go_enter Try.func43, Try.ntmps43
      go_wp2_with (fail)
      refine HA.out.mono ?_
      rintro e w' ⟨rfl, n, rfl⟩
      go_wp2_with (first | (go_at_call 82; refine (IsFinite_any _ _ hx _).mono ?_; rw [c1']; rintro e w' ⟨rfl, n2, rfl⟩) | (refine wpList_fofint rfl _ _ _ rfl _ _ rfl (Option.isSome_iff_exists.2 ⟨_, (by with_reducible exact Try.underlying2)⟩) (by with_reducible exact Try.underlying58) ?_; intro _) | (refine wpList_fofint rfl _ _ _ rfl _ _ rfl (Option.isSome_iff_exists.2 ⟨_, (by with_reducible exact Try.underlying2)⟩) (by with_reducible exact Try.underlying32) ?_; intro _) | (refine wpList_fofint rfl _ _ _ rfl _ _ rfl (Option.isSome_iff_exists.2 ⟨_, (by with_reducible exact Try.underlying3)⟩) (by with_reducible exact Try.underlying58) ?_; intro _) | (refine wpList_fofint rfl _ _ _ rfl _ _ rfl (Option.isSome_iff_exists.2 ⟨_, (by with_reducible exact Try.underlying3)⟩) (by with_reducible exact Try.underlying32) ?_; intro _) | (refine wpList_farith rfl _ _ _ _ _ rfl _ _ _ rfl rfl (by decide) (by assumption) (by assumption) ?_; intro _ _ _) | (refine wpList_fcmp rfl _ _ _ _ _ rfl _ _ _ rfl rfl (by decide) (by assumption) (by assumption) (by first | assumption | rfl) ?_))
      try go_wp2_with (first | (refine wpList_fofint rfl _ _ _ rfl _ _ rfl (Option.isSome_iff_exists.2 ⟨_, (by with_reducible exact Try.underlying2)⟩) (by with_reducible exact Try.underlying58) ?_; intro _) | (refine wpList_fofint rfl _ _ _ rfl _ _ rfl (Option.isSome_iff_exists.2 ⟨_, (by with_reducible exact Try.underlying2)⟩) (by with_reducible exact Try.underlying32) ?_; intro _) | (refine wpList_fofint rfl _ _ _ rfl _ _ rfl (Option.isSome_iff_exists.2 ⟨_, (by with_reducible exact Try.underlying3)⟩) (by with_reducible exact Try.underlying58) ?_; intro _) | (refine wpList_fofint rfl _ _ _ rfl _ _ rfl (Option.isSome_iff_exists.2 ⟨_, (by with_reducible exact Try.underlying3)⟩) (by with_reducible exact Try.underlying32) ?_; intro _) | (refine wpList_farith rfl _ _ _ _ _ rfl _ _ _ rfl rfl (by decide) (by assumption) (by assumption) ?_; intro _ _ _) | (refine wpList_fcmp rfl _ _ _ _ _ rfl _ _ _ rfl rfl (by decide) (by assumption) (by assumption) (by first | assumption | rfl) ?_))
      go_ret2
      exact ⟨_, [], by rw [HB.out]; rfl, OF_nil _ _, by rw [HB.out]; rfl, below_drewN (Below.refl _ _) _⟩
    · have HB : Hid (smB zs u = isRowB (smL zs u)) := by unfold Hid; rw [HB0.out, c3, hgu, hc]; rfl
      clear hs hc HB0 HGU hak hin q1
      go_enter Try.func43, Try.ntmps43
      go_wp2_with (fail)
      refine HA.out.mono ?_
      rintro e w' ⟨rfl, n, rfl⟩
      go_wp2_with (first | (go_at_call 82; refine (IsFinite_any _ _ hx _).mono ?_; rw [c1']; rintro e w' ⟨rfl, n2, rfl⟩) | (refine wpList_fofint rfl _ _ _ rfl _ _ rfl (Option.isSome_iff_exists.2 ⟨_, (by with_reducible exact Try.underlying2)⟩) (by with_reducible exact Try.underlying58) ?_; intro _) | (refine wpList_fofint rfl _ _ _ rfl _ _ rfl (Option.isSome_iff_exists.2 ⟨_, (by with_reducible exact Try.underlying2)⟩) (by with_reducible exact Try.underlying32) ?_; intro _) | (refine wpList_fofint rfl _ _ _ rfl _ _ rfl (Option.isSome_iff_exists.2 ⟨_, (by with_reducible exact Try.underlying3)⟩) (by with_reducible exact Try.underlying58) ?_; intro _) | (refine wpList_fofint rfl _ _ _ rfl _ _ rfl (Option.isSome_iff_exists.2 ⟨_, (by with_reducible exact Try.underlying3)⟩) (by with_reducible exact Try.underlying32) ?_; intro _) | (refine wpList_farith rfl _ _ _ _ _ rfl _ _ _ rfl rfl (by decide) (by assumption) (by assumption) ?_; intro _ _ _) | (refine wpList_fcmp rfl _ _ _ _ _ rfl _ _ _ rfl rfl (by decide) (by assumption) (by assumption) (by first | assumption | rfl) ?_))
      try go_wp2_with (first | (refine wpList_fofint rfl _ _ _ rfl _ _ rfl (Option.isSome_iff_exists.2 ⟨_, (by with_reducible exact Try.underlying2)⟩) (by with_reducible exact Try.underlying58) ?_; intro _) | (refine wpList_fofint rfl _ _ _ rfl _ _ rfl (Option.isSome_iff_exists.2 ⟨_, (by with_reducible exact Try.underlying2)⟩) (by with_reducible exact Try.underlying32) ?_; intro _) | (refine wpList_fofint rfl _ _ _ rfl _ _ rfl (Option.isSome_iff_exists.2 ⟨_, (by with_reducible exact Try.underlying3)⟩) (by with_reducible exact Try.underlying58) ?_; intro _) | (refine wpList_fofint rfl _ _ _ rfl _ _ rfl (Option.isSome_iff_exists.2 ⟨_, (by with_reducible exact Try.underlying3)⟩) (by with_reducible exact Try.underlying32) ?_; intro _) | (refine wpList_farith rfl _ _ _ _ _ rfl _ _ _ rfl rfl (by decide) (by assumption) (by assumption) ?_; intro _ _ _) | (refine wpList_fcmp rfl _ _ _ _ _ rfl _ _ _ rfl rfl (by decide) (by assumption) (by assumption) (by first | assumption | rfl) ?_))
      go_loopw [9, 43] (fun o i wr => ∃ (k : Nat) (rs : List Nat), k ≤ zs.length ∧ i = .int .i64 k ∧ Hid (OF wr base o rs) ∧ Hid (us rs = RL (smE zs u) k) ∧ Hid (Below base w wr)) (fun _ i _ => zs.length - (intOf i).toNat)
      case atStart => exact ⟨0, [], Nat.zero_le _, rfl, by unfold Hid; exact OF_made' hbase, rfl, by unfold Hid; exact (below_drewN (Below.refl base w) _).alloc (Nat.le_of_eq hbase.symm) _⟩
      case round =>
        obtain ⟨k, rs, hk, rfl, HO1, HU1, HB1⟩ := hrel
        by_cases hlt : k < zs.length
        · obtain ⟨b, off, rfl, hc⟩ := HS.out k hlt
          have hbl := World.block_lt_of_cell? w _ hc
          have hc1 : wr.cell? ⟨b, off + k, none⟩ = some (.int .i64 (zs.getD k 0)) := by rw [HB1.out.cell (p := ⟨b, off + k, none⟩) (by omega)]; exact hc
          have hI : (k : Int) < (zs.length : Int) := by omega
          have hrl : rs.length ≤ 32 := by have := us_len_of HU1.out; rw [RL_len] at this; have := HL32.out; omega
          have HE := hid (HEV.out k)
          have HSU := hid (fun r (hr : Fl .f32 r ((smE zs u) k)) => RL_succ HU1.out hr)
          have hws : base ≤ wr.heap.size := by have := HB1.out.size; omega
          rw [HE.out] at HSU
          clear hc hbl HE
          generalize zs.getD k 0 = z at *
          go_wp2_with (first | (at_builtin; refine Stop.out ?_) | (refine wpList_fofint rfl _ _ _ rfl _ _ rfl (Option.isSome_iff_exists.2 ⟨_, (by with_reducible exact Try.underlying2)⟩) (by with_reducible exact Try.underlying58) ?_; intro _) | (refine wpList_fofint rfl _ _ _ rfl _ _ rfl (Option.isSome_iff_exists.2 ⟨_, (by with_reducible exact Try.underlying2)⟩) (by with_reducible exact Try.underlying32) ?_; intro _) | (refine wpList_fofint rfl _ _ _ rfl _ _ rfl (Option.isSome_iff_exists.2 ⟨_, (by with_reducible exact Try.underlying3)⟩) (by with_reducible exact Try.underlying58) ?_; intro _) | (refine wpList_fofint rfl _ _ _ rfl _ _ rfl (Option.isSome_iff_exists.2 ⟨_, (by with_reducible exact Try.underlying3)⟩) (by with_reducible exact Try.underlying32) ?_; intro _) | (refine wpList_farith rfl _ _ _ _ _ rfl _ _ _ rfl rfl (by decide) (by assumption) (by assumption) ?_; intro _ _ _))
          refine ⟨?_⟩
          refine wpList_append_own _ rfl _ _ 22 rfl base 32 i0 (.float .f32 0) 1 4 Try.underlying22 hi hz0 hz1 hz2x rfl (by decide) _ _ _ rfl ((HO1.out.drewN _).1.alloc _) ⟨_, 0, none⟩ 1 1 [.float .f32 _] rfl rfl (cell_one_new _ _ _) ?c2 ?c3 ?c4 ?c5 ?_
          case c2 => intro u hu; simp at hu; subst hu; rfl
          case c3 => skip; unfold maxLen; omega
          case c4 => skip; omega
          case c5 => have := HB1.out.size; simp; omega
          intro v' w1 hown' hgrow _
          have HX := hid (HSU.out _ (by assumption))
          have HR := hid (OF_app (HO1.out) (Fl.lt (by assumption)) hown')
          have HG := hid (below_app (w2 := (wr.drewN _).alloc _) ((below_drewN HB1.out _).alloc hws _) ⟨(HO1.out.drewN _).1.alloc _, HO1.out.2⟩ (by simp; omega) hgrow)
          clear hown' hgrow HSU
          go_wp2
          go_roundw
          case rel => exact ⟨k + 1, _, by omega, by go_num, HR, HX, HG⟩
          case measure => simp [intOf]; omega
        · have HK := hid (show k = zs.length by omega)
          have HUU : Hid (us rs = smL zs u) := by have h := HU1.out; rw [HK.out] at h; exact h
          have hlen : rs.length ≤ 1048576 := by have := us_len_of HUU.out; rw [show (smL zs u).length = zs.length from RL_len _ _] at this; have := HL32.out; omega
          have HRR := hid (asRow_any base _ rs w wr HO1.out hlen HB1.out)
          rw [HUU.out] at HRR
          go_wp2_with (fail)
          refine HRR.out.mono ?_
          rintro e w2 ⟨v2, rs2, rfl, hO2, hU2, hB2⟩
          go_wp2_with (fail)
          go_ret2
          refine ⟨v2, rs2, by rw [HB.out]; rfl, ?_, by rw [HB.out]; exact hU2, ?_⟩
          · rw [hbase]; exact hO2
          · rw [hbase]; exact hB2
set_option maxHeartbeats 3200000 in
theorem sSmoothRow_any (p : Option Addr) (c1 : Nat) (zs : List Int) (x u : Nat) (w : World) (hs : SL (.int .i64) 0 w p zs) (hm : zs.length ≤ 1048576) (hx : Fl .f32 x u) :
    Calls Try.prog 42 #[.slice p zs.length c1, .float .f32 x] w (RowPost w w.heap.size (smB zs u) (smL zs u)) := by
  obtain ⟨i0, hi, hz0, hz1, hz2x⟩ := info_parts info_f32
  have h0 := fz32
  have HB0 : Hid (smB zs u = (((cntB zs && goodU u) && fcmp .gtr .f32 (smA zs u) 0) && isRowB (smL zs u))) := rfl
  have HGU : Hid (goodU u = (finB u && fcmp .geq .f32 u 0)) := rfl
  have HA := hid (l02Counts_any p c1 zs w hs hm)
  cases hc : cntB zs
  · have HB : Hid (smB zs u = false) := by unfold Hid; rw [HB0.out, hc]; rfl
    rw [hc] at HA
    clear hs hc HB0
    go_enter Try.func42, Try.ntmps42
    go_wp2_with (fail)
    refine HA.out.mono ?_
    rintro e w' ⟨rfl, n, rfl⟩
    try go_wp2_with (first | (refine wpList_fofint rfl _ _ _ rfl _ _ rfl (Option.isSome_iff_exists.2 ⟨_, (by with_reducible exact Try.underlying2)⟩) (by with_reducible exact Try.underlying58) ?_; intro _) | (refine wpList_fofint rfl _ _ _ rfl _ _ rfl (Option.isSome_iff_exists.2 ⟨_, (by with_reducible exact Try.underlying2)⟩) (by with_reducible exact Try.underlying32) ?_; intro _) | (refine wpList_fofint rfl _ _ _ rfl _ _ rfl (Option.isSome_iff_exists.2 ⟨_, (by with_reducible exact Try.underlying3)⟩) (by with_reducible exact Try.underlying58) ?_; intro _) | (refine wpList_fofint rfl _ _ _ rfl _ _ rfl (Option.isSome_iff_exists.2 ⟨_, (by with_reducible exact Try.underlying3)⟩) (by with_reducible exact Try.underlying32) ?_; intro _) | (refine wpList_farith rfl _ _ _ _ _ rfl _ _ _ rfl rfl (by decide) (by assumption) (by assumption) ?_; intro _ _ _) | (refine wpList_fcmp rfl _ _ _ _ _ rfl _ _ _ rfl rfl (by decide) (by assumption) (by assumption) (by first | assumption | rfl) ?_))
    go_ret2
    exact ⟨_, [], by rw [HB.out]; rfl, OF_nil _ _, by rw [HB.out]; rfl, below_drewN (Below.refl _ _) _⟩
  · obtain ⟨q1, q2, q3, q4, q5, q6⟩ := cnt_bd hc
    rw [hc] at HA
    have HT := hid (fun n => l02Total_any p c1 zs (w.drewN n) (hs.drewN n) hm (cnt_mem q6))
    have HL32 := hid q5
    have HS := hid hs
    cases c1' : goodU u
    · have HB : Hid (smB zs u = false) := by unfold Hid; rw [HB0.out, c1', Bool.and_false, Bool.false_and, Bool.false_and]
      clear hs hc HB0 HGU
      go_enter Try.func42, Try.ntmps42
      go_wp2_with (fail)
      refine HA.out.mono ?_
      rintro e w' ⟨rfl, n, rfl⟩
      go_wp2_with (fail)
      refine (l02Least_any _ _ hx _).mono ?_
      rw [c1']
      rintro e w' ⟨rfl, n2, rfl⟩
      try go_wp2_with (first | (refine wpList_fofint rfl _ _ _ rfl _ _ rfl (Option.isSome_iff_exists.2 ⟨_, (by with_reducible exact Try.underlying2)⟩) (by with_reducible exact Try.underlying58) ?_; intro _) | (refine wpList_fofint rfl _ _ _ rfl _ _ rfl (Option.isSome_iff_exists.2 ⟨_, (by with_reducible exact Try.underlying2)⟩) (by with_reducible exact Try.underlying32) ?_; intro _) | (refine wpList_fofint rfl _ _ _ rfl _ _ rfl (Option.isSome_iff_exists.2 ⟨_, (by with_reducible exact Try.underlying3)⟩) (by with_reducible exact Try.underlying58) ?_; intro _) | (refine wpList_fofint rfl _ _ _ rfl _ _ rfl (Option.isSome_iff_exists.2 ⟨_, (by with_reducible exact Try.underlying3)⟩) (by with_reducible exact Try.underlying32) ?_; intro _) | (refine wpList_farith rfl _ _ _ _ _ rfl _ _ _ rfl rfl (by decide) (by assumption) (by assumption) ?_; intro _ _ _) | (refine wpList_fcmp rfl _ _ _ _ _ rfl _ _ _ rfl rfl (by decide) (by assumption) (by assumption) (by first | assumption | rfl) ?_))
      go_ret2
      exact ⟨_, [], by rw [HB.out]; rfl, OF_nil _ _, by rw [HB.out]; rfl, below_drewN (Below.refl _ _) _⟩
    have hgu : goodU u = true := c1'
    have HSA : Hid (smA zs u = fbin .add .f32 (floatOfInt .f32 (tot zs)) (fbin .mul .f32 u (floatOfInt .f32 zs.length))) := rfl
    have HEV : Hid (∀ k, smE zs u k = fbin .quo .f32 (fbin .add .f32 (floatOfInt .f32 (zs.getD k 0)) u) (smA zs u)) := fun _ => rfl
    have hak := above_kinds (smA_lt zs u)
    have hin := sm_inf zs u
    obtain ⟨base, hbase⟩ : ∃ base, w.heap.size = base := ⟨_, rfl⟩
    obtain ⟨av, hav⟩ : ∃ av, smA zs u = av := ⟨_, rfl⟩
    rw [hav] at HSA HEV hak hin HB0
    rw [HSA.out] at hak hin HEV HB0
    have hT : tot zs = tot zs := rfl
    generalize tot zs = T at *
    clear hav hT HSA
    cases c3 : fcmp .gtr .f32 (fbin .add .f32 (floatOfInt .f32 T) (fbin .mul .f32 u (floatOfInt .f32 zs.length))) 0
    · have HB : Hid (smB zs u = false) := by unfold Hid; rw [HB0.out, c3, Bool.and_false, Bool.false_and]
      clear hs hc HB0 HGU hak hin 
      go_enter Try.func42, Try.ntmps42
      go_wp2_with (fail)
      refine HA.out.mono ?_
      rintro e w' ⟨rfl, n, rfl⟩
      go_wp2_with (fail)
      refine (l02Least_any _ _ hx _).mono ?_
      rw [c1']
      rintro e w' ⟨rfl, n2, rfl⟩
      go_wp2_with (fail)
      refine (HT.out _).mono ?_
      rintro e w' ⟨rfl, rfl⟩
      try go_wp2_with (first | (refine wpList_fofint rfl _ _ _ rfl _ _ rfl (Option.isSome_iff_exists.2 ⟨_, (by with_reducible exact Try.underlying2)⟩) (by with_reducible exact Try.underlying58) ?_; intro _) | (refine wpList_fofint rfl _ _ _ rfl _ _ rfl (Option.isSome_iff_exists.2 ⟨_, (by with_reducible exact Try.underlying2)⟩) (by with_reducible exact Try.underlying32) ?_; intro _) | (refine wpList_fofint rfl _ _ _ rfl _ _ rfl (Option.isSome_iff_exists.2 ⟨_, (by with_reducible exact Try.underlying3)⟩) (by with_reducible exact Try.underlying58) ?_; intro _) | (refine wpList_fofint rfl _ _ _ rfl _ _ rfl (Option.isSome_iff_exists.2 ⟨_, (by with_reducible exact Try.underlying3)⟩) (by with_reducible exact Try.underlying32) ?_; intro _) | (refine wpList_farith rfl _ _ _ _ _ rfl _ _ _ rfl rfl (by decide) (by assumption) (by assumption) ?_; intro _ _ _) | (refine wpList_fcmp rfl _ _ _ _ _ rfl _ _ _ rfl rfl (by decide) (by assumption) (by assumption) (by first | assumption | rfl) ?_) | (go_at_call 81; refine (l02Above_any _ _ (by assumption) _).mono ?_; rw [c3, Bool.and_false]; rintro e w' ⟨rfl, n3, rfl⟩))
      go_ret2
      exact ⟨_, [], by rw [HB.out]; rfl, OF_nil _ _, by rw [HB.out]; rfl, below_drewN (Below.refl _ _) _⟩
    cases c4 : finB (fbin .add .f32 (floatOfInt .f32 T) (fbin .mul .f32 u (floatOfInt .f32 zs.length)))
    · have HB : Hid (smB zs u = false) := by
        unfold Hid
        rcases hak c3 with h | h
        · rw [h] at c4; cases c4
        · rw [HB0.out, hin h, Bool.and_false]
      clear hs hc HB0 HGU hak hin
      go_enter Try.func42, Try.ntmps42
      go_wp2_with (fail)
      refine HA.out.mono ?_
      rintro e w' ⟨rfl, n, rfl⟩
      go_wp2_with (fail)
      refine (l02Least_any _ _ hx _).mono ?_
      rw [c1']
      rintro e w' ⟨rfl, n2, rfl⟩
      go_wp2_with (fail)
      refine (HT.out _).mono ?_
      rintro e w' ⟨rfl, rfl⟩
      try go_wp2_with (first | (refine wpList_farith rfl _ _ _ _ _ rfl _ _ _ rfl rfl (by decide) (by assumption) (by assumption) ?_; intro _ _ _) | (refine wpList_fofint rfl _ _ _ rfl _ _ rfl (Option.isSome_iff_exists.2 ⟨_, (by with_reducible exact Try.underlying2)⟩) (by with_reducible exact Try.underlying58) ?_; intro _) | (refine wpList_fofint rfl _ _ _ rfl _ _ rfl (Option.isSome_iff_exists.2 ⟨_, (by with_reducible exact Try.underlying2)⟩) (by with_reducible exact Try.underlying32) ?_; intro _) | (refine wpList_fofint rfl _ _ _ rfl _ _ rfl (Option.isSome_iff_exists.2 ⟨_, (by with_reducible exact Try.underlying3)⟩) (by with_reducible exact Try.underlying58) ?_; intro _) | (refine wpList_fofint rfl _ _ _ rfl _ _ rfl (Option.isSome_iff_exists.2 ⟨_, (by with_reducible exact Try.underlying3)⟩) (by with_reducible exact Try.underlying32) ?_; intro _) | (go_at_call 81; refine (l02Above_any _ _ (by assumption) _).mono ?_; rw [c4, Bool.false_and]; rintro e w' ⟨rfl, n3, rfl⟩))
      go_ret2
      exact ⟨_, [], by rw [HB.out]; rfl, OF_nil _ _, by rw [HB.out]; rfl, below_drewN (Below.refl _ _) _⟩
    · have HB : Hid (smB zs u = isRowB (smL zs u)) := by unfold Hid; rw [HB0.out, c3, hgu, hc]; rfl
      clear hs hc HB0 HGU hak hin
      go_enter Try.func42, Try.ntmps42
      go_wp2_with (fail)
      refine HA.out.mono ?_
      rintro e w' ⟨rfl, n, rfl⟩
      go_wp2_with (fail)
      refine (l02Least_any _ _ hx _).mono ?_
      rw [c1']
      rintro e w' ⟨rfl, n2, rfl⟩
      go_wp2_with (fail)
      refine (HT.out _).mono ?_
      rintro e w' ⟨rfl, rfl⟩
      go_wp2_with (first | (refine wpList_farith rfl _ _ _ _ _ rfl _ _ _ rfl rfl (by decide) (by assumption) (by assumption) ?_; intro _ _ _) | (refine wpList_fofint rfl _ _ _ rfl _ _ rfl (Option.isSome_iff_exists.2 ⟨_, (by with_reducible exact Try.underlying2)⟩) (by with_reducible exact Try.underlying58) ?_; intro _) | (refine wpList_fofint rfl _ _ _ rfl _ _ rfl (Option.isSome_iff_exists.2 ⟨_, (by with_reducible exact Try.underlying2)⟩) (by with_reducible exact Try.underlying32) ?_; intro _) | (refine wpList_fofint rfl _ _ _ rfl _ _ rfl (Option.isSome_iff_exists.2 ⟨_, (by with_reducible exact Try.underlying3)⟩) (by with_reducible exact Try.underlying58) ?_; intro _) | (refine wpList_fofint rfl _ _ _ rfl _ _ rfl (Option.isSome_iff_exists.2 ⟨_, (by with_reducible exact Try.underlying3)⟩) (by with_reducible exact Try.underlying32) ?_; intro _) | (go_at_call 81; refine (l02Above_any _ _ (by assumption) _).mono ?_; rw [c3, c4]; rintro e w' ⟨rfl, n3, rfl⟩))
      go_loopw [7, 8] (fun o i wr => ∃ (k : Nat) (rs : List Nat), k ≤ zs.length ∧ i = .int .i64 k ∧ Hid (OF wr base o rs) ∧ Hid (us rs = RL (smE zs u) k) ∧ Hid (Below base w wr)) (fun _ i _ => zs.length - (intOf i).toNat)
      case atStart => exact ⟨0, [], Nat.zero_le _, rfl, by unfold Hid; exact OF_made' hbase, rfl, by unfold Hid; exact (below_drewN (Below.refl base w) _).alloc (Nat.le_of_eq hbase.symm) _⟩
      case round =>
        obtain ⟨k, rs, hk, rfl, HO1, HU1, HB1⟩ := hrel
        by_cases hlt : k < zs.length
        · obtain ⟨b, off, rfl, hc⟩ := HS.out k hlt
          have hbl := World.block_lt_of_cell? w _ hc
          have hc1 : wr.cell? ⟨b, off + k, none⟩ = some (.int .i64 (zs.getD k 0)) := by rw [HB1.out.cell (p := ⟨b, off + k, none⟩) (by omega)]; exact hc
          have hI : (k : Int) < (zs.length : Int) := by omega
          have hrl : rs.length ≤ 32 := by have := us_len_of HU1.out; rw [RL_len] at this; have := HL32.out; omega
          have HE := hid (HEV.out k)
          have HSU := hid (fun r (hr : Fl .f32 r ((smE zs u) k)) => RL_succ HU1.out hr)
          have hws : base ≤ wr.heap.size := by have := HB1.out.size; omega
          rw [HE.out] at HSU
          clear hc hbl HE
          generalize zs.getD k 0 = z at *
          go_wp2_with (first | (at_builtin; refine Stop.out ?_) | (refine wpList_fofint rfl _ _ _ rfl _ _ rfl (Option.isSome_iff_exists.2 ⟨_, (by with_reducible exact Try.underlying2)⟩) (by with_reducible exact Try.underlying58) ?_; intro _) | (refine wpList_fofint rfl _ _ _ rfl _ _ rfl (Option.isSome_iff_exists.2 ⟨_, (by with_reducible exact Try.underlying2)⟩) (by with_reducible exact Try.underlying32) ?_; intro _) | (refine wpList_fofint rfl _ _ _ rfl _ _ rfl (Option.isSome_iff_exists.2 ⟨_, (by with_reducible exact Try.underlying3)⟩) (by with_reducible exact Try.underlying58) ?_; intro _) | (refine wpList_fofint rfl _ _ _ rfl _ _ rfl (Option.isSome_iff_exists.2 ⟨_, (by with_reducible exact Try.underlying3)⟩) (by with_reducible exact Try.underlying32) ?_; intro _) | (refine wpList_farith rfl _ _ _ _ _ rfl _ _ _ rfl rfl (by decide) (by assumption) (by assumption) ?_; intro _ _ _))
          refine ⟨?_⟩
          refine wpList_append_own _ rfl _ _ 22 rfl base 32 i0 (.float .f32 0) 1 4 Try.underlying22 hi hz0 hz1 hz2x rfl (by decide) _ _ _ rfl ((HO1.out.drewN _).1.alloc _) ⟨_, 0, none⟩ 1 1 [.float .f32 _] rfl rfl (cell_one_new _ _ _) ?c2 ?c3 ?c4 ?c5 ?_
          case c2 => intro u hu; simp at hu; subst hu; rfl
          case c3 => skip; unfold maxLen; omega
          case c4 => skip; omega
          case c5 => have := HB1.out.size; simp; omega
          intro v' w1 hown' hgrow _
          have HX := hid (HSU.out _ (by assumption))
          have HR := hid (OF_app (HO1.out) (Fl.lt (by assumption)) hown')
          have HG := hid (below_app (w2 := (wr.drewN _).alloc _) ((below_drewN HB1.out _).alloc hws _) ⟨(HO1.out.drewN _).1.alloc _, HO1.out.2⟩ (by simp; omega) hgrow)
          clear hown' hgrow HSU
          go_wp2
          go_roundw
          case rel => exact ⟨k + 1, _, by omega, by go_num, HR, HX, HG⟩
          case measure => simp [intOf]; omega
        · have HK := hid (show k = zs.length by omega)
          have HUU : Hid (us rs = smL zs u) := by have h := HU1.out; rw [HK.out] at h; exact h
          have hlen : rs.length ≤ 1048576 := by have := us_len_of HUU.out; rw [show (smL zs u).length = zs.length from RL_len _ _] at this; have := HL32.out; omega
          have HRR := hid (l02Give_any base _ rs w wr HO1.out hlen HB1.out)
          rw [HUU.out] at HRR
          go_wp2_with (fail)
          refine HRR.out.mono ?_
          rintro e w2 ⟨v2, rs2, rfl, hO2, hU2, hB2⟩
          go_wp2_with (fail)
          go_ret2
          refine ⟨v2, rs2, by rw [HB.out]; rfl, ?_, by rw [HB.out]; exact hU2, ?_⟩
          · rw [hbase]; exact hO2
          · rw [hbase]; exact hB2
end Go.Proofs.Ytkmodgkkldcpkaa
