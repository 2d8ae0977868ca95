/-
  ROWS: are numbers chances, and is their sum nearly one? Own work; no condition beyond what each theorem names.
-/
import Derived.Test.YtgojfjaballbfaaSd
import Derived.Test.YtgojfjaballbfaaFm
namespace Go.Proofs.Ytgojfjaballbfaa
open Go.RowKit

theorem fone32 : Fl .f32 1065353216 1065353216 := Fl.lit (by decide) (by decide)
/-- a chance, as it stands alone -/
def goodU (u : Nat) : Bool := finB u && fcmp .geq .f32 u 0
def nearU (s : Nat) : Bool := fcmp .leq .f32 (fabsC (fbin .sub .f32 s 1065353216)) 981668463
def rowC (l : List Nat) : Bool := l.all goodU && nearU (sumF l)
theorem rowC_bad {l : List Nat} {k : Nat} (hk : k < l.length) (h : goodU (l.getD k 0) = false) : rowC l = false := by
  unfold rowC
  have : l.all goodU = false := by
    rw [List.all_eq_false]
    exact ⟨l.getD k 0, by simp [List.getD, hk], by rw [h]; decide⟩
  rw [this]; rfl
theorem rowC_all {l : List Nat} (h : ∀ j, j < l.length → goodU (l.getD j 0) = true) : rowC l = nearU (sumF l) := by
  unfold rowC
  have : l.all goodU = true := by
    rw [List.all_eq_true]
    intro z hz
    obtain ⟨j, hj, e⟩ := List.getElem_of_mem hz
    have := h j hj
    rwa [show l.getD j 0 = l[j] by simp [List.getD, hj], e] at this
  rw [this, Bool.true_and]

theorem absolute_any (x u : Nat) (hx : Fl .f32 x u) (w : World) :
    Calls Try.prog 38 #[.float .f32 x] w fun e w' => (∃ r, e = .returned (.float .f32 r) ∧ Fl .f32 r (fabsC u)) ∧ Dr w w' := by
  have h0 := fz32
  cases hb : fcmp .lss .f32 u 0
  all_goals
    have HV : Hid (fabsC u = if fcmp .lss .f32 u 0 then fneg .f32 u else u) := rfl
    go_enter Try.func38, Try.ntmps38
    go_wp2_with (first | (refine wpList_farith rfl _ _ _ _ _ rfl _ _ _ rfl rfl (by decide) (by assumption) (by assumption) ?_; intro _ _ _) | (refine wpList_fcmp rfl _ _ _ _ _ rfl _ _ _ rfl rfl (by decide) (by assumption) (by assumption) (by first | assumption | rfl) ?_) | (refine wpList_fneg rfl _ _ rfl _ rfl (by assumption) ?_; intro _ _))
    go_ret
    refine ⟨⟨_, rfl, ?_⟩, 0, rfl⟩
    rw [HV.out, hb]
    assumption
set_option maxHeartbeats 400000 in
theorem addUp_any (p : Option Addr) (cap : Nat) (zs : List Nat) (w : World) (hs : SL (.float .f32) 0 w p zs) (hz : ∀ z ∈ zs, z < 4294967296) (hm : zs.length ≤ 1048576) :
    Calls Try.prog 39 #[.slice p zs.length cap] w fun e w' => (∃ r, e = .returned (.float .f32 r) ∧ Fl .f32 r (sumF (us zs))) ∧ Dr w w' := by
  have HS := hid hs
  have HZ := hid hz
  clear hs hz
  go_enter Try.func39, Try.ntmps39
  go_wp2
  go_loopw [3, 8] (fun s i wr => ∃ k r : Nat, k ≤ zs.length ∧ i = .int .i64 k ∧ s = .float .f32 r ∧ Hid (Fl .f32 r (sumF ((us zs).take k))) ∧ ∃ n, wr = w.drewN n) (fun _ i _ => zs.length - (intOf i).toNat)
  case atStart => exact ⟨0, 0, Nat.zero_le _, rfl, rfl, fz32, 0, rfl⟩
  case round =>
    obtain ⟨k, r, hk, rfl, rfl, HF, n, rfl⟩ := hrel
    by_cases hlt : k < zs.length
    · obtain ⟨b, off, rfl, hc⟩ := HS.out k hlt
      have f1 := us_fl HZ.out hlt
      have HT := hid (sumF_succ (us zs) k (by rw [us_len]; exact hlt))
      have f2 : Fl .f32 r (sumF ((us zs).take k)) := HF.out
      generalize (us zs).getD k 0 = u at *
      generalize zs.getD k 0 = x at *
      generalize sumF ((us zs).take k) = v at *
      go_wp2_with (first | (refine wpList_farith rfl _ _ _ _ _ rfl _ _ _ rfl rfl (by decide) (by assumption) (by assumption) ?_; intro _ _ _))
      go_roundw
      case rel => exact ⟨k + 1, _, by omega, by go_num, rfl, by unfold Hid; rw [HT.out]; assumption, _, rfl⟩
      case measure => simp [intOf]; omega
    · have HK := hid (show k = zs.length by omega)
      go_wp2
      go_ret
      refine ⟨⟨r, rfl, ?_⟩, _, rfl⟩
      have h := HF.out
      rw [HK.out, ← us_len zs, List.take_length] at h
      exact h
set_option maxHeartbeats 400000 in
theorem l02Sum_any (p : Option Addr) (cap : Nat) (zs : List Nat) (w : World) (hs : SL (.float .f32) 0 w p zs) (hz : ∀ z ∈ zs, z < 4294967296) (hm : zs.length ≤ 1048576) :
    Calls Try.prog 43 #[.slice p zs.length cap] w fun e w' => (∃ r, e = .returned (.float .f32 r) ∧ Fl .f32 r (sumF (us zs))) ∧ Dr w w' := by
  have HS := hid hs
  have HZ := hid hz
  clear hs hz
  go_enter Try.func43, Try.ntmps43
  go_wp2
  go_loopw [3, 4] (fun s i wr => ∃ k r : Nat, k ≤ zs.length ∧ i = .int .i64 k ∧ s = .float .f32 r ∧ Hid (Fl .f32 r (sumF ((us zs).take k))) ∧ ∃ n, wr = w.drewN n) (fun _ i _ => zs.length - (intOf i).toNat)
  case atStart => exact ⟨0, 0, Nat.zero_le _, rfl, rfl, fz32, 0, rfl⟩
  case round =>
    obtain ⟨k, r, hk, rfl, rfl, HF, n, rfl⟩ := hrel
    by_cases hlt : k < zs.length
    · obtain ⟨b, off, rfl, hc⟩ := HS.out k hlt
      have f1 := us_fl HZ.out hlt
      have HT := hid (sumF_succ (us zs) k (by rw [us_len]; exact hlt))
      have f2 : Fl .f32 r (sumF ((us zs).take k)) := HF.out
      generalize (us zs).getD k 0 = u at *
      generalize zs.getD k 0 = x at *
      generalize sumF ((us zs).take k) = v at *
      go_wp2_with (first | (refine wpList_farith rfl _ _ _ _ _ rfl _ _ _ rfl rfl (by decide) (by assumption) (by assumption) ?_; intro _ _ _))
      go_roundw
      case rel => exact ⟨k + 1, _, by omega, by go_num, rfl, by unfold Hid; rw [HT.out]; assumption, _, rfl⟩
      case measure => simp [intOf]; omega
    · have HK := hid (show k = zs.length by omega)
      go_wp2
      go_ret
      refine ⟨⟨r, rfl, ?_⟩, _, rfl⟩
      have h := HF.out
      rw [HK.out, ← us_len zs, List.take_length] at h
      exact h
set_option maxHeartbeats 400000 in
theorem isOne_any (p : Option Addr) (cap : Nat) (zs : List Nat) (w : World) (hs : SL (.float .f32) 0 w p zs) (hz : ∀ z ∈ zs, z < 4294967296) (hm : zs.length ≤ 1048576) :
    Calls Try.prog 26 #[.slice p zs.length cap] w fun e w' => e = .returned (.bool (rowC (us zs))) ∧ Dr w w' := by
  have HS := hid hs
  have HZ := hid hz
  clear hs hz
  go_enter Try.func26, Try.ntmps26
  go_wp2
  have h0 := fz32
  go_loopw [7] (fun i wr => ∃ k : Nat, k ≤ zs.length ∧ i = .int .i64 k ∧ Hid (∀ j, j < k → goodU ((us zs).getD j 0) = true) ∧ ∃ n, wr = w.drewN n) (fun i _ => zs.length - (intOf i).toNat)
  case atStart => exact ⟨0, Nat.zero_le _, rfl, fun j hj => absurd hj (Nat.not_lt_zero _), 0, rfl⟩
  case round =>
    obtain ⟨k, hk, rfl, HA, n, rfl⟩ := hrel
    by_cases hlt : k < zs.length
    · obtain ⟨b, off, rfl, hc⟩ := HS.out k hlt
      have f1 := us_fl HZ.out hlt
      have hI : (k : Int) < (zs.length : Int) := by omega
      have HB := hid (fun h => rowC_bad (l := us zs) (k := k) (by rw [us_len]; exact hlt) h)
      have HG : Hid (goodU ((us zs).getD k 0) = true → ∀ j, j < k + 1 → goodU ((us zs).getD j 0) = true) := fun hg j hj => by
        by_cases e : j = k
        · subst e; exact hg
        · exact HA.out j (by omega)
      have HV : Hid (goodU ((us zs).getD k 0) = (finB ((us zs).getD k 0) && fcmp .geq .f32 ((us zs).getD k 0) 0)) := rfl
      generalize zs.getD k 0 = x at *
      generalize hu : (us zs).getD k 0 = u at *
      clear hu
      cases hf : finB u <;> cases hb : fcmp .geq .f32 u 0
      case true.true =>
        have HGG := hid (HG.out (by rw [HV.out, hf, hb]; rfl))
        clear HG HB
        go_wp2_with (first | (refine wpList_farith rfl _ _ _ _ _ rfl _ _ _ rfl rfl (by decide) (by assumption) (by assumption) ?_; intro _ _ _) | (refine wpList_fcmp rfl _ _ _ _ _ rfl _ _ _ rfl rfl (by decide) (by assumption) (by assumption) (by first | assumption | rfl) ?_) | (go_at_call 37; refine (IsFinite_any _ _ f1 _).mono ?_; rw [hf]; rintro e w' ⟨rfl, n2, rfl⟩))
        go_roundw
        case rel => exact ⟨k + 1, by omega, by go_num, HGG, _, rfl⟩
        case measure => simp [intOf]; omega
      all_goals
        have HBB := hid (HB.out (by rw [HV.out, hf, hb]; rfl))
        clear HG HB
        go_wp2_with (first | (refine wpList_farith rfl _ _ _ _ _ rfl _ _ _ rfl rfl (by decide) (by assumption) (by assumption) ?_; intro _ _ _) | (refine wpList_fcmp rfl _ _ _ _ _ rfl _ _ _ rfl rfl (by decide) (by assumption) (by assumption) (by first | assumption | rfl) ?_) | (go_at_call 37; refine (IsFinite_any _ _ f1 _).mono ?_; rw [hf]; rintro e w' ⟨rfl, n2, rfl⟩))
        go_ret
        exact ⟨by rw [HBB.out]; rfl, _, rfl⟩
    · have HK : Hid (rowC (us zs) = nearU (sumF (us zs))) := rowC_all (fun j hj => HA.out j (by rw [us_len] at hj; omega))
      have f1 : Fl .f32 1065353216 1065353216 := fone32
      have f2 : Fl .f32 981668463 981668463 := Fl.lit (by decide) (by decide)
      have HN : Hid (nearU (sumF (us zs)) = fcmp .leq .f32 (fabsC (fbin .sub .f32 (sumF (us zs)) 1065353216)) 981668463) := rfl
      cases hb : nearU (sumF (us zs))
      all_goals
        have hb2 := hb
        rw [HN.out] at hb2
        go_wp2_with (first | (refine wpList_farith rfl _ _ _ _ _ rfl _ _ _ rfl rfl (by decide) (by assumption) (by assumption) ?_; intro _ _ _) | (refine wpList_fcmp rfl _ _ _ _ _ rfl _ _ _ rfl rfl (by decide) (by assumption) (by assumption) (by first | assumption | rfl) ?_) | (go_at_call 39; refine (addUp_any _ _ _ _ (HS.out.drewN _) HZ.out hm).mono ?_; rintro e w' ⟨⟨r2, rfl, hr2⟩, n2, rfl⟩) | (go_at_call 38; refine (absolute_any _ _ (by assumption) _).mono ?_; rintro e w' ⟨⟨r3, rfl, hr3⟩, n3, rfl⟩))
        go_ret
        exact ⟨by rw [HK.out, hb]; rfl, _, rfl⟩
theorem l02Least_any (x u : Nat) (hx : Fl .f32 x u) (w : World) :
    Calls Try.prog 42 #[.float .f32 x] w fun e w' => e = .returned (.bool (goodU u)) ∧ Dr w w' := by
  have h0 := fz32
  have HV : Hid (goodU u = (finB u && fcmp .geq .f32 u 0)) := rfl
  cases hf : finB u <;> cases hb : fcmp .geq .f32 u 0
  all_goals
    go_enter Try.func42, Try.ntmps42
    go_wp2_with (first | (refine wpList_farith rfl _ _ _ _ _ rfl _ _ _ rfl rfl (by decide) (by assumption) (by assumption) ?_; intro _ _ _) | (refine wpList_fcmp rfl _ _ _ _ _ rfl _ _ _ rfl rfl (by decide) (by assumption) (by assumption) (by first | assumption | rfl) ?_) | (go_at_call 45; refine (l01Finite_any _ _ hx _).mono ?_; rw [hf]; rintro e w' ⟨rfl, n, rfl⟩))
    go_ret
    exact ⟨by rw [HV.out, hf, hb]; rfl, _, rfl⟩
set_option maxHeartbeats 400000 in
theorem l02Chances_any (p : Option Addr) (cap : Nat) (zs : List Nat) (w : World) (hs : SL (.float .f32) 0 w p zs) (hz : ∀ z ∈ zs, z < 4294967296) (hm : zs.length ≤ 1048576) :
    Calls Try.prog 36 #[.slice p zs.length cap] w fun e w' => e = .returned (.bool (rowC (us zs))) ∧ Dr w w' := by
  have HS := hid hs
  have HZ := hid hz
  clear hs hz
  go_enter Try.func36, Try.ntmps36
  go_wp2
  have h0 := fz32
  go_loopw [3] (fun i wr => ∃ k : Nat, k ≤ zs.length ∧ i = .int .i64 k ∧ Hid (∀ j, j < k → goodU ((us zs).getD j 0) = true) ∧ ∃ n, wr = w.drewN n) (fun i _ => zs.length - (intOf i).toNat)
  case atStart => exact ⟨0, Nat.zero_le _, rfl, fun j hj => absurd hj (Nat.not_lt_zero _), 0, rfl⟩
  case round =>
    obtain ⟨k, hk, rfl, HA, n, rfl⟩ := hrel
    by_cases hlt : k < zs.length
    · obtain ⟨b, off, rfl, hc⟩ := HS.out k hlt
      have f1 := us_fl HZ.out hlt
      have hI : (k : Int) < (zs.length : Int) := by omega
      have HB := hid (fun h => rowC_bad (l := us zs) (k := k) (by rw [us_len]; exact hlt) h)
      have HG : Hid (goodU ((us zs).getD k 0) = true → ∀ j, j < k + 1 → goodU ((us zs).getD j 0) = true) := fun hg j hj => by
        by_cases e : j = k
        · subst e; exact hg
        · exact HA.out j (by omega)
      have HV : Hid (goodU ((us zs).getD k 0) = (finB ((us zs).getD k 0) && fcmp .geq .f32 ((us zs).getD k 0) 0)) := rfl
      generalize zs.getD k 0 = x at *
      generalize hu : (us zs).getD k 0 = u at *
      clear hu
      cases hg : goodU u
      · have HBB := hid (HB.out hg)
        clear HG HB
        go_wp2_with (go_at_call 42; refine (l02Least_any _ _ f1 _).mono ?_; rw [hg]; rintro e w' ⟨rfl, n2, rfl⟩)
        go_ret
        exact ⟨by rw [HBB.out]; rfl, _, rfl⟩
      · have HGG := hid (HG.out hg)
        clear HG HB
        go_wp2_with (go_at_call 42; refine (l02Least_any _ _ f1 _).mono ?_; rw [hg]; rintro e w' ⟨rfl, n2, rfl⟩)
        go_roundw
        case rel => exact ⟨k + 1, by omega, by go_num, HGG, _, rfl⟩
        case measure => simp [intOf]; omega
    · have HK : Hid (rowC (us zs) = nearU (sumF (us zs))) := rowC_all (fun j hj => HA.out j (by rw [us_len] at hj; omega))
      have f1 : Fl .f32 1065353216 1065353216 := fone32
      have f2 : Fl .f32 981668463 981668463 := Fl.lit (by decide) (by decide)
      have HN : Hid (Fl .f32 0 0 → ∀ r, Fl .f32 r (sumF (us zs)) → nearU (sumF (us zs)) = (fcmp .leq .f32 (fbin .sub .f32 (sumF (us zs)) 1065353216) 981668463 && fcmp .leq .f32 (fbin .sub .f32 1065353216 (sumF (us zs))) 981668463)) := fun _ r hr => near_one _ _ hr.vlt (by decide) (by decide)
      cases hb : fcmp .leq .f32 (fbin .sub .f32 (sumF (us zs)) 1065353216) 981668463 <;> cases hb2 : fcmp .leq .f32 (fbin .sub .f32 1065353216 (sumF (us zs))) 981668463
      all_goals
        go_wp2_with (first | (refine wpList_farith rfl _ _ _ _ _ rfl _ _ _ rfl rfl (by decide) (by assumption) (by assumption) ?_; intro _ _ _) | (refine wpList_fcmp rfl _ _ _ _ _ rfl _ _ _ rfl rfl (by decide) (by assumption) (by assumption) (by first | assumption | rfl) ?_) | (go_at_call 43; refine (l02Sum_any _ _ _ _ (HS.out.drewN _) HZ.out hm).mono ?_; rintro e w' ⟨⟨r2, rfl, hr2⟩, n2, rfl⟩))
        go_ret
        exact ⟨by rw [HK.out, HN.out h0 r2 hr2, hb, hb2]; rfl, _, rfl⟩
/-- a row -/
def isRowB (l : List Nat) : Bool := decide (1 ≤ l.length ∧ l.length ≤ 32) && rowC l
set_option maxHeartbeats 400000 in
theorem IsRow_any (p : Option Addr) (cap : Nat) (zs : List Nat) (w : World) (hs : SL (.float .f32) 0 w p zs) (hz : ∀ z ∈ zs, z < 4294967296) (hm : zs.length ≤ 1048576) :
    Calls Try.prog 29 #[.slice p zs.length cap] w fun e w' => e = .returned (.bool (isRowB (us zs))) ∧ Dr w w' := by
  have hc := isOne_any p cap zs w hs hz hm
  by_cases h1 : 1 ≤ zs.length
  · by_cases h2 : zs.length ≤ 32
    · have HV : Hid (isRowB (us zs) = rowC (us zs)) := by unfold isRowB Hid; rw [us_len, decide_eq_true ⟨h1, h2⟩, Bool.true_and]
      have b1 : decide ((1 : Int) ≤ zs.length) = true := decide_eq_true (by omega)
      have b2 : decide ((zs.length : Int) ≤ 32) = true := decide_eq_true (by omega)
      have HC := hid hc
      clear hc hs hz h1 h2
      go_enter Try.func29, Try.ntmps29
      go_wp2_with (first | (go_at_call 26; refine HC.out.mono ?_; rintro e w' ⟨rfl, n, rfl⟩))
      go_ret
      exact ⟨by rw [HV.out]; simp, _, rfl⟩
    · have HV : Hid (isRowB (us zs) = false) := by unfold isRowB Hid; rw [us_len, decide_eq_false (fun h => h2 h.2), Bool.false_and]
      have b1 : decide ((1 : Int) ≤ zs.length) = true := decide_eq_true (by omega)
      have b2 : decide ((zs.length : Int) ≤ 32) = false := decide_eq_false (by omega)
      clear hc hs hz h1 h2
      go_enter Try.func29, Try.ntmps29
      go_wp2
      go_ret
      exact ⟨by rw [HV.out]; simp, 0, rfl⟩
  · have HV : Hid (isRowB (us zs) = false) := by unfold isRowB Hid; rw [us_len, decide_eq_false (fun h => h1 h.1), Bool.false_and]
    have b1 : decide ((1 : Int) ≤ zs.length) = false := decide_eq_false (by omega)
    clear hc hs hz h1
    go_enter Try.func29, Try.ntmps29
    go_wp2
    go_ret
    exact ⟨by rw [HV.out]; simp, 0, rfl⟩
set_option maxHeartbeats 400000 in
theorem l02Row_any (p : Option Addr) (cap : Nat) (zs : List Nat) (w : World) (hs : SL (.float .f32) 0 w p zs) (hz : ∀ z ∈ zs, z < 4294967296) (hm : zs.length ≤ 1048576) :
    Calls Try.prog 27 #[.slice p zs.length cap] w fun e w' => e = .returned (.bool (isRowB (us zs))) ∧ Dr w w' := by
  have hc := l02Chances_any p cap zs w hs hz hm
  by_cases h1 : 1 ≤ zs.length
  · by_cases h2 : zs.length ≤ 32
    · have HV : Hid (isRowB (us zs) = rowC (us zs)) := by unfold isRowB Hid; rw [us_len, decide_eq_true ⟨h1, h2⟩, Bool.true_and]
      have b1 : decide ((1 : Int) ≤ zs.length) = true := decide_eq_true (by omega)
      have b2 : decide ((zs.length : Int) ≤ 32) = true := decide_eq_true (by omega)
      have HC := hid hc
      clear hc hs hz h1 h2
      go_enter Try.func27, Try.ntmps27
      go_wp2_with (first | (go_at_call 36; refine HC.out.mono ?_; rintro e w' ⟨rfl, n, rfl⟩))
      go_ret
      exact ⟨by rw [HV.out]; simp, _, rfl⟩
    · have HV : Hid (isRowB (us zs) = false) := by unfold isRowB Hid; rw [us_len, decide_eq_false (fun h => h2 h.2), Bool.false_and]
      have b1 : decide ((1 : Int) ≤ zs.length) = true := decide_eq_true (by omega)
      have b2 : decide ((zs.length : Int) ≤ 32) = false := decide_eq_false (by omega)
      clear hc hs hz h1 h2
      go_enter Try.func27, Try.ntmps27
      go_wp2
      go_ret
      exact ⟨by rw [HV.out]; simp, 0, rfl⟩
  · have HV : Hid (isRowB (us zs) = false) := by unfold isRowB Hid; rw [us_len, decide_eq_false (fun h => h1 h.1), Bool.false_and]
    have b1 : decide ((1 : Int) ≤ zs.length) = false := decide_eq_false (by omega)
    clear hc hs hz h1
    go_enter Try.func27, Try.ntmps27
    go_wp2
    go_ret
    exact ⟨by rw [HV.out]; simp, 0, rfl⟩
end Go.Proofs.Ytgojfjaballbfaa
