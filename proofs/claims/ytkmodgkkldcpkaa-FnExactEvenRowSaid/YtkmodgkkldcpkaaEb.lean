/-
  SUMS OVER ROWS: the walks. Printed by wip/tools/gen_rows.py. Own work.
-/
import Derived.Test.YtkmodgkkldcpkaaFr
namespace Go.Proofs.Ytkmodgkkldcpkaa
open Go.RowKit
attribute [local go_sem] opS fineS givesS

/-- Two rows of the same length. -/
def twoB (a b : List Nat) : Bool := isRowB a && isRowB b && decide (a.length = b.length)
theorem twoB_parts {a b : List Nat} (h : twoB a b = true) : isRowB a = true ∧ isRowB b = true ∧ a.length = b.length := by
  unfold twoB at h
  simp only [Bool.and_eq_true, decide_eq_true_eq] at h
  exact ⟨h.1.1, h.1.2, h.2⟩
theorem us_lt {zs : List Nat} (hz : ∀ z ∈ zs, z < 4294967296) : ∀ j, j < (us zs).length → (us zs).getD j 0 < 4294967296 := fun j hj => by
  rw [us_len] at hj
  exact (us_fl hz hj).vlt

theorem areRows_any (p q : Option Addr) (c1 c2 : Nat) (xs ys : List Nat) (w : World) (hs : SL (.float .f32) 0 w p xs) (hz : ∀ z ∈ xs, z < 4294967296) (hs2 : SL (.float .f32) 0 w q ys) (hz2 : ∀ z ∈ ys, z < 4294967296) (hm : xs.length ≤ 1048576) (hm2 : ys.length ≤ 1048576) :
    Calls Try.prog 64 #[.slice p xs.length c1, .slice q ys.length c2] w fun e w' => e = .returned (.bool (twoB (us xs) (us ys))) ∧ Dr w w' := by
  have HA := hid (IsRow_any p c1 xs w hs hz hm)
  have HB := hid (fun n => IsRow_any q c2 ys (w.drewN n) (hs2.drewN n) hz2 hm2)
  have HV : Hid (twoB (us xs) (us ys) = (isRowB (us xs) && isRowB (us ys) && decide (xs.length = ys.length))) := by unfold Hid twoB; rw [us_len, us_len]
  clear hs hz hs2 hz2
  have hl : ((xs.length : Int) == (ys.length : Int)) = decide (xs.length = ys.length) := by
    by_cases h : xs.length = ys.length
    · rw [decide_eq_true h]; exact beq_iff_eq.2 (by omega)
    · rw [decide_eq_false h]; exact beq_eq_false_iff_ne.2 (by omega)
  have hl2 : decide ((xs.length : Int) = (ys.length : Int)) = decide (xs.length = ys.length) := decide_eq_decide.2 (by omega)
  generalize isRowB (us xs) = b1 at *
  generalize isRowB (us ys) = b2 at *
  generalize decide (xs.length = ys.length) = b3 at *
  cases b1
  · go_enter Try.func64, Try.ntmps64
    go_wp2_with (fail)
    refine HA.out.mono ?_
    rintro e w' ⟨rfl, n, rfl⟩
    go_wp2_with (fail)
    go_ret
    exact ⟨by rw [HV.out]; rfl, _, rfl⟩
  · cases b2 <;> cases b3
    all_goals
      go_enter Try.func64, Try.ntmps64
      go_wp2_with (fail)
      refine HA.out.mono ?_
      rintro e w' ⟨rfl, n, rfl⟩
      go_wp2_with (fail)
      refine (HB.out _).mono ?_
      rintro e w' ⟨rfl, n2, rfl⟩
      go_wp2_with (fail)
      go_ret
      exact ⟨by rw [HV.out]; rfl, _, rfl⟩
theorem l02Two_any (p q : Option Addr) (c1 c2 : Nat) (xs ys : List Nat) (w : World) (hs : SL (.float .f32) 0 w p xs) (hz : ∀ z ∈ xs, z < 4294967296) (hs2 : SL (.float .f32) 0 w q ys) (hz2 : ∀ z ∈ ys, z < 4294967296) (hm : xs.length ≤ 1048576) (hm2 : ys.length ≤ 1048576) :
    Calls Try.prog 60 #[.slice p xs.length c1, .slice q ys.length c2] w fun e w' => e = .returned (.bool (twoB (us xs) (us ys))) ∧ Dr w w' := by
  have HA := hid (l02Row_any p c1 xs w hs hz hm)
  have HB := hid (fun n => l02Row_any q c2 ys (w.drewN n) (hs2.drewN n) hz2 hm2)
  have HV : Hid (twoB (us xs) (us ys) = (isRowB (us xs) && isRowB (us ys) && decide (xs.length = ys.length))) := by unfold Hid twoB; rw [us_len, us_len]
  clear hs hz hs2 hz2
  have hl : ((xs.length : Int) == (ys.length : Int)) = decide (xs.length = ys.length) := by
    by_cases h : xs.length = ys.length
    · rw [decide_eq_true h]; exact beq_iff_eq.2 (by omega)
    · rw [decide_eq_false h]; exact beq_eq_false_iff_ne.2 (by omega)
  have hl2 : decide ((xs.length : Int) = (ys.length : Int)) = decide (xs.length = ys.length) := decide_eq_decide.2 (by omega)
  generalize isRowB (us xs) = b1 at *
  generalize isRowB (us ys) = b2 at *
  generalize decide (xs.length = ys.length) = b3 at *
  cases b1
  · go_enter Try.func60, Try.ntmps60
    go_wp2_with (fail)
    refine HA.out.mono ?_
    rintro e w' ⟨rfl, n, rfl⟩
    go_wp2_with (fail)
    go_ret
    exact ⟨by rw [HV.out]; rfl, _, rfl⟩
  · cases b2 <;> cases b3
    all_goals
      go_enter Try.func60, Try.ntmps60
      go_wp2_with (fail)
      refine HA.out.mono ?_
      rintro e w' ⟨rfl, n, rfl⟩
      go_wp2_with (fail)
      refine (HB.out _).mono ?_
      rintro e w' ⟨rfl, n2, rfl⟩
      go_wp2_with (fail)
      go_ret
      exact ⟨by rw [HV.out]; rfl, _, rfl⟩

/-! ### Entropy -/
def entS (s u : Nat) : Nat := if fcmp .gtr .f32 u 0 then fbin .add .f32 s (fbin .mul .f32 u (bitsV u)) else s
def entF (l : List Nat) : Nat := l.foldl entS 0
theorem entF_succ (l : List Nat) (k : Nat) (h : k < l.length) : entF (l.take (k + 1)) = entS (entF (l.take k)) (l.getD k 0) := fold_succ entS l k h
def entV (l : List Nat) : Nat := fbin .sub .f32 0 (entF l)

set_option maxHeartbeats 400000 in
theorem entropy_any (p : Option Addr) (cap : Nat) (zs : List Nat) (w : World) (hs : SL (.float .f32) 0 w p zs) (hz : ∀ z ∈ zs, z < 4294967296) (hm : zs.length ≤ 1048576) (hg : ∀ j, j < zs.length → goodU ((us zs).getD j 0) = true) :
    Calls Try.prog 89 #[.slice p zs.length cap] w fun e w' => (∃ r, e = .returned (.float .f32 r) ∧ Fl .f32 r (entV (us zs))) ∧ Dr w w' := by
  have HS := hid hs
  have HZ := hid hz
  have HG := hid hg
  clear hs hz hg
  have h0 := fz32
  go_enter Try.func89, Try.ntmps89
  go_wp2
  go_loopw [3, 8] (fun s i wr => ∃ k r : Nat, k ≤ zs.length ∧ i = .int .i64 k ∧ s = .float .f32 r ∧ Hid (Fl .f32 r (entF ((us zs).take k))) ∧ ∃ n, wr = w.drewN n) (fun _ i _ => zs.length - (intOf i).toNat)
  case atStart => exact ⟨0, 0, Nat.zero_le _, rfl, rfl, fz32, 0, rfl⟩
  case round =>
    obtain ⟨k, r, hk, rfl, rfl, HF, n, rfl⟩ := hrel
    by_cases hlt : k < zs.length
    · obtain ⟨b, off, rfl, hc⟩ := HS.out k hlt
      have f1 := us_fl HZ.out hlt
      have hI : (k : Int) < (zs.length : Int) := by omega
      have HT := hid (entF_succ (us zs) k (by rw [us_len]; exact hlt))
      have hne := good_ne (HG.out k hlt)
      have f2 : Fl .f32 r (entF ((us zs).take k)) := HF.out
      generalize (us zs).getD k 0 = u at *
      generalize zs.getD k 0 = x at *
      generalize entF ((us zs).take k) = v at *
      have HE : Hid (entS v u = if fcmp .gtr .f32 u 0 then fbin .add .f32 v (fbin .mul .f32 u (bitsV u)) else v) := rfl
      cases hb : fcmp .gtr .f32 u 0
      · rw [hb] at hne
        have HE2 := HE.out
        rw [hb] at HE2
        simp only [if_false, Bool.false_eq_true] at HE2
        have HE3 := hid HE2
        clear HE HE2
        go_wp2_with (first | (refine wpList_farith rfl _ _ _ _ _ rfl _ _ _ rfl rfl (by decide) (by assumption) (by assumption) ?_; intro _ _ _) | (refine wpList_fcmp rfl _ _ _ _ _ rfl _ _ _ rfl rfl (by decide) (by assumption) (by assumption) (by first | assumption | rfl) ?_) | (go_at_call 93; refine (bitsOf_any _ _ f1 _).mono ?_; rintro e w' ⟨⟨r2, rfl, hr2⟩, n2, rfl⟩))
        go_roundw
        case rel => exact ⟨k + 1, _, by omega, by go_num, rfl, by unfold Hid; rw [HT.out, HE3.out]; assumption, _, rfl⟩
        case measure => simp [intOf]; omega
      · rw [hb] at hne
        have HE2 := HE.out
        rw [hb] at HE2
        simp only [if_true] at HE2
        have HE3 := hid HE2
        clear HE HE2
        go_wp2_with (first | (refine wpList_farith rfl _ _ _ _ _ rfl _ _ _ rfl rfl (by decide) (by assumption) (by assumption) ?_; intro _ _ _) | (refine wpList_fcmp rfl _ _ _ _ _ rfl _ _ _ rfl rfl (by decide) (by assumption) (by assumption) (by first | assumption | rfl) ?_) | (go_at_call 93; refine (bitsOf_any _ _ f1 _).mono ?_; rintro e w' ⟨⟨r2, rfl, hr2⟩, n2, rfl⟩))
        go_roundw
        case rel => exact ⟨k + 1, _, by omega, by go_num, rfl, by unfold Hid; rw [HT.out, HE3.out]; assumption, _, rfl⟩
        case measure => simp [intOf]; omega
    · have HK := hid (show k = zs.length by omega)
      have f2 : Fl .f32 r (entF (us zs)) := by
        have h := HF.out
        rw [HK.out, ← us_len zs, List.take_length] at h
        exact h
      have HV : Hid (entV (us zs) = fbin .sub .f32 0 (entF (us zs))) := rfl
      generalize entF (us zs) = v at *
      clear HF
      go_wp2_with (first | (refine wpList_farith rfl _ _ _ _ _ rfl _ _ _ rfl rfl (by decide) (by assumption) (by assumption) ?_; intro _ _ _) | (refine wpList_fcmp rfl _ _ _ _ _ rfl _ _ _ rfl rfl (by decide) (by assumption) (by assumption) (by first | assumption | rfl) ?_))
      go_ret
      exact ⟨⟨_, rfl, by rw [HV.out]; assumption⟩, _, rfl⟩
set_option maxHeartbeats 400000 in
theorem l02Entropy_any (p : Option Addr) (cap : Nat) (zs : List Nat) (w : World) (hs : SL (.float .f32) 0 w p zs) (hz : ∀ z ∈ zs, z < 4294967296) (hm : zs.length ≤ 1048576) :
    Calls Try.prog 88 #[.slice p zs.length cap] w fun e w' => (∃ r, e = .returned (.float .f32 r) ∧ Fl .f32 r (entV (us zs))) ∧ Dr w w' := by
  have HS := hid hs
  have HZ := hid hz
  
  clear hs hz
  have h0 := fz32
  go_enter Try.func88, Try.ntmps88
  go_wp2
  go_loopw [3, 4] (fun s i wr => ∃ k r : Nat, k ≤ zs.length ∧ i = .int .i64 k ∧ s = .float .f32 r ∧ Hid (Fl .f32 r (entF ((us zs).take k))) ∧ ∃ n, wr = w.drewN n) (fun _ i _ => zs.length - (intOf i).toNat)
  case atStart => exact ⟨0, 0, Nat.zero_le _, rfl, rfl, fz32, 0, rfl⟩
  case round =>
    obtain ⟨k, r, hk, rfl, rfl, HF, n, rfl⟩ := hrel
    by_cases hlt : k < zs.length
    · obtain ⟨b, off, rfl, hc⟩ := HS.out k hlt
      have f1 := us_fl HZ.out hlt
      have hI : (k : Int) < (zs.length : Int) := by omega
      have HT := hid (entF_succ (us zs) k (by rw [us_len]; exact hlt))
      
      have f2 : Fl .f32 r (entF ((us zs).take k)) := HF.out
      generalize (us zs).getD k 0 = u at *
      generalize zs.getD k 0 = x at *
      generalize entF ((us zs).take k) = v at *
      have HE : Hid (entS v u = if fcmp .gtr .f32 u 0 then fbin .add .f32 v (fbin .mul .f32 u (bitsV u)) else v) := rfl
      cases hb : fcmp .gtr .f32 u 0
      · skip
        have HE2 := HE.out
        rw [hb] at HE2
        simp only [if_false, Bool.false_eq_true] at HE2
        have HE3 := hid HE2
        clear HE HE2
        go_wp2_with (first | (refine wpList_farith rfl _ _ _ _ _ rfl _ _ _ rfl rfl (by decide) (by assumption) (by assumption) ?_; intro _ _ _) | (refine wpList_fcmp rfl _ _ _ _ _ rfl _ _ _ rfl rfl (by decide) (by assumption) (by assumption) (by first | assumption | rfl) ?_) | (go_at_call 91; refine (l02Bits_any _ _ f1 _).mono ?_; rintro e w' ⟨⟨r2, rfl, hr2⟩, n2, rfl⟩))
        go_roundw
        case rel => exact ⟨k + 1, _, by omega, by go_num, rfl, by unfold Hid; rw [HT.out, HE3.out]; assumption, _, rfl⟩
        case measure => simp [intOf]; omega
      · skip
        have HE2 := HE.out
        rw [hb] at HE2
        simp only [if_true] at HE2
        have HE3 := hid HE2
        clear HE HE2
        go_wp2_with (first | (refine wpList_farith rfl _ _ _ _ _ rfl _ _ _ rfl rfl (by decide) (by assumption) (by assumption) ?_; intro _ _ _) | (refine wpList_fcmp rfl _ _ _ _ _ rfl _ _ _ rfl rfl (by decide) (by assumption) (by assumption) (by first | assumption | rfl) ?_) | (go_at_call 91; refine (l02Bits_any _ _ f1 _).mono ?_; rintro e w' ⟨⟨r2, rfl, hr2⟩, n2, rfl⟩))
        refine wp_region_mixN (callG bitsV) (by kernel_rfl) (by kernel_rfl) ?_
        simp only [List.map_cons, List.map_nil]
        repeat (refine mixS_step (fun K hK => ?_); first | (refine opS_farith rfl _ _ _ _ _ rfl _ _ _ rfl rfl (by decide) (by assumption) (by assumption) ?_; intro _ _; refine hK _ ?_; clear hK K) | (go_simp; refine hK _ ?_; clear hK K) | (refine opS_callf (f := 91) (x := x) (u := u) rfl ?_ f1 (fun w' => l02Bits_any _ _ f1 w') ?_; (focus intro w'; go_simp; done); intro _ _; refine hK _ ?_; clear hK K))
        refine mixS_nil ?_
        rintro w' ⟨m, rfl⟩
        go_wp2
        go_roundw
        case rel => exact ⟨k + 1, _, by omega, by go_num, rfl, by unfold Hid; rw [HT.out, HE3.out]; assumption, _, rfl⟩
        case measure => simp [intOf]; omega
    · have HK := hid (show k = zs.length by omega)
      have f2 : Fl .f32 r (entF (us zs)) := by
        have h := HF.out
        rw [HK.out, ← us_len zs, List.take_length] at h
        exact h
      have HV : Hid (entV (us zs) = fbin .sub .f32 0 (entF (us zs))) := rfl
      generalize entF (us zs) = v at *
      clear HF
      go_wp2_with (first | (refine wpList_farith rfl _ _ _ _ _ rfl _ _ _ rfl rfl (by decide) (by assumption) (by assumption) ?_; intro _ _ _) | (refine wpList_fcmp rfl _ _ _ _ _ rfl _ _ _ rfl rfl (by decide) (by assumption) (by assumption) (by first | assumption | rfl) ?_))
      go_ret
      exact ⟨⟨_, rfl, by rw [HV.out]; assumption⟩, _, rfl⟩
/-- What EntropyOf gives. -/
def enoB (l : List Nat) : Bool := isRowB l && finB (entV l)
def enoV (l : List Nat) : Nat := if isRowB l then numV (entV l) else 0

theorem EntropyOf_any (p : Option Addr) (cap : Nat) (zs : List Nat) (w : World) (hs : SL (.float .f32) 0 w p zs) (hz : ∀ z ∈ zs, z < 4294967296) (hm : zs.length ≤ 1048576) :
    Calls Try.prog 48 #[.slice p zs.length cap] w fun e w' => (∃ r, e = .returned (.tuple #[.float .f32 r, .bool (enoB (us zs))]) ∧ Fl .f32 r (enoV (us zs))) ∧ Dr w w' := by
  have HA := hid (IsRow_any p cap zs w hs hz hm)
  have HB : Hid (enoB (us zs) = (isRowB (us zs) && finB (entV (us zs)))) := rfl
  have HV : Hid (enoV (us zs) = if isRowB (us zs) then numV (entV (us zs)) else 0) := rfl
  have HC : Hid (isRowB (us zs) = true → ∀ n, Calls Try.prog 89 #[.slice p zs.length cap] (w.drewN n) fun e w' => (∃ r, e = .returned (.float .f32 r) ∧ Fl .f32 r (entV (us zs))) ∧ Dr (w.drewN n) w') := fun hr n => entropy_any p cap zs (w.drewN n) (hs.drewN n) hz hm (fun j hj => row_good hr (by rw [us_len]; exact hj))
  clear hs hz
  generalize entV (us zs) = v at *
  generalize isRowB (us zs) = b at *
  cases b
  · go_enter Try.func48, Try.ntmps48
    go_wp2_with (first | (go_at_call 70; refine HA.out.mono ?_; rintro e w' ⟨rfl, n, rfl⟩))
    go_ret2
    exact ⟨⟨_, by rw [HB.out]; rfl, by rw [HV.out]; exact fz32⟩, _, rfl⟩
  · have HCC := hid (HC.out rfl)
    clear HC
    go_enter Try.func48, Try.ntmps48
    go_wp2_with (first | (go_at_call 70; refine HA.out.mono ?_; rintro e w' ⟨rfl, n, rfl⟩) | (go_at_call 89; refine (HCC.out _).mono ?_; rintro e w' ⟨⟨r2, rfl, hr2⟩, n2, rfl⟩) | (go_at_call 87; refine (asNumber_any _ _ (by assumption) _).mono ?_; rintro e w' ⟨⟨r3, rfl, hr3⟩, n3, rfl⟩))
    go_ret2
    exact ⟨⟨_, by rw [HB.out]; rfl, by rw [HV.out]; assumption⟩, _, rfl⟩
theorem sEntropyOf_any (p : Option Addr) (cap : Nat) (zs : List Nat) (w : World) (hs : SL (.float .f32) 0 w p zs) (hz : ∀ z ∈ zs, z < 4294967296) (hm : zs.length ≤ 1048576) :
    Calls Try.prog 47 #[.slice p zs.length cap] w fun e w' => (∃ r, e = .returned (.tuple #[.float .f32 r, .bool (enoB (us zs))]) ∧ Fl .f32 r (enoV (us zs))) ∧ Dr w w' := by
  have HA := hid (l02Row_any p cap zs w hs hz hm)
  have HB : Hid (enoB (us zs) = (isRowB (us zs) && finB (entV (us zs)))) := rfl
  have HV : Hid (enoV (us zs) = if isRowB (us zs) then numV (entV (us zs)) else 0) := rfl
  have HC : Hid (isRowB (us zs) = true → ∀ n, Calls Try.prog 88 #[.slice p zs.length cap] (w.drewN n) fun e w' => (∃ r, e = .returned (.float .f32 r) ∧ Fl .f32 r (entV (us zs))) ∧ Dr (w.drewN n) w') := fun hr n => l02Entropy_any p cap zs (w.drewN n) (hs.drewN n) hz hm
  clear hs hz
  generalize entV (us zs) = v at *
  generalize isRowB (us zs) = b at *
  cases b
  · go_enter Try.func47, Try.ntmps47
    go_wp2_with (first | (go_at_call 68; refine HA.out.mono ?_; rintro e w' ⟨rfl, n, rfl⟩))
    go_ret2
    exact ⟨⟨_, by rw [HB.out]; rfl, by rw [HV.out]; exact fz32⟩, _, rfl⟩
  · have HCC := hid (HC.out rfl)
    clear HC
    go_enter Try.func47, Try.ntmps47
    go_wp2_with (first | (go_at_call 68; refine HA.out.mono ?_; rintro e w' ⟨rfl, n, rfl⟩) | (go_at_call 88; refine (HCC.out _).mono ?_; rintro e w' ⟨⟨r2, rfl, hr2⟩, n2, rfl⟩) | (go_at_call 85; refine (l02Number_any _ _ (by assumption) _).mono ?_; rintro e w' ⟨⟨r3, rfl, hr3⟩, n3, rfl⟩))
    go_ret2
    exact ⟨⟨_, by rw [HB.out]; rfl, by rw [HV.out]; assumption⟩, _, rfl⟩
end Go.Proofs.Ytkmodgkkldcpkaa
