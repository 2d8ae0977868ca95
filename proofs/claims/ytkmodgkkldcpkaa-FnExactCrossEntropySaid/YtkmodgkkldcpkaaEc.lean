/-
  SUMS OVER TWO ROWS: the walks. Printed by wip/tools/gen_rows.py 2. Own work.
-/
import Derived.Test.YtkmodgkkldcpkaaEb
namespace Go.Proofs.Ytkmodgkkldcpkaa
open Go.RowKit
attribute [local go_sem] opS fineS givesS


/-! ### Two rows -/
def covB (a b : List Nat) : Bool := (a.zip b).all fun x => !(fcmp .gtr .f32 x.1 0 && fcmp .eql .f32 x.2 0)
theorem zip_get {a b : List Nat} {k : Nat} (hk : k < a.length) (hl : a.length = b.length) : (a.zip b)[k]? = some (a.getD k 0, b.getD k 0) := by
  rw [List.getElem?_zip_eq_some]
  refine ⟨?_, ?_⟩
  · rw [List.getElem?_eq_getElem hk]; simp [List.getD, hk]
  · rw [List.getElem?_eq_getElem (by omega : k < b.length)]; simp [List.getD, show k < b.length by omega]
theorem covB_bad {a b : List Nat} {k : Nat} (hk : k < a.length) (hl : a.length = b.length) (h1 : fcmp .gtr .f32 (a.getD k 0) 0 = true) (h2 : fcmp .eql .f32 (b.getD k 0) 0 = true) : covB a b = false := by
  have hm := List.mem_of_getElem? (zip_get hk hl)
  cases hc : covB a b
  · rfl
  · unfold covB at hc
    have := List.all_eq_true.1 hc _ hm
    dsimp only at this
    rw [h1, h2] at this
    exact absurd this (by decide)
theorem covB_all {a b : List Nat} (hl : a.length = b.length) (h : ∀ j, j < a.length → (fcmp .gtr .f32 (a.getD j 0) 0 && fcmp .eql .f32 (b.getD j 0) 0) = false) : covB a b = true := by
  unfold covB
  rw [List.all_eq_true]
  intro x hx
  obtain ⟨j, hj⟩ := List.getElem?_of_mem hx
  have hja : j < a.length := by
    have := (List.getElem?_eq_some_iff.1 hj).1
    simp at this; omega
  rw [zip_get hja hl] at hj
  cases hj
  have := h j hja
  simp only [this]; rfl

set_option maxHeartbeats 800000 in
theorem covers_any (p q : Option Addr) (c1 c2 : Nat) (xs ys : List Nat) (w : World) (hs : SL (.float .f32) 0 w p xs) (hz : ∀ z ∈ xs, z < 4294967296) (hs2 : SL (.float .f32) 0 w q ys) (hz2 : ∀ z ∈ ys, z < 4294967296) (hm : xs.length ≤ 1048576) (hl : xs.length = ys.length) (hg : ∀ j, j < xs.length → goodU ((us xs).getD j 0) = true) :
    Calls Try.prog 92 #[.slice p xs.length c1, .slice q ys.length c2] w fun e w' => e = .returned (.bool (covB (us xs) (us ys))) ∧ Dr w w' := by
  have HS := hid hs
  have HZ := hid hz
  have HS2 := hid hs2
  have HZ2 := hid hz2
  have HL := hid hl
  rw [← hl]
  have HG := hid hg
  clear hs hz hs2 hz2 hl hg
  have h0 := fz32
  go_enter Try.func92, Try.ntmps92
  go_wp2
  go_loopw [9] (fun i wr => ∃ k : Nat, k ≤ xs.length ∧ i = .int .i64 k ∧ Hid (∀ j, j < k → (fcmp .gtr .f32 ((us xs).getD j 0) 0 && fcmp .eql .f32 ((us ys).getD j 0) 0) = false) ∧ ∃ n, wr = w.drewN n) (fun i _ => xs.length - (intOf i).toNat)
  case atStart => exact ⟨0, Nat.zero_le _, rfl, fun j hj => absurd hj (Nat.not_lt_zero _), 0, rfl⟩
  case round =>
    obtain ⟨k, hk, rfl, HA, n, rfl⟩ := hrel
    by_cases hlt : k < xs.length
    · obtain ⟨b, off, rfl, hc⟩ := HS.out k hlt
      obtain ⟨b2, off2, rfl, hc2⟩ := HS2.out k (by rw [← HL.out]; exact hlt)
      have hI : (k : Int) < (xs.length : Int) := by omega
      have f1 := us_fl HZ.out hlt
      have f3 := us_fl HZ2.out (by rw [← HL.out]; exact hlt)
      have hne := good_ne (HG.out k hlt)
      have HB := hid (fun h1 h2 => covB_bad (a := us xs) (b := us ys) (k := k) (by rw [us_len]; exact hlt) (by rw [us_len, us_len]; exact HL.out) h1 h2)
      have HN : Hid ((fcmp .gtr .f32 ((us xs).getD k 0) 0 && fcmp .eql .f32 ((us ys).getD k 0) 0) = false → ∀ j, j < k + 1 → (fcmp .gtr .f32 ((us xs).getD j 0) 0 && fcmp .eql .f32 ((us ys).getD j 0) 0) = false) := fun hg j hj => by
        by_cases e : j = k
        · subst e; exact hg
        · exact HA.out j (by omega)
      generalize (us xs).getD k 0 = u at *
      generalize xs.getD k 0 = x at *
      generalize (us ys).getD k 0 = u2 at *
      generalize ys.getD k 0 = x2 at *
      cases c1 : fcmp .gtr .f32 u 0
      · rw [c1] at hne
        have HNN := hid (HN.out (by rw [c1]; rfl))
        clear HN HB
        go_wp2_with (first | (refine wpList_farith rfl _ _ _ _ _ rfl _ _ _ rfl rfl (by decide) (by assumption) (by assumption) ?_; intro _ _ _) | (refine wpList_fcmp rfl _ _ _ _ _ rfl _ _ _ rfl rfl (by decide) (by assumption) (by assumption) (by first | assumption | rfl) ?_))
        go_roundw
        case rel => exact ⟨k + 1, by omega, by go_num, HNN, _, rfl⟩
        case measure => simp [intOf]; omega
      · rw [c1] at hne
        cases c2 : fcmp .eql .f32 u2 0
        · have HNN := hid (HN.out (by rw [c1, c2]; rfl))
          clear HN HB
          go_wp2_with (first | (refine wpList_farith rfl _ _ _ _ _ rfl _ _ _ rfl rfl (by decide) (by assumption) (by assumption) ?_; intro _ _ _) | (refine wpList_fcmp rfl _ _ _ _ _ rfl _ _ _ rfl rfl (by decide) (by assumption) (by assumption) (by first | assumption | rfl) ?_))
          go_roundw
          case rel => exact ⟨k + 1, by omega, by go_num, HNN, _, rfl⟩
          case measure => simp [intOf]; omega
        · have HBB := hid (HB.out c1 c2)
          clear HN HB
          go_wp2_with (first | (refine wpList_farith rfl _ _ _ _ _ rfl _ _ _ rfl rfl (by decide) (by assumption) (by assumption) ?_; intro _ _ _) | (refine wpList_fcmp rfl _ _ _ _ _ rfl _ _ _ rfl rfl (by decide) (by assumption) (by assumption) (by first | assumption | rfl) ?_))
          go_ret
          exact ⟨by rw [HBB.out]; rfl, _, rfl⟩
    · have HK := hid (covB_all (a := us xs) (b := us ys) (by rw [us_len, us_len]; exact HL.out) (fun j hj => HA.out j (by rw [us_len] at hj; omega)))
      go_wp2
      go_ret
      exact ⟨by rw [HK.out]; rfl, _, rfl⟩
set_option maxHeartbeats 800000 in
theorem l02Covers_any (p q : Option Addr) (c1 c2 : Nat) (xs ys : List Nat) (w : World) (hs : SL (.float .f32) 0 w p xs) (hz : ∀ z ∈ xs, z < 4294967296) (hs2 : SL (.float .f32) 0 w q ys) (hz2 : ∀ z ∈ ys, z < 4294967296) (hm : xs.length ≤ 1048576) (hl : xs.length = ys.length) :
    Calls Try.prog 90 #[.slice p xs.length c1, .slice q ys.length c2] w fun e w' => e = .returned (.bool (covB (us xs) (us ys))) ∧ Dr w w' := by
  have HS := hid hs
  have HZ := hid hz
  have HS2 := hid hs2
  have HZ2 := hid hz2
  have HL := hid hl
  rw [← hl]
  skip
  clear hs hz hs2 hz2 hl
  have h0 := fz32
  go_enter Try.func90, Try.ntmps90
  go_wp2
  go_loopw [5] (fun i wr => ∃ k : Nat, k ≤ xs.length ∧ i = .int .i64 k ∧ Hid (∀ j, j < k → (fcmp .gtr .f32 ((us xs).getD j 0) 0 && fcmp .eql .f32 ((us ys).getD j 0) 0) = false) ∧ ∃ n, wr = w.drewN n) (fun i _ => xs.length - (intOf i).toNat)
  case atStart => exact ⟨0, Nat.zero_le _, rfl, fun j hj => absurd hj (Nat.not_lt_zero _), 0, rfl⟩
  case round =>
    obtain ⟨k, hk, rfl, HA, n, rfl⟩ := hrel
    by_cases hlt : k < xs.length
    · obtain ⟨b, off, rfl, hc⟩ := HS.out k hlt
      obtain ⟨b2, off2, rfl, hc2⟩ := HS2.out k (by rw [← HL.out]; exact hlt)
      have hI : (k : Int) < (xs.length : Int) := by omega
      have f1 := us_fl HZ.out hlt
      have f3 := us_fl HZ2.out (by rw [← HL.out]; exact hlt)
      skip
      have HB := hid (fun h1 h2 => covB_bad (a := us xs) (b := us ys) (k := k) (by rw [us_len]; exact hlt) (by rw [us_len, us_len]; exact HL.out) h1 h2)
      have HN : Hid ((fcmp .gtr .f32 ((us xs).getD k 0) 0 && fcmp .eql .f32 ((us ys).getD k 0) 0) = false → ∀ j, j < k + 1 → (fcmp .gtr .f32 ((us xs).getD j 0) 0 && fcmp .eql .f32 ((us ys).getD j 0) 0) = false) := fun hg j hj => by
        by_cases e : j = k
        · subst e; exact hg
        · exact HA.out j (by omega)
      generalize (us xs).getD k 0 = u at *
      generalize xs.getD k 0 = x at *
      generalize (us ys).getD k 0 = u2 at *
      generalize ys.getD k 0 = x2 at *
      cases c1 : fcmp .gtr .f32 u 0
      · skip
        have HNN := hid (HN.out (by rw [c1]; rfl))
        clear HN HB
        go_wp2_with (first | (refine wpList_farith rfl _ _ _ _ _ rfl _ _ _ rfl rfl (by decide) (by assumption) (by assumption) ?_; intro _ _ _) | (refine wpList_fcmp rfl _ _ _ _ _ rfl _ _ _ rfl rfl (by decide) (by assumption) (by assumption) (by first | assumption | rfl) ?_))
        go_roundw
        case rel => exact ⟨k + 1, by omega, by go_num, HNN, _, rfl⟩
        case measure => simp [intOf]; omega
      · skip
        cases c2 : fcmp .eql .f32 u2 0
        · have HNN := hid (HN.out (by rw [c1, c2]; rfl))
          clear HN HB
          go_wp2_with (first | (refine wpList_farith rfl _ _ _ _ _ rfl _ _ _ rfl rfl (by decide) (by assumption) (by assumption) ?_; intro _ _ _) | (refine wpList_fcmp rfl _ _ _ _ _ rfl _ _ _ rfl rfl (by decide) (by assumption) (by assumption) (by first | assumption | rfl) ?_))
          go_roundw
          case rel => exact ⟨k + 1, by omega, by go_num, HNN, _, rfl⟩
          case measure => simp [intOf]; omega
        · have HBB := hid (HB.out c1 c2)
          clear HN HB
          go_wp2_with (first | (refine wpList_farith rfl _ _ _ _ _ rfl _ _ _ rfl rfl (by decide) (by assumption) (by assumption) ?_; intro _ _ _) | (refine wpList_fcmp rfl _ _ _ _ _ rfl _ _ _ rfl rfl (by decide) (by assumption) (by assumption) (by first | assumption | rfl) ?_))
          go_ret
          exact ⟨by rw [HBB.out]; rfl, _, rfl⟩
    · have HK := hid (covB_all (a := us xs) (b := us ys) (by rw [us_len, us_len]; exact HL.out) (fun j hj => HA.out j (by rw [us_len] at hj; omega)))
      go_wp2
      go_ret
      exact ⟨by rw [HK.out]; rfl, _, rfl⟩

def crS (s a b : Nat) : Nat := if fcmp .gtr .f32 a 0 then fbin .add .f32 s (fbin .mul .f32 a (bitsV b)) else s
def crT (l m : List Nat) : Nat := fbin .sub .f32 0 (fold2 crS l m)
def crB (a b : List Nat) : Bool := (twoB a b && covB a b) && finB (crT a b)
def crV (a b : List Nat) : Nat := if twoB a b && covB a b then numV (crT a b) else 0
def moS (s a b : Nat) : Nat := if fcmp .gtr .f32 a 0 then fbin .add .f32 s (fbin .mul .f32 a (fbin .sub .f32 (bitsV a) (bitsV b))) else s
def moT (l m : List Nat) : Nat := fold2 moS l m
def moB (a b : List Nat) : Bool := (twoB a b && covB a b) && finB (moT a b)
def moV (a b : List Nat) : Nat := if twoB a b && covB a b then numV (moT a b) else 0

set_option maxHeartbeats 1600000 in
theorem CrossEntropy_any (p q : Option Addr) (c1 c2 : Nat) (xs ys : List Nat) (w : World) (hs : SL (.float .f32) 0 w p xs) (hz : ∀ z ∈ xs, z < 4294967296) (hs2 : SL (.float .f32) 0 w q ys) (hz2 : ∀ z ∈ ys, z < 4294967296) (hm : xs.length ≤ 1048576) (hm2 : ys.length ≤ 1048576) :
    Calls Try.prog 50 #[.slice p xs.length c1, .slice q ys.length c2] w fun e w' => (∃ r, e = .returned (.tuple #[.float .f32 r, .bool (crB (us xs) (us ys))]) ∧ Fl .f32 r (crV (us xs) (us ys))) ∧ Dr w w' := by
  have HA := hid (areRows_any p q c1 c2 xs ys w hs hz hs2 hz2 hm hm2)
  have HB : Hid (crB (us xs) (us ys) = ((twoB (us xs) (us ys) && covB (us xs) (us ys)) && finB (crT (us xs) (us ys)))) := rfl
  have HV : Hid (crV (us xs) (us ys) = if twoB (us xs) (us ys) && covB (us xs) (us ys) then numV (crT (us xs) (us ys)) else 0) := rfl
  have h0 := fz32
  by_cases ht : twoB (us xs) (us ys) = true
  · obtain ⟨t1, t2, t3⟩ := twoB_parts ht
    rw [us_len, us_len] at t3
    have HG := hid (fun j (hj : j < xs.length) => row_good t1 (by rw [us_len]; exact hj))
    have HCV := hid (fun n => covers_any p q c1 c2 xs ys (w.drewN n) (hs.drewN n) hz (hs2.drewN n) hz2 hm t3 HG.out)
    rw [ht] at HA HB HV
    have HS := hid hs
    have HZ := hid hz
    have HS2 := hid hs2
    have HZ2 := hid hz2
    have HL := hid t3
    clear hs hz hs2 hz2 t1 t2 t3 ht
    cases hcv : covB (us xs) (us ys)
    · rw [hcv] at HCV HB HV
      clear hcv
      go_enter Try.func50, Try.ntmps50
      go_wp2_with (fail)
      refine HA.out.mono ?_
      rintro e w' ⟨rfl, n, rfl⟩
      go_wp2_with (fail)
      refine (HCV.out _).mono ?_
      rintro e w' ⟨rfl, n2, rfl⟩
      go_wp2_with (fail)
      go_ret2
      exact ⟨⟨_, by rw [HB.out]; rfl, by rw [HV.out]; exact h0⟩, _, rfl⟩
    · rw [hcv] at HCV HB HV
      clear hcv
      have HL2 : Hid ((ys.length : Int) = xs.length) := by have := HL.out; unfold Hid; omega
      go_enter Try.func50, Try.ntmps50
      go_wp2_with (fail)
      refine HA.out.mono ?_
      rintro e w' ⟨rfl, n, rfl⟩
      go_wp2_with (fail)
      refine (HCV.out _).mono ?_
      rintro e w' ⟨rfl, n2, rfl⟩
      go_wp2_with (fail)
      clear HA HCV
      go_loopw [6, 21] (fun s i wr => ∃ k r : Nat, k ≤ xs.length ∧ i = .int .i64 k ∧ s = .float .f32 r ∧ Hid (Fl .f32 r (fold2 crS ((us xs).take k) ((us ys).take k))) ∧ ∃ n, wr = w.drewN n) (fun _ i _ => xs.length - (intOf i).toNat)
      case atStart => exact ⟨0, 0, Nat.zero_le _, rfl, rfl, h0, _, rfl⟩
      case round =>
        obtain ⟨k, r, hk, rfl, rfl, HF, n, rfl⟩ := hrel
        by_cases hlt : k < xs.length
        · obtain ⟨b, off, rfl, hc⟩ := HS.out k hlt
          have hlt2 : k < ys.length := by rw [← HL.out]; exact hlt
          obtain ⟨b2, off2, rfl, hc2⟩ := HS2.out k hlt2
          have hI : (k : Int) < (xs.length : Int) := by omega
          have hI2 : (k : Int) < (ys.length : Int) := by omega
          have f1 := us_fl HZ.out hlt
          have f3 := us_fl HZ2.out hlt2
          have HT := hid (fold2_succ crS (us xs) (us ys) k (by rw [us_len]; exact hlt) (by rw [us_len, us_len]; exact HL.out))
          have hne := good_ne (HG.out k hlt)
          have f2 : Fl .f32 r (fold2 crS ((us xs).take k) ((us ys).take k)) := HF.out
          generalize (us xs).getD k 0 = u at *
          generalize xs.getD k 0 = x at *
          generalize (us ys).getD k 0 = u2 at *
          generalize ys.getD k 0 = x2 at *
          generalize fold2 crS ((us xs).take k) ((us ys).take k) = v at *
          have HE : Hid (crS v u u2 = if fcmp .gtr .f32 u 0 then fbin .add .f32 v (fbin .mul .f32 u (bitsV u2)) else v) := rfl
          cases hb : fcmp .gtr .f32 u 0
          · rw [hb] at hne
            have HE2 := HE.out
            rw [hb] at HE2
            simp only [if_false, Bool.false_eq_true] at HE2
            have HE3 := hid HE2
            clear HE HE2
            go_wp2_with (first | (refine wpList_farith rfl _ _ _ _ _ rfl _ _ _ rfl rfl (by decide) (by assumption) (by assumption) ?_; intro _ _ _) | (refine wpList_fcmp rfl _ _ _ _ _ rfl _ _ _ rfl rfl (by decide) (by assumption) (by assumption) (by first | assumption | rfl) ?_))
            go_roundw
            case rel => exact ⟨k + 1, _, by omega, by go_num, rfl, by unfold Hid; rw [HT.out, HE3.out]; assumption, _, rfl⟩
            case measure => simp [intOf]; omega
          · rw [hb] at hne
            have HE2 := HE.out
            rw [hb] at HE2
            simp only [if_true] at HE2
            have HE3 := hid HE2
            clear HE HE2
            go_wp2_with (first | (refine wpList_farith rfl _ _ _ _ _ rfl _ _ _ rfl rfl (by decide) (by assumption) (by assumption) ?_; intro _ _ _) | (refine wpList_fcmp rfl _ _ _ _ _ rfl _ _ _ rfl rfl (by decide) (by assumption) (by assumption) (by first | assumption | rfl) ?_))
            refine (bitsOf_any _ _ f3 _).mono ?_
            rintro e w' ⟨⟨r2, rfl, hr2⟩, n2, rfl⟩
            go_wp2_with (first | (refine wpList_farith rfl _ _ _ _ _ rfl _ _ _ rfl rfl (by decide) (by assumption) (by assumption) ?_; intro _ _ _) | (refine wpList_fcmp rfl _ _ _ _ _ rfl _ _ _ rfl rfl (by decide) (by assumption) (by assumption) (by first | assumption | rfl) ?_))
            go_roundw
            case rel => exact ⟨k + 1, _, by omega, by go_num, rfl, by unfold Hid; rw [HT.out, HE3.out]; assumption, _, rfl⟩
            case measure => simp [intOf]; omega
        · have HK := hid (show k = xs.length by omega)
          have f2 : Fl .f32 r (fold2 crS (us xs) (us ys)) := by
            have h := HF.out
            rw [HK.out, ← us_len xs, List.take_length, us_len, HL.out, ← us_len ys, List.take_length] at h
            exact h
          have HVT : Hid (crT (us xs) (us ys) = fbin .sub .f32 0 (fold2 crS (us xs) (us ys))) := rfl
          generalize fold2 crS (us xs) (us ys) = v at *
          generalize crT (us xs) (us ys) = tv at *
          clear HF HS HS2
          go_wp2_with (first | (refine wpList_farith rfl _ _ _ _ _ rfl _ _ _ rfl rfl (by decide) (by assumption) (by assumption) ?_; intro _ _ _) | (refine wpList_fcmp rfl _ _ _ _ _ rfl _ _ _ rfl rfl (by decide) (by assumption) (by assumption) (by first | assumption | rfl) ?_) | (go_at_call 87; refine (asNumber_any _ tv (by rw [HVT.out]; assumption) _).mono ?_; rintro e w' ⟨⟨r3, rfl, hr3⟩, n3, rfl⟩))
          go_ret2
          exact ⟨⟨_, by rw [HB.out]; rfl, by rw [HV.out]; assumption⟩, _, rfl⟩
  · have ht : twoB (us xs) (us ys) = false := by cases h : twoB (us xs) (us ys) <;> simp_all
    rw [ht] at HA HB HV
    clear hs hz hs2 hz2 ht
    go_enter Try.func50, Try.ntmps50
    go_wp2_with (fail)
    refine HA.out.mono ?_
    rintro e w' ⟨rfl, n, rfl⟩
    go_wp2_with (fail)
    go_ret2
    exact ⟨⟨_, by rw [HB.out]; rfl, by rw [HV.out]; exact h0⟩, _, rfl⟩
set_option maxHeartbeats 1600000 in
theorem sCrossEntropy_any (p q : Option Addr) (c1 c2 : Nat) (xs ys : List Nat) (w : World) (hs : SL (.float .f32) 0 w p xs) (hz : ∀ z ∈ xs, z < 4294967296) (hs2 : SL (.float .f32) 0 w q ys) (hz2 : ∀ z ∈ ys, z < 4294967296) (hm : xs.length ≤ 1048576) (hm2 : ys.length ≤ 1048576) :
    Calls Try.prog 49 #[.slice p xs.length c1, .slice q ys.length c2] w fun e w' => (∃ r, e = .returned (.tuple #[.float .f32 r, .bool (crB (us xs) (us ys))]) ∧ Fl .f32 r (crV (us xs) (us ys))) ∧ Dr w w' := by
  have HA := hid (l02Two_any p q c1 c2 xs ys w hs hz hs2 hz2 hm hm2)
  have HB : Hid (crB (us xs) (us ys) = ((twoB (us xs) (us ys) && covB (us xs) (us ys)) && finB (crT (us xs) (us ys)))) := rfl
  have HV : Hid (crV (us xs) (us ys) = if twoB (us xs) (us ys) && covB (us xs) (us ys) then numV (crT (us xs) (us ys)) else 0) := rfl
  have h0 := fz32
  by_cases ht : twoB (us xs) (us ys) = true
  · obtain ⟨t1, t2, t3⟩ := twoB_parts ht
    rw [us_len, us_len] at t3
    skip
    have HCV := hid (fun n => l02Covers_any p q c1 c2 xs ys (w.drewN n) (hs.drewN n) hz (hs2.drewN n) hz2 hm t3)
    rw [ht] at HA HB HV
    have HS := hid hs
    have HZ := hid hz
    have HS2 := hid hs2
    have HZ2 := hid hz2
    have HL := hid t3
    clear hs hz hs2 hz2 t1 t2 t3 ht
    cases hcv : covB (us xs) (us ys)
    · rw [hcv] at HCV HB HV
      clear hcv
      go_enter Try.func49, Try.ntmps49
      go_wp2_with (fail)
      refine HA.out.mono ?_
      rintro e w' ⟨rfl, n, rfl⟩
      go_wp2_with (fail)
      refine (HCV.out _).mono ?_
      rintro e w' ⟨rfl, n2, rfl⟩
      go_wp2_with (fail)
      go_ret2
      exact ⟨⟨_, by rw [HB.out]; rfl, by rw [HV.out]; exact h0⟩, _, rfl⟩
    · rw [hcv] at HCV HB HV
      clear hcv
      have HL2 : Hid ((ys.length : Int) = xs.length) := by have := HL.out; unfold Hid; omega
      go_enter Try.func49, Try.ntmps49
      go_wp2_with (fail)
      refine HA.out.mono ?_
      rintro e w' ⟨rfl, n, rfl⟩
      go_wp2_with (fail)
      refine (HCV.out _).mono ?_
      rintro e w' ⟨rfl, n2, rfl⟩
      go_wp2_with (fail)
      clear HA HCV
      go_loopw [6, 7] (fun s i wr => ∃ k r : Nat, k ≤ xs.length ∧ i = .int .i64 k ∧ s = .float .f32 r ∧ Hid (Fl .f32 r (fold2 crS ((us xs).take k) ((us ys).take k))) ∧ ∃ n, wr = w.drewN n) (fun _ i _ => xs.length - (intOf i).toNat)
      case atStart => exact ⟨0, 0, Nat.zero_le _, rfl, rfl, h0, _, rfl⟩
      case round =>
        obtain ⟨k, r, hk, rfl, rfl, HF, n, rfl⟩ := hrel
        by_cases hlt : k < xs.length
        · obtain ⟨b, off, rfl, hc⟩ := HS.out k hlt
          have hlt2 : k < ys.length := by rw [← HL.out]; exact hlt
          obtain ⟨b2, off2, rfl, hc2⟩ := HS2.out k hlt2
          have hI : (k : Int) < (xs.length : Int) := by omega
          have hI2 : (k : Int) < (ys.length : Int) := by omega
          have f1 := us_fl HZ.out hlt
          have f3 := us_fl HZ2.out hlt2
          have HT := hid (fold2_succ crS (us xs) (us ys) k (by rw [us_len]; exact hlt) (by rw [us_len, us_len]; exact HL.out))
          skip
          have f2 : Fl .f32 r (fold2 crS ((us xs).take k) ((us ys).take k)) := HF.out
          generalize (us xs).getD k 0 = u at *
          generalize xs.getD k 0 = x at *
          generalize (us ys).getD k 0 = u2 at *
          generalize ys.getD k 0 = x2 at *
          generalize fold2 crS ((us xs).take k) ((us ys).take k) = v at *
          have HE : Hid (crS v u u2 = if fcmp .gtr .f32 u 0 then fbin .add .f32 v (fbin .mul .f32 u (bitsV u2)) else v) := rfl
          cases hb : fcmp .gtr .f32 u 0
          · skip
            have HE2 := HE.out
            rw [hb] at HE2
            simp only [if_false, Bool.false_eq_true] at HE2
            have HE3 := hid HE2
            clear HE HE2
            go_wp2_with (first | (refine wpList_farith rfl _ _ _ _ _ rfl _ _ _ rfl rfl (by decide) (by assumption) (by assumption) ?_; intro _ _ _) | (refine wpList_fcmp rfl _ _ _ _ _ rfl _ _ _ rfl rfl (by decide) (by assumption) (by assumption) (by first | assumption | rfl) ?_))
            go_roundw
            case rel => exact ⟨k + 1, _, by omega, by go_num, rfl, by unfold Hid; rw [HT.out, HE3.out]; assumption, _, rfl⟩
            case measure => simp [intOf]; omega
          · skip
            have HE2 := HE.out
            rw [hb] at HE2
            simp only [if_true] at HE2
            have HE3 := hid HE2
            clear HE HE2
            go_wp2_with (first | (refine wpList_farith rfl _ _ _ _ _ rfl _ _ _ rfl rfl (by decide) (by assumption) (by assumption) ?_; intro _ _ _) | (refine wpList_fcmp rfl _ _ _ _ _ rfl _ _ _ rfl rfl (by decide) (by assumption) (by assumption) (by first | assumption | rfl) ?_))
            refine wp_region_mixN (callG bitsV) (by kernel_rfl) (by kernel_rfl) ?_
            simp only [List.map_cons, List.map_nil]
            repeat (refine mixS_step (fun K hK => ?_); first | (refine opS_farith rfl _ _ _ _ _ rfl _ _ _ rfl rfl (by decide) (by assumption) (by assumption) ?_; intro _ _; refine hK _ ?_; clear hK K) | (go_simp; refine hK _ ?_; clear hK K) | (refine opS_callf (f := 91) (x := x2) (u := u2) rfl ?_ f3 (fun w' => l02Bits_any _ _ f3 w') ?_; (focus intro w'; go_simp; done); intro _ _; refine hK _ ?_; clear hK K))
            refine mixS_nil ?_
            rintro w' ⟨m, rfl⟩
            go_wp2
            go_roundw
            case rel => exact ⟨k + 1, _, by omega, by go_num, rfl, by unfold Hid; rw [HT.out, HE3.out]; assumption, _, rfl⟩
            case measure => simp [intOf]; omega
        · have HK := hid (show k = xs.length by omega)
          have f2 : Fl .f32 r (fold2 crS (us xs) (us ys)) := by
            have h := HF.out
            rw [HK.out, ← us_len xs, List.take_length, us_len, HL.out, ← us_len ys, List.take_length] at h
            exact h
          have HVT : Hid (crT (us xs) (us ys) = fbin .sub .f32 0 (fold2 crS (us xs) (us ys))) := rfl
          generalize fold2 crS (us xs) (us ys) = v at *
          generalize crT (us xs) (us ys) = tv at *
          clear HF HS HS2
          go_wp2_with (first | (refine wpList_farith rfl _ _ _ _ _ rfl _ _ _ rfl rfl (by decide) (by assumption) (by assumption) ?_; intro _ _ _) | (refine wpList_fcmp rfl _ _ _ _ _ rfl _ _ _ rfl rfl (by decide) (by assumption) (by assumption) (by first | assumption | rfl) ?_) | (go_at_call 85; refine (l02Number_any _ tv (by rw [HVT.out]; assumption) _).mono ?_; rintro e w' ⟨⟨r3, rfl, hr3⟩, n3, rfl⟩))
          go_ret2
          exact ⟨⟨_, by rw [HB.out]; rfl, by rw [HV.out]; assumption⟩, _, rfl⟩
  · have ht : twoB (us xs) (us ys) = false := by cases h : twoB (us xs) (us ys) <;> simp_all
    rw [ht] at HA HB HV
    clear hs hz hs2 hz2 ht
    go_enter Try.func49, Try.ntmps49
    go_wp2_with (fail)
    refine HA.out.mono ?_
    rintro e w' ⟨rfl, n, rfl⟩
    go_wp2_with (fail)
    go_ret2
    exact ⟨⟨_, by rw [HB.out]; rfl, by rw [HV.out]; exact h0⟩, _, rfl⟩
set_option maxHeartbeats 1600000 in
theorem MoreBits_any (p q : Option Addr) (c1 c2 : Nat) (xs ys : List Nat) (w : World) (hs : SL (.float .f32) 0 w p xs) (hz : ∀ z ∈ xs, z < 4294967296) (hs2 : SL (.float .f32) 0 w q ys) (hz2 : ∀ z ∈ ys, z < 4294967296) (hm : xs.length ≤ 1048576) (hm2 : ys.length ≤ 1048576) :
    Calls Try.prog 52 #[.slice p xs.length c1, .slice q ys.length c2] w fun e w' => (∃ r, e = .returned (.tuple #[.float .f32 r, .bool (moB (us xs) (us ys))]) ∧ Fl .f32 r (moV (us xs) (us ys))) ∧ Dr w w' := by
  have HA := hid (areRows_any p q c1 c2 xs ys w hs hz hs2 hz2 hm hm2)
  have HB : Hid (moB (us xs) (us ys) = ((twoB (us xs) (us ys) && covB (us xs) (us ys)) && finB (moT (us xs) (us ys)))) := rfl
  have HV : Hid (moV (us xs) (us ys) = if twoB (us xs) (us ys) && covB (us xs) (us ys) then numV (moT (us xs) (us ys)) else 0) := rfl
  have h0 := fz32
  by_cases ht : twoB (us xs) (us ys) = true
  · obtain ⟨t1, t2, t3⟩ := twoB_parts ht
    rw [us_len, us_len] at t3
    have HG := hid (fun j (hj : j < xs.length) => row_good t1 (by rw [us_len]; exact hj))
    have HCV := hid (fun n => covers_any p q c1 c2 xs ys (w.drewN n) (hs.drewN n) hz (hs2.drewN n) hz2 hm t3 HG.out)
    rw [ht] at HA HB HV
    have HS := hid hs
    have HZ := hid hz
    have HS2 := hid hs2
    have HZ2 := hid hz2
    have HL := hid t3
    clear hs hz hs2 hz2 t1 t2 t3 ht
    cases hcv : covB (us xs) (us ys)
    · rw [hcv] at HCV HB HV
      clear hcv
      go_enter Try.func52, Try.ntmps52
      go_wp2_with (fail)
      refine HA.out.mono ?_
      rintro e w' ⟨rfl, n, rfl⟩
      go_wp2_with (fail)
      refine (HCV.out _).mono ?_
      rintro e w' ⟨rfl, n2, rfl⟩
      go_wp2_with (fail)
      go_ret2
      exact ⟨⟨_, by rw [HB.out]; rfl, by rw [HV.out]; exact h0⟩, _, rfl⟩
    · rw [hcv] at HCV HB HV
      clear hcv
      have HL2 : Hid ((ys.length : Int) = xs.length) := by have := HL.out; unfold Hid; omega
      go_enter Try.func52, Try.ntmps52
      go_wp2_with (fail)
      refine HA.out.mono ?_
      rintro e w' ⟨rfl, n, rfl⟩
      go_wp2_with (fail)
      refine (HCV.out _).mono ?_
      rintro e w' ⟨rfl, n2, rfl⟩
      go_wp2_with (fail)
      clear HA HCV
      go_loopw [6, 21] (fun s i wr => ∃ k r : Nat, k ≤ xs.length ∧ i = .int .i64 k ∧ s = .float .f32 r ∧ Hid (Fl .f32 r (fold2 moS ((us xs).take k) ((us ys).take k))) ∧ ∃ n, wr = w.drewN n) (fun _ i _ => xs.length - (intOf i).toNat)
      case atStart => exact ⟨0, 0, Nat.zero_le _, rfl, rfl, h0, _, rfl⟩
      case round =>
        obtain ⟨k, r, hk, rfl, rfl, HF, n, rfl⟩ := hrel
        by_cases hlt : k < xs.length
        · obtain ⟨b, off, rfl, hc⟩ := HS.out k hlt
          have hlt2 : k < ys.length := by rw [← HL.out]; exact hlt
          obtain ⟨b2, off2, rfl, hc2⟩ := HS2.out k hlt2
          have hI : (k : Int) < (xs.length : Int) := by omega
          have hI2 : (k : Int) < (ys.length : Int) := by omega
          have f1 := us_fl HZ.out hlt
          have f3 := us_fl HZ2.out hlt2
          have HT := hid (fold2_succ moS (us xs) (us ys) k (by rw [us_len]; exact hlt) (by rw [us_len, us_len]; exact HL.out))
          have hne := good_ne (HG.out k hlt)
          have f2 : Fl .f32 r (fold2 moS ((us xs).take k) ((us ys).take k)) := HF.out
          generalize (us xs).getD k 0 = u at *
          generalize xs.getD k 0 = x at *
          generalize (us ys).getD k 0 = u2 at *
          generalize ys.getD k 0 = x2 at *
          generalize fold2 moS ((us xs).take k) ((us ys).take k) = v at *
          have HE : Hid (moS v u u2 = if fcmp .gtr .f32 u 0 then fbin .add .f32 v (fbin .mul .f32 u (fbin .sub .f32 (bitsV u) (bitsV u2))) else v) := rfl
          cases hb : fcmp .gtr .f32 u 0
          · rw [hb] at hne
            have HE2 := HE.out
            rw [hb] at HE2
            simp only [if_false, Bool.false_eq_true] at HE2
            have HE3 := hid HE2
            clear HE HE2
            go_wp2_with (first | (refine wpList_farith rfl _ _ _ _ _ rfl _ _ _ rfl rfl (by decide) (by assumption) (by assumption) ?_; intro _ _ _) | (refine wpList_fcmp rfl _ _ _ _ _ rfl _ _ _ rfl rfl (by decide) (by assumption) (by assumption) (by first | assumption | rfl) ?_))
            go_roundw
            case rel => exact ⟨k + 1, _, by omega, by go_num, rfl, by unfold Hid; rw [HT.out, HE3.out]; assumption, _, rfl⟩
            case measure => simp [intOf]; omega
          · rw [hb] at hne
            have HE2 := HE.out
            rw [hb] at HE2
            simp only [if_true] at HE2
            have HE3 := hid HE2
            clear HE HE2
            go_wp2_with (first | (refine wpList_farith rfl _ _ _ _ _ rfl _ _ _ rfl rfl (by decide) (by assumption) (by assumption) ?_; intro _ _ _) | (refine wpList_fcmp rfl _ _ _ _ _ rfl _ _ _ rfl rfl (by decide) (by assumption) (by assumption) (by first | assumption | rfl) ?_))
            refine wp_region_mixN (callG bitsV) (by kernel_rfl) (by kernel_rfl) ?_
            simp only [List.map_cons, List.map_nil]
            repeat (refine mixS_step (fun K hK => ?_); first | (refine opS_farith rfl _ _ _ _ _ rfl _ _ _ rfl rfl (by decide) (by assumption) (by assumption) ?_; intro _ _; refine hK _ ?_; clear hK K) | (go_simp; refine hK _ ?_; clear hK K) | (refine opS_callf (f := 93) (x := x) (u := u) rfl ?_ f1 (fun w' => bitsOf_any _ _ f1 w') ?_; (focus intro w'; go_simp; done); intro _ _; refine hK _ ?_; clear hK K) | (refine opS_callf (f := 93) (x := x2) (u := u2) rfl ?_ f3 (fun w' => bitsOf_any _ _ f3 w') ?_; (focus intro w'; go_simp; done); intro _ _; refine hK _ ?_; clear hK K))
            refine mixS_nil ?_
            rintro w' ⟨m, rfl⟩
            go_wp2
            go_roundw
            case rel => exact ⟨k + 1, _, by omega, by go_num, rfl, by unfold Hid; rw [HT.out, HE3.out]; assumption, _, rfl⟩
            case measure => simp [intOf]; omega
        · have HK := hid (show k = xs.length by omega)
          have f2 : Fl .f32 r (fold2 moS (us xs) (us ys)) := by
            have h := HF.out
            rw [HK.out, ← us_len xs, List.take_length, us_len, HL.out, ← us_len ys, List.take_length] at h
            exact h
          have HVT : Hid (moT (us xs) (us ys) = fold2 moS (us xs) (us ys)) := rfl
          generalize fold2 moS (us xs) (us ys) = v at *
          generalize moT (us xs) (us ys) = tv at *
          clear HF HS HS2
          go_wp2_with (first | (refine wpList_farith rfl _ _ _ _ _ rfl _ _ _ rfl rfl (by decide) (by assumption) (by assumption) ?_; intro _ _ _) | (refine wpList_fcmp rfl _ _ _ _ _ rfl _ _ _ rfl rfl (by decide) (by assumption) (by assumption) (by first | assumption | rfl) ?_) | (go_at_call 87; refine (asNumber_any _ tv (by rw [HVT.out]; assumption) _).mono ?_; rintro e w' ⟨⟨r3, rfl, hr3⟩, n3, rfl⟩))
          go_ret2
          exact ⟨⟨_, by rw [HB.out]; rfl, by rw [HV.out]; assumption⟩, _, rfl⟩
  · have ht : twoB (us xs) (us ys) = false := by cases h : twoB (us xs) (us ys) <;> simp_all
    rw [ht] at HA HB HV
    clear hs hz hs2 hz2 ht
    go_enter Try.func52, Try.ntmps52
    go_wp2_with (fail)
    refine HA.out.mono ?_
    rintro e w' ⟨rfl, n, rfl⟩
    go_wp2_with (fail)
    go_ret2
    exact ⟨⟨_, by rw [HB.out]; rfl, by rw [HV.out]; exact h0⟩, _, rfl⟩
set_option maxHeartbeats 1600000 in
theorem sMoreBits_any (p q : Option Addr) (c1 c2 : Nat) (xs ys : List Nat) (w : World) (hs : SL (.float .f32) 0 w p xs) (hz : ∀ z ∈ xs, z < 4294967296) (hs2 : SL (.float .f32) 0 w q ys) (hz2 : ∀ z ∈ ys, z < 4294967296) (hm : xs.length ≤ 1048576) (hm2 : ys.length ≤ 1048576) :
    Calls Try.prog 51 #[.slice p xs.length c1, .slice q ys.length c2] w fun e w' => (∃ r, e = .returned (.tuple #[.float .f32 r, .bool (moB (us xs) (us ys))]) ∧ Fl .f32 r (moV (us xs) (us ys))) ∧ Dr w w' := by
  have HA := hid (l02Two_any p q c1 c2 xs ys w hs hz hs2 hz2 hm hm2)
  have HB : Hid (moB (us xs) (us ys) = ((twoB (us xs) (us ys) && covB (us xs) (us ys)) && finB (moT (us xs) (us ys)))) := rfl
  have HV : Hid (moV (us xs) (us ys) = if twoB (us xs) (us ys) && covB (us xs) (us ys) then numV (moT (us xs) (us ys)) else 0) := rfl
  have h0 := fz32
  by_cases ht : twoB (us xs) (us ys) = true
  · obtain ⟨t1, t2, t3⟩ := twoB_parts ht
    rw [us_len, us_len] at t3
    skip
    have HCV := hid (fun n => l02Covers_any p q c1 c2 xs ys (w.drewN n) (hs.drewN n) hz (hs2.drewN n) hz2 hm t3)
    rw [ht] at HA HB HV
    have HS := hid hs
    have HZ := hid hz
    have HS2 := hid hs2
    have HZ2 := hid hz2
    have HL := hid t3
    clear hs hz hs2 hz2 t1 t2 t3 ht
    cases hcv : covB (us xs) (us ys)
    · rw [hcv] at HCV HB HV
      clear hcv
      go_enter Try.func51, Try.ntmps51
      go_wp2_with (fail)
      refine HA.out.mono ?_
      rintro e w' ⟨rfl, n, rfl⟩
      go_wp2_with (fail)
      refine (HCV.out _).mono ?_
      rintro e w' ⟨rfl, n2, rfl⟩
      go_wp2_with (fail)
      go_ret2
      exact ⟨⟨_, by rw [HB.out]; rfl, by rw [HV.out]; exact h0⟩, _, rfl⟩
    · rw [hcv] at HCV HB HV
      clear hcv
      have HL2 : Hid ((ys.length : Int) = xs.length) := by have := HL.out; unfold Hid; omega
      go_enter Try.func51, Try.ntmps51
      go_wp2_with (fail)
      refine HA.out.mono ?_
      rintro e w' ⟨rfl, n, rfl⟩
      go_wp2_with (fail)
      refine (HCV.out _).mono ?_
      rintro e w' ⟨rfl, n2, rfl⟩
      go_wp2_with (fail)
      clear HA HCV
      go_loopw [6, 7] (fun s i wr => ∃ k r : Nat, k ≤ xs.length ∧ i = .int .i64 k ∧ s = .float .f32 r ∧ Hid (Fl .f32 r (fold2 moS ((us xs).take k) ((us ys).take k))) ∧ ∃ n, wr = w.drewN n) (fun _ i _ => xs.length - (intOf i).toNat)
      case atStart => exact ⟨0, 0, Nat.zero_le _, rfl, rfl, h0, _, rfl⟩
      case round =>
        obtain ⟨k, r, hk, rfl, rfl, HF, n, rfl⟩ := hrel
        by_cases hlt : k < xs.length
        · obtain ⟨b, off, rfl, hc⟩ := HS.out k hlt
          have hlt2 : k < ys.length := by rw [← HL.out]; exact hlt
          obtain ⟨b2, off2, rfl, hc2⟩ := HS2.out k hlt2
          have hI : (k : Int) < (xs.length : Int) := by omega
          have hI2 : (k : Int) < (ys.length : Int) := by omega
          have f1 := us_fl HZ.out hlt
          have f3 := us_fl HZ2.out hlt2
          have HT := hid (fold2_succ moS (us xs) (us ys) k (by rw [us_len]; exact hlt) (by rw [us_len, us_len]; exact HL.out))
          skip
          have f2 : Fl .f32 r (fold2 moS ((us xs).take k) ((us ys).take k)) := HF.out
          generalize (us xs).getD k 0 = u at *
          generalize xs.getD k 0 = x at *
          generalize (us ys).getD k 0 = u2 at *
          generalize ys.getD k 0 = x2 at *
          generalize fold2 moS ((us xs).take k) ((us ys).take k) = v at *
          have HE : Hid (moS v u u2 = if fcmp .gtr .f32 u 0 then fbin .add .f32 v (fbin .mul .f32 u (fbin .sub .f32 (bitsV u) (bitsV u2))) else v) := rfl
          cases hb : fcmp .gtr .f32 u 0
          · skip
            have HE2 := HE.out
            rw [hb] at HE2
            simp only [if_false, Bool.false_eq_true] at HE2
            have HE3 := hid HE2
            clear HE HE2
            go_wp2_with (first | (refine wpList_farith rfl _ _ _ _ _ rfl _ _ _ rfl rfl (by decide) (by assumption) (by assumption) ?_; intro _ _ _) | (refine wpList_fcmp rfl _ _ _ _ _ rfl _ _ _ rfl rfl (by decide) (by assumption) (by assumption) (by first | assumption | rfl) ?_))
            go_roundw
            case rel => exact ⟨k + 1, _, by omega, by go_num, rfl, by unfold Hid; rw [HT.out, HE3.out]; assumption, _, rfl⟩
            case measure => simp [intOf]; omega
          · skip
            have HE2 := HE.out
            rw [hb] at HE2
            simp only [if_true] at HE2
            have HE3 := hid HE2
            clear HE HE2
            go_wp2_with (first | (refine wpList_farith rfl _ _ _ _ _ rfl _ _ _ rfl rfl (by decide) (by assumption) (by assumption) ?_; intro _ _ _) | (refine wpList_fcmp rfl _ _ _ _ _ rfl _ _ _ rfl rfl (by decide) (by assumption) (by assumption) (by first | assumption | rfl) ?_))
            refine wp_region_mixN (callG bitsV) (by kernel_rfl) (by kernel_rfl) ?_
            simp only [List.map_cons, List.map_nil]
            repeat (refine mixS_step (fun K hK => ?_); first | (refine opS_farith rfl _ _ _ _ _ rfl _ _ _ rfl rfl (by decide) (by assumption) (by assumption) ?_; intro _ _; refine hK _ ?_; clear hK K) | (go_simp; refine hK _ ?_; clear hK K) | (refine opS_callf (f := 91) (x := x) (u := u) rfl ?_ f1 (fun w' => l02Bits_any _ _ f1 w') ?_; (focus intro w'; go_simp; done); intro _ _; refine hK _ ?_; clear hK K) | (refine opS_callf (f := 91) (x := x2) (u := u2) rfl ?_ f3 (fun w' => l02Bits_any _ _ f3 w') ?_; (focus intro w'; go_simp; done); intro _ _; refine hK _ ?_; clear hK K))
            refine mixS_nil ?_
            rintro w' ⟨m, rfl⟩
            go_wp2
            go_roundw
            case rel => exact ⟨k + 1, _, by omega, by go_num, rfl, by unfold Hid; rw [HT.out, HE3.out]; assumption, _, rfl⟩
            case measure => simp [intOf]; omega
        · have HK := hid (show k = xs.length by omega)
          have f2 : Fl .f32 r (fold2 moS (us xs) (us ys)) := by
            have h := HF.out
            rw [HK.out, ← us_len xs, List.take_length, us_len, HL.out, ← us_len ys, List.take_length] at h
            exact h
          have HVT : Hid (moT (us xs) (us ys) = fold2 moS (us xs) (us ys)) := rfl
          generalize fold2 moS (us xs) (us ys) = v at *
          generalize moT (us xs) (us ys) = tv at *
          clear HF HS HS2
          go_wp2_with (first | (refine wpList_farith rfl _ _ _ _ _ rfl _ _ _ rfl rfl (by decide) (by assumption) (by assumption) ?_; intro _ _ _) | (refine wpList_fcmp rfl _ _ _ _ _ rfl _ _ _ rfl rfl (by decide) (by assumption) (by assumption) (by first | assumption | rfl) ?_) | (go_at_call 85; refine (l02Number_any _ tv (by rw [HVT.out]; assumption) _).mono ?_; rintro e w' ⟨⟨r3, rfl, hr3⟩, n3, rfl⟩))
          go_ret2
          exact ⟨⟨_, by rw [HB.out]; rfl, by rw [HV.out]; assumption⟩, _, rfl⟩
  · have ht : twoB (us xs) (us ys) = false := by cases h : twoB (us xs) (us ys) <;> simp_all
    rw [ht] at HA HB HV
    clear hs hz hs2 hz2 ht
    go_enter Try.func51, Try.ntmps51
    go_wp2_with (fail)
    refine HA.out.mono ?_
    rintro e w' ⟨rfl, n, rfl⟩
    go_wp2_with (fail)
    go_ret2
    exact ⟨⟨_, by rw [HB.out]; rfl, by rw [HV.out]; exact h0⟩, _, rfl⟩
end Go.Proofs.Ytkmodgkkldcpkaa
