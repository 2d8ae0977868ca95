/-
  TABLES: are two the same? Own work; no condition beyond what each theorem names.
-/
import Derived.Test.YtgojfjaballbfaaJb
import Derived.Test.YtgojfjaballbfaaWc
namespace Go.Proofs.Ytgojfjaballbfaa
open Go.RowKit
set_option linter.unusedVariables false
attribute [local go_sem] run_store_float opS fineS givesS

theorem us_ne {xs ys : List Nat} (hl : xs.length = ys.length) {k : Nat} (hk : k < xs.length) (h : (us xs).getD k 0 ≠ (us ys).getD k 0) : us xs ≠ us ys := fun e => h (by rw [e])
theorem us_eq {xs ys : List Nat} (hl : xs.length = ys.length) (h : ∀ j, j < xs.length → (us xs).getD j 0 = (us ys).getD j 0) : us xs = us ys := by
  refine List.ext_getElem (by rw [us_len, us_len, hl]) fun j h1 h2 => ?_
  have h3 := h j (by rw [us_len] at h1; exact h1)
  simpa [List.getD, h1, h2] using h3
set_option maxHeartbeats 800000 in
theorem l01SameAll_any (p q : Option Addr) (c1 c2 : Nat) (xs ys : List Nat) (w : World) (hp : SL (.float .f32) 0 w p xs) (hq : SL (.float .f32) 0 w q ys) (hx : ∀ z ∈ xs, z < 4294967296) (hy : ∀ z ∈ ys, z < 4294967296)
    (hm : xs.length ≤ 1048576) (hm2 : ys.length ≤ 1048576) :
    Calls Try.prog 21 #[.slice p xs.length c1, .slice q ys.length c2] w fun e w' => e = .returned (.bool (decide (us xs = us ys))) ∧ Dr w w' := by
  by_cases hl : xs.length = ys.length
  · rw [← hl]
    have HP := hid hp
    have HQ := hid hq
    have HX := hid hx
    have HY := hid hy
    have HL := hid hl
    clear hp hq hx hy hl
    go_enter Try.func21, Try.ntmps21
    go_wp2
    go_loopw [5] (fun i wr => ∃ k : Nat, k ≤ xs.length ∧ i = .int .i64 k ∧ Hid (∃ n, wr = w.drewN n) ∧ Hid (∀ j, j < k → (us xs).getD j 0 = (us ys).getD j 0)) (fun i _ => xs.length - (intOf i).toNat)
    case atStart => exact ⟨0, Nat.zero_le _, rfl, (⟨0, rfl⟩ : ∃ n, w = w.drewN n), fun j hj => absurd hj (Nat.not_lt_zero _)⟩
    case round =>
      obtain ⟨k, hk, rfl, HW, HE⟩ := hrel
      have HP1 : Hid (SL (.float .f32) 0 wr p xs) := by obtain ⟨n, hn⟩ := HW.out; rw [hn]; exact HP.out
      have HQ1 : Hid (SL (.float .f32) 0 wr q ys) := by obtain ⟨n, hn⟩ := HW.out; rw [hn]; exact HQ.out
      have HD : Hid (∀ m, ∃ n, wr.drewN m = w.drewN n) := fun m => by obtain ⟨n, hn⟩ := HW.out; exact ⟨n + m, by rw [hn, World.drewN_drewN]⟩
      by_cases hlt : k < xs.length
      · obtain ⟨b, off, rfl, hc⟩ := HP1.out k hlt
        obtain ⟨b2, off2, rfl, hc2⟩ := HQ1.out k (by rw [← HL.out]; exact hlt)
        have hI : (k : Int) < (xs.length : Int) := by omega
        have f1 := us_fl HX.out hlt
        have f2 := us_fl HY.out (by rw [← HL.out]; exact hlt)
        have HN : Hid ((us xs).getD k 0 ≠ (us ys).getD k 0 → us xs ≠ us ys) := us_ne HL.out hlt
        have HS : Hid ((us xs).getD k 0 = (us ys).getD k 0 → ∀ j, j < k + 1 → (us xs).getD j 0 = (us ys).getD j 0) := fun h j hj => by
          by_cases hjk : j = k
          · subst hjk; exact h
          · exact HE.out j (by omega)
        generalize (us xs).getD k 0 = u at *
        generalize (us ys).getD k 0 = v at *
        generalize xs.getD k 0 = x at *
        generalize ys.getD k 0 = y at *
        have HC : Hid (∀ m, Calls Try.prog 33 #[.float .f32 x, .float .f32 y] (wr.drewN m) fun e w'' => e = .returned (.bool (decide (u = v))) ∧ ∃ k, w'' = wr.drewN k) := fun m => (l01Same_any _ _ _ _ f1 f2 _).mono fun e w' ⟨he, hw⟩ => ⟨he, m, hw.symm⟩
        by_cases huv : u = v
        · have HH := hid (HS.out huv)
          rw [decide_eq_true huv] at HC
          clear HS HN huv HE
          go_wp2
          go_quiet ((go_at_call 33; with_reducible exact HC.out _))
          go_wp2
          go_roundw
          case rel => exact ⟨k + 1, by omega, by go_num, HD.out _, HH⟩
          case measure => simp [intOf]; omega
        · have HH := hid (HN.out huv)
          rw [decide_eq_false huv] at HC
          clear HS HN huv HE
          go_wp2
          go_quiet ((go_at_call 33; with_reducible exact HC.out _))
          go_wp2
          go_ret
          exact ⟨by rw [decide_eq_false HH.out]; rfl, HD.out _⟩
      · have HH : Hid (us xs = us ys) := us_eq HL.out fun j hj => HE.out j (by omega)
        go_wp2
        go_ret
        exact ⟨by rw [decide_eq_true HH.out]; rfl, HW.out⟩
  · have HH : Hid (us xs ≠ us ys) := fun e => hl (by rw [← us_len xs, ← us_len ys, e])
    clear hp hq hx hy
    have hne : ((xs.length : Int) != (ys.length : Int)) = true := bne_iff_ne.2 (by omega)
    clear hl
    go_enter Try.func21, Try.ntmps21
    go_wp2
    go_ret
    exact ⟨by rw [decide_eq_false HH.out]; rfl, 0, rfl⟩
set_option maxHeartbeats 800000 in
theorem EqualFunc_any (p q : Option Addr) (c1 c2 : Nat) (xs ys : List Nat) (w : World) (hp : SL (.float .f32) 0 w p xs) (hq : SL (.float .f32) 0 w q ys) (hx : ∀ z ∈ xs, z < 4294967296) (hy : ∀ z ∈ ys, z < 4294967296)
    (hm : xs.length ≤ 1048576) (hm2 : ys.length ≤ 1048576) :
    Calls Try.prog 22 #[.slice p xs.length c1, .slice q ys.length c2, .func (.func 23) #[] #[]] w fun e w' => e = .returned (.bool (decide (us xs = us ys))) ∧ Dr w w' := by
  by_cases hl : xs.length = ys.length
  · rw [← hl]
    have HP := hid hp
    have HQ := hid hq
    have HX := hid hx
    have HY := hid hy
    have HL := hid hl
    clear hp hq hx hy hl
    go_enter Try.func22, Try.ntmps22
    go_wp2
    go_loopw [17] (fun i wr => ∃ k : Nat, k ≤ xs.length ∧ i = .int .i64 k ∧ Hid (∃ n, wr = w.drewN n) ∧ Hid (∀ j, j < k → (us xs).getD j 0 = (us ys).getD j 0)) (fun i _ => xs.length - (intOf i).toNat)
    case atStart => exact ⟨0, Nat.zero_le _, rfl, (⟨0, rfl⟩ : ∃ n, w = w.drewN n), fun j hj => absurd hj (Nat.not_lt_zero _)⟩
    case round =>
      obtain ⟨k, hk, rfl, HW, HE⟩ := hrel
      have HP1 : Hid (SL (.float .f32) 0 wr p xs) := by obtain ⟨n, hn⟩ := HW.out; rw [hn]; exact HP.out
      have HQ1 : Hid (SL (.float .f32) 0 wr q ys) := by obtain ⟨n, hn⟩ := HW.out; rw [hn]; exact HQ.out
      have HD : Hid (∀ m, ∃ n, wr.drewN m = w.drewN n) := fun m => by obtain ⟨n, hn⟩ := HW.out; exact ⟨n + m, by rw [hn, World.drewN_drewN]⟩
      by_cases hlt : k < xs.length
      · obtain ⟨b, off, rfl, hc⟩ := HP1.out k hlt
        obtain ⟨b2, off2, rfl, hc2⟩ := HQ1.out k (by rw [← HL.out]; exact hlt)
        have hI : (k : Int) < (xs.length : Int) := by omega
        have f1 := us_fl HX.out hlt
        have f2 := us_fl HY.out (by rw [← HL.out]; exact hlt)
        have HN : Hid ((us xs).getD k 0 ≠ (us ys).getD k 0 → us xs ≠ us ys) := us_ne HL.out hlt
        have HS : Hid ((us xs).getD k 0 = (us ys).getD k 0 → ∀ j, j < k + 1 → (us xs).getD j 0 = (us ys).getD j 0) := fun h j hj => by
          by_cases hjk : j = k
          · subst hjk; exact h
          · exact HE.out j (by omega)
        generalize (us xs).getD k 0 = u at *
        generalize (us ys).getD k 0 = v at *
        generalize xs.getD k 0 = x at *
        generalize ys.getD k 0 = y at *
        have HC := hid (fun w => SameNumber_any _ _ _ _ f1 f2 w)
        clear f1 f2
        by_cases huv : u = v
        · have HH := hid (HS.out huv)
          rw [decide_eq_true huv] at HC
          clear HS HN huv HE
          go_wp2_with (fail)
          refine (HC.out _).mono ?_
          rintro e w' ⟨rfl, m, rfl⟩
          go_wp2_with (fail)
          go_roundw
          case rel => exact ⟨k + 1, by omega, by go_num, HD.out _, HH⟩
          case measure => simp [intOf]; omega
        · have HH := hid (HN.out huv)
          rw [decide_eq_false huv] at HC
          clear HS HN huv HE
          go_wp2_with (fail)
          refine (HC.out _).mono ?_
          rintro e w' ⟨rfl, m, rfl⟩
          go_wp2_with (fail)
          go_ret
          exact ⟨by rw [decide_eq_false HH.out]; rfl, HD.out _⟩
      · have HH : Hid (us xs = us ys) := us_eq HL.out fun j hj => HE.out j (by omega)
        go_wp2
        go_ret
        exact ⟨by rw [decide_eq_true HH.out]; rfl, HW.out⟩
  · have HH : Hid (us xs ≠ us ys) := fun e => hl (by rw [← us_len xs, ← us_len ys, e])
    clear hp hq hx hy
    have hne : ((xs.length : Int) != (ys.length : Int)) = true := bne_iff_ne.2 (by omega)
    clear hl
    go_enter Try.func22, Try.ntmps22
    go_wp2
    go_ret
    exact ⟨by rw [decide_eq_false HH.out]; rfl, 0, rfl⟩
def sameB (r c r2 k2 : Int) (xs ys : List Nat) : Bool := (r == r2) && ((c == k2) && decide (us xs = us ys))
theorem SameTable_any (r c r2 k2 : Int) (p q : Option Addr) (c1 c2 : Nat) (xs ys : List Nat) (w : World) (hp : SL (.float .f32) 0 w p xs) (hq : SL (.float .f32) 0 w q ys) (hx : ∀ z ∈ xs, z < 4294967296) (hy : ∀ z ∈ ys, z < 4294967296)
    (hm : xs.length ≤ 1048576) (hm2 : ys.length ≤ 1048576) :
    Calls Try.prog 9 #[.agg #[.int .i64 r, .int .i64 c, .slice p xs.length c1], .agg #[.int .i64 r2, .int .i64 k2, .slice q ys.length c2]] w fun e w' => e = .returned (.bool (sameB r c r2 k2 xs ys)) ∧ Below w.heap.size w w' := by
  have HV : Hid (sameB r c r2 k2 xs ys = ((r == r2) && ((c == k2) && decide (us xs = us ys)))) := rfl
  have HC := hid (fun w (hp : SL (.float .f32) 0 w p xs) (hq : SL (.float .f32) 0 w q ys) => EqualFunc_any p q c1 c2 xs ys w hp hq hx hy hm hm2)
  have HP := hid hp
  have HQ := hid hq
  clear hp hq hx hy
  cases h1 : r == r2 <;> cases h2 : c == k2
  all_goals
    rw [h1, h2] at HV
    go_enter Try.func9, Try.ntmps9
    go_wp2_with (fail)
    try
      refine (HC.out _ ((HP.out.alloc _).alloc _) ((HQ.out.alloc _).alloc _)).mono ?_
      rintro e w' ⟨rfl, n, rfl⟩
      go_wp2_with (fail)
    go_ret
    first | exact ⟨by rw [HV.out]; rfl, ((Below.refl _ _).alloc (Nat.le_refl _) _).alloc (by simp) _⟩ | exact ⟨by rw [HV.out]; rfl, below_drewN (((Below.refl _ _).alloc (Nat.le_refl _) _).alloc (by simp) _) _⟩
theorem sSameTable_any (r c r2 k2 : Int) (p q : Option Addr) (c1 c2 : Nat) (xs ys : List Nat) (w : World) (hp : SL (.float .f32) 0 w p xs) (hq : SL (.float .f32) 0 w q ys) (hx : ∀ z ∈ xs, z < 4294967296) (hy : ∀ z ∈ ys, z < 4294967296)
    (hm : xs.length ≤ 1048576) (hm2 : ys.length ≤ 1048576) :
    Calls Try.prog 7 #[.agg #[.int .i64 r, .int .i64 c, .slice p xs.length c1], .agg #[.int .i64 r2, .int .i64 k2, .slice q ys.length c2]] w fun e w' => e = .returned (.bool (sameB r c r2 k2 xs ys)) ∧ Below w.heap.size w w' := by
  have HV : Hid (sameB r c r2 k2 xs ys = ((r == r2) && ((c == k2) && decide (us xs = us ys)))) := rfl
  have HC := hid (fun w (hp : SL (.float .f32) 0 w p xs) (hq : SL (.float .f32) 0 w q ys) => l01SameAll_any p q c1 c2 xs ys w hp hq hx hy hm hm2)
  have HP := hid hp
  have HQ := hid hq
  clear hp hq hx hy
  cases h1 : r == r2 <;> cases h2 : c == k2
  all_goals
    rw [h1, h2] at HV
    go_enter Try.func7, Try.ntmps7
    go_wp2_with (fail)
    try
      refine (HC.out _ ((HP.out.alloc _).alloc _) ((HQ.out.alloc _).alloc _)).mono ?_
      rintro e w' ⟨rfl, n, rfl⟩
      go_wp2_with (fail)
    go_ret
    first | exact ⟨by rw [HV.out]; rfl, ((Below.refl _ _).alloc (Nat.le_refl _) _).alloc (by simp) _⟩ | exact ⟨by rw [HV.out]; rfl, below_drewN (((Below.refl _ _).alloc (Nat.le_refl _) _).alloc (by simp) _) _⟩
end Go.Proofs.Ytgojfjaballbfaa
