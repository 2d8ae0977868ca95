/-
  WALKS: numbers: what each function of the program and of the reference gives at scalars.
  Own work; no condition beyond what each theorem names.
-/
import Derived.Test.YtfmgpgbcdpjfkaaRows
import Derived.Test.YtfmgpgbcdpjfkaaFe
namespace Go.Proofs.Ytfmgpgbcdpjfkaa
open Go.RowKit

/-- A fact hidden from the walk. -/
theorem hid {p : Prop} (h : p) : Hid p := h

/-- Nothing but draws. -/
def Dr (w w' : World) : Prop := ∃ n, w' = w.drewN n
theorem Dr.refl (w : World) : Dr w w := ⟨0, rfl⟩
theorem Dr.one (w : World) (n : Nat) : Dr w (w.drewN n) := ⟨n, rfl⟩
theorem Dr.below {w w' : World} (h : Dr w w') (B : Nat) : Below B w w' := by
  obtain ⟨n, rfl⟩ := h
  exact below_drewN (Below.refl _ _) n

theorem fz32 : Fl .f32 0 0 := Fl.lit (by decide) (by decide)
theorem fz64 : Fl .f64 0 0 := Fl.lit (by decide) (by decide)
theorem fone64 : Fl .f64 4607182418800017408 4607182418800017408 := Fl.lit (by decide) (by decide)
/-- A 32-bit word that fits, as the number that it stands for. -/
theorem fl_of_wf {x : Nat} (h : (Lit.float .f32 x).wf = true) : Fl .f32 x (nf .f32 x) := ⟨(by have h' := h; simp [Lit.wf] at h'; exact h'), rfl⟩
theorem fl_of_wf64 {x : Nat} (h : (Lit.float .f64 x).wf = true) : Fl .f64 x (nf .f64 x) := ⟨(by have h' := h; simp [Lit.wf] at h'; exact h'), rfl⟩

set_option maxHeartbeats 400000 in
theorem sameFloat_true (x y u : Nat) (hx : Fl .f64 x u) (hy : Fl .f64 y u) (w : World) :
    Calls Try.prog 28 #[.float .f64 x, .float .f64 y] w fun e w' => e = .returned (.bool true) ∧ Dr w w' := by
  have h0 := fz64
  have h1 := fone64
  cases hn : isN .f64 u
  · have hc : fcmp .neq .f64 u u = false := by rw [isN_ne, hn]
    have he := feq_self hn
    clear hn
    cases hz : fcmp .eql .f64 u 0
    · go_enter Try.func28, Try.ntmps28
      go_wp2_with (first | (refine wpList_farith rfl _ _ _ _ _ rfl _ _ _ rfl rfl (by decide) (by assumption) (by assumption) ?_; intro _ _ _) | (refine wpList_fcmp rfl _ _ _ _ _ rfl _ _ _ rfl rfl (by decide) (by assumption) (by assumption) (by first | assumption | rfl) ?_))
      go_ret
      exact ⟨rfl, by first | exact ⟨_, rfl⟩ | exact ⟨0, rfl⟩⟩
    · go_enter Try.func28, Try.ntmps28
      go_wp2_with (first | (refine wpList_farith rfl _ _ _ _ _ rfl _ _ _ rfl rfl (by decide) (by assumption) (by assumption) ?_; intro _ _ _) | (refine wpList_fcmp rfl _ _ _ _ _ rfl _ _ _ rfl rfl (by decide) (by assumption) (by assumption) (by first | assumption | rfl) ?_))
      go_ret
      exact ⟨by simp, by first | exact ⟨_, rfl⟩ | exact ⟨0, rfl⟩⟩
  · have hc : fcmp .neq .f64 u u = true := by rw [isN_ne, hn]
    clear hn
    go_enter Try.func28, Try.ntmps28
    go_wp2_with (first | (refine wpList_farith rfl _ _ _ _ _ rfl _ _ _ rfl rfl (by decide) (by assumption) (by assumption) ?_; intro _ _ _) | (refine wpList_fcmp rfl _ _ _ _ _ rfl _ _ _ rfl rfl (by decide) (by assumption) (by assumption) (by first | assumption | rfl) ?_))
    go_ret
    exact ⟨rfl, by first | exact ⟨_, rfl⟩ | exact ⟨0, rfl⟩⟩

/-! ### finite -/

/-- Finite: what is taken from itself is zero. -/
def finB (u : Nat) : Bool := fcmp .eql .f32 (fbin .sub .f32 u u) 0

set_option maxHeartbeats 400000 in
theorem l01Finite_any (x u : Nat) (hx : Fl .f32 x u) (w : World) :
    Calls Try.prog 37 #[.float .f32 x] w fun e w' => e = .returned (.bool (finB u)) ∧ Dr w w' := by
  have h0 := fz32
  go_enter Try.func37, Try.ntmps37
  go_wp2_with (first | (refine wpList_farith rfl _ _ _ _ _ rfl _ _ _ rfl rfl (by decide) (by assumption) (by assumption) ?_; intro _ _ _) | (refine wpList_fcmp rfl _ _ _ _ _ rfl _ _ _ rfl rfl (by decide) (by assumption) (by assumption) (by first | assumption | rfl) ?_))
  go_ret
  exact ⟨rfl, _, rfl⟩
set_option maxHeartbeats 400000 in
theorem IsFinite_any (x u : Nat) (hx : Fl .f32 x u) (w : World) :
    Calls Try.prog 15 #[.float .f32 x] w fun e w' => e = .returned (.bool (finB u)) ∧ Dr w w' := by
  have h0 := fz32
  go_enter Try.func15, Try.ntmps15
  go_wp2_with (first | (refine wpList_farith rfl _ _ _ _ _ rfl _ _ _ rfl rfl (by decide) (by assumption) (by assumption) ?_; intro _ _ _) | (refine wpList_fcmp rfl _ _ _ _ _ rfl _ _ _ rfl rfl (by decide) (by assumption) (by assumption) (by first | assumption | rfl) ?_))
  go_ret
  exact ⟨rfl, _, rfl⟩
set_option maxHeartbeats 400000 in
theorem sIsFinite_any (x u : Nat) (hx : Fl .f32 x u) (w : World) :
    Calls Try.prog 14 #[.float .f32 x] w fun e w' => e = .returned (.bool (finB u)) ∧ Dr w w' := by
  go_enter Try.func14, Try.ntmps14
  go_wp2_with (go_at_call 37; refine (l01Finite_any _ _ hx _).mono ?_; rintro e w' ⟨rfl, n, rfl⟩)
  go_ret
  exact ⟨rfl, _, rfl⟩

/-! ### bits -/

@[go_sem] theorem callFunc_f32bits (x : Nat) (w : World) : (callFunc 39 #[.float .f32 x]).run Try.prog w = .ok (.value (.int .u32 x)) w := by
  rw [run_callFunc_extern Try.func39 (by kernel_rfl) (by kernel_rfl) (by kernel_rfl) (e := Extern.MathFloatBits.float32bits) (by kernel_rfl)]; rfl
@[go_sem] theorem callFunc_f32frombits (n : Int) (w : World) : (callFunc 47 #[.int .u32 n]).run Try.prog w = .ok (.value (.float .f32 n.toNat)) w := by
  rw [run_callFunc_extern Try.func47 (by kernel_rfl) (by kernel_rfl) (by kernel_rfl) (e := Extern.MathFloatBits.float32frombits) (by kernel_rfl)]; rfl
@[go_sem] theorem callFunc_f64bits (x : Nat) (w : World) : (callFunc 56 #[.float .f64 x]).run Try.prog w = .ok (.value (.int .u64 x)) w := by
  rw [run_callFunc_extern Try.func56 (by kernel_rfl) (by kernel_rfl) (by kernel_rfl) (e := Extern.MathFloatBits.float64bits) (by kernel_rfl)]; rfl
@[go_sem] theorem callFunc_f64frombits (n : Int) (w : World) : (callFunc 55 #[.int .u64 n]).run Try.prog w = .ok (.value (.float .f64 n.toNat)) w := by
  rw [run_callFunc_extern Try.func55 (by kernel_rfl) (by kernel_rfl) (by kernel_rfl) (e := Extern.MathFloatBits.float64frombits) (by kernel_rfl)]; rfl

set_option maxHeartbeats 400000 in
theorem l01Bits_any (x u : Nat) (hx : Fl .f32 x u) (w : World) :
    Calls Try.prog 38 #[.float .f32 x] w fun e w' => e = .returned (.int .i64 u) ∧ w = w' := by
  cases hn : isN .f32 u
  · have hc : fcmp .neq .f32 u u = false := by rw [isN_ne, hn]
    obtain rfl := hx.word hn
    have hl : x < 4294967296 := hx.lt
    clear hn
    go_enter Try.func38, Try.ntmps38
    go_wp2_with (first | (refine wpList_farith rfl _ _ _ _ _ rfl _ _ _ rfl rfl (by decide) (by assumption) (by assumption) ?_; intro _ _ _) | (refine wpList_fcmp rfl _ _ _ _ _ rfl _ _ _ rfl rfl (by decide) (by assumption) (by assumption) (by first | assumption | rfl) ?_))
    go_ret
    exact ⟨rfl, rfl⟩
  · have hc : fcmp .neq .f32 u u = true := by rw [isN_ne, hn]
    have hu : u = 2143289344 := by
      have h := hx.canon
      rw [nf_nan hn] at h
      exact h.symm
    have HU : Hid (u = 2143289344) := hu
    clear hn hu
    go_enter Try.func38, Try.ntmps38
    go_wp2_with (first | (refine wpList_farith rfl _ _ _ _ _ rfl _ _ _ rfl rfl (by decide) (by assumption) (by assumption) ?_; intro _ _ _) | (refine wpList_fcmp rfl _ _ _ _ _ rfl _ _ _ rfl rfl (by decide) (by assumption) (by assumption) (by first | assumption | rfl) ?_))
    go_ret
    exact ⟨by rw [HU.out]; rfl, rfl⟩
set_option maxHeartbeats 400000 in
theorem BitsOf_any (x u : Nat) (hx : Fl .f32 x u) (w : World) :
    Calls Try.prog 17 #[.float .f32 x] w fun e w' => e = .returned (.int .i64 u) ∧ w = w' := by
  cases hn : isN .f32 u
  · have hc : fcmp .neq .f32 u u = false := by rw [isN_ne, hn]
    obtain rfl := hx.word hn
    have hl : x < 4294967296 := hx.lt
    clear hn
    go_enter Try.func17, Try.ntmps17
    go_wp2_with (first | (refine wpList_farith rfl _ _ _ _ _ rfl _ _ _ rfl rfl (by decide) (by assumption) (by assumption) ?_; intro _ _ _) | (refine wpList_fcmp rfl _ _ _ _ _ rfl _ _ _ rfl rfl (by decide) (by assumption) (by assumption) (by first | assumption | rfl) ?_))
    go_ret
    exact ⟨rfl, rfl⟩
  · have hc : fcmp .neq .f32 u u = true := by rw [isN_ne, hn]
    have hu : u = 2143289344 := by
      have h := hx.canon
      rw [nf_nan hn] at h
      exact h.symm
    have HU : Hid (u = 2143289344) := hu
    clear hn hu
    go_enter Try.func17, Try.ntmps17
    go_wp2_with (first | (refine wpList_farith rfl _ _ _ _ _ rfl _ _ _ rfl rfl (by decide) (by assumption) (by assumption) ?_; intro _ _ _) | (refine wpList_fcmp rfl _ _ _ _ _ rfl _ _ _ rfl rfl (by decide) (by assumption) (by assumption) (by first | assumption | rfl) ?_))
    go_ret
    exact ⟨by rw [HU.out]; rfl, rfl⟩
set_option maxHeartbeats 400000 in
theorem sBitsOf_any (x u : Nat) (hx : Fl .f32 x u) (w : World) :
    Calls Try.prog 16 #[.float .f32 x] w fun e w' => e = .returned (.int .i64 u) ∧ w = w' := by
  go_enter Try.func16, Try.ntmps16
  go_wp2_with (go_at_call 38; refine (l01Bits_any _ _ hx _).mono ?_; rintro e w' ⟨rfl, rfl⟩)
  go_ret
  exact ⟨rfl, rfl⟩

/-! ### the laws -/

set_option maxHeartbeats 400000 in
theorem FnExactConstants_walk (w : World) : Calls Try.prog 3 #[] w fun e w' => e = .returned (.bool true) ∧ Below w.heap.size w w' := by
  go_enter Try.func3, Try.ntmps3
  go_wp2
  go_ret
  exact ⟨rfl, Below.refl _ _⟩
set_option maxHeartbeats 400000 in
theorem FnExactIsFinite_walk (a0 : Nat) (w : World) (w0 : (Lit.float .f32 a0).wf = true) :
    Calls Try.prog 4 #[.float .f32 a0] w fun e w' => e = .returned (.bool true) ∧ Below w.heap.size w w' := by
  have hx := fl_of_wf w0
  cases hb : finB (nf .f32 a0)
  all_goals
    go_enter Try.func4, Try.ntmps4
    go_wp2_with (first | (go_at_call 14; refine (sIsFinite_any _ _ hx _).mono ?_; rintro e w' ⟨rfl, n, rfl⟩) | (go_at_call 15; refine (IsFinite_any _ _ hx _).mono ?_; rintro e w' ⟨rfl, n, rfl⟩))
    go_ret
    exact ⟨rfl, below_drewN (Below.refl _ _) _⟩
set_option maxHeartbeats 400000 in
theorem FnExactBitsOf_walk (a0 : Nat) (w : World) (w0 : (Lit.float .f32 a0).wf = true) :
    Calls Try.prog 5 #[.float .f32 a0] w fun e w' => e = .returned (.bool true) ∧ Below w.heap.size w w' := by
  have hx := fl_of_wf w0
  go_enter Try.func5, Try.ntmps5
  go_wp2_with (first | (go_at_call 16; refine (sBitsOf_any _ _ hx _).mono ?_; rintro e w' ⟨rfl, rfl⟩) | (go_at_call 17; refine (BitsOf_any _ _ hx _).mono ?_; rintro e w' ⟨rfl, rfl⟩))
  go_ret
  exact ⟨rfl, Below.refl _ _⟩
end Go.Proofs.Ytfmgpgbcdpjfkaa
