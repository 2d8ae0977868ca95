/-
  WALKS: numbers: what each function of the program and of the reference gives at scalars.
  Own work; no condition beyond what each theorem names.
-/
import Derived.Test.YtgfnchggflecgaaGreatDoorRows
import Derived.Test.YtgfnchggflecgaaGreatDoorFe
namespace Go.Proofs.YtgfnchggflecgaaGreatDoor
open Go.RowKit

/-- A fact hidden from the walk. -/
theorem hid {p : Prop} (h : p) : Hid p := h

/-- Nothing but draws. -/
def Dr (w w' : World) : Prop := ∃ n, w' = w.drewN n
theorem Dr.refl (w : World) : Dr w w := ⟨0, rfl⟩
theorem Dr.one (w : World) (n : Nat) : Dr w (w.drewN n) := ⟨n, rfl⟩
theorem Dr.below {w w' : World} (h : Dr w w') (B : Nat) : Below B w w' := by
  obtain ⟨n, rfl⟩ := h
  exact below_drewN (Below.refl _ _) n

theorem fz32 : Fl .f32 0 0 := Fl.lit (by decide) (by decide)
theorem fz64 : Fl .f64 0 0 := Fl.lit (by decide) (by decide)
theorem fone64 : Fl .f64 4607182418800017408 4607182418800017408 := Fl.lit (by decide) (by decide)
/-- A 32-bit word that fits, as the number that it stands for. -/
theorem fl_of_wf {x : Nat} (h : (Lit.float .f32 x).wf = true) : Fl .f32 x (nf .f32 x) := ⟨(by have h' := h; simp [Lit.wf] at h'; exact h'), rfl⟩
theorem fl_of_wf64 {x : Nat} (h : (Lit.float .f64 x).wf = true) : Fl .f64 x (nf .f64 x) := ⟨(by have h' := h; simp [Lit.wf] at h'; exact h'), rfl⟩


/-! ### finite -/

/-- Finite: what is taken from itself is zero. -/
def finB (u : Nat) : Bool := fcmp .eql .f32 (fbin .sub .f32 u u) 0

set_option maxHeartbeats 400000 in
theorem IsFinite_any (x u : Nat) (hx : Fl .f32 x u) (w : World) :
    Calls Tryz.prog 36 #[.float .f32 x] w fun e w' => e = .returned (.bool (finB u)) ∧ Dr w w' := by
  have h0 := fz32
  go_enter Tryz.func36, Tryz.ntmps36
  go_wp2_with (first | (refine wpList_farith rfl _ _ _ _ _ rfl _ _ _ rfl rfl (by decide) (by assumption) (by assumption) ?_; intro _ _ _) | (refine wpList_fcmp rfl _ _ _ _ _ rfl _ _ _ rfl rfl (by decide) (by assumption) (by assumption) (by first | assumption | rfl) ?_))
  go_ret
  exact ⟨rfl, _, rfl⟩

/-! ### bits -/

@[go_sem] theorem callFunc_f32bits (x : Nat) (w : World) : (callFunc 27 #[.float .f32 x]).run Tryz.prog w = .ok (.value (.int .u32 x)) w := by
  rw [run_callFunc_extern Tryz.func27 (by kernel_rfl) (by kernel_rfl) (by kernel_rfl) (e := Extern.MathFloatBits.float32bits) (by kernel_rfl)]; rfl
@[go_sem] theorem callFunc_f32frombits (n : Int) (w : World) : (callFunc 26 #[.int .u32 n]).run Tryz.prog w = .ok (.value (.float .f32 n.toNat)) w := by
  rw [run_callFunc_extern Tryz.func26 (by kernel_rfl) (by kernel_rfl) (by kernel_rfl) (e := Extern.MathFloatBits.float32frombits) (by kernel_rfl)]; rfl
@[go_sem] theorem callFunc_f64bits (x : Nat) (w : World) : (callFunc 44 #[.float .f64 x]).run Tryz.prog w = .ok (.value (.int .u64 x)) w := by
  rw [run_callFunc_extern Tryz.func44 (by kernel_rfl) (by kernel_rfl) (by kernel_rfl) (e := Extern.MathFloatBits.float64bits) (by kernel_rfl)]; rfl
@[go_sem] theorem callFunc_f64frombits (n : Int) (w : World) : (callFunc 43 #[.int .u64 n]).run Tryz.prog w = .ok (.value (.float .f64 n.toNat)) w := by
  rw [run_callFunc_extern Tryz.func43 (by kernel_rfl) (by kernel_rfl) (by kernel_rfl) (e := Extern.MathFloatBits.float64frombits) (by kernel_rfl)]; rfl

set_option maxHeartbeats 400000 in
theorem l01Bits_any (x u : Nat) (hx : Fl .f32 x u) (w : World) :
    Calls Tryz.prog 50 #[.float .f32 x] w fun e w' => e = .returned (.int .i64 u) ∧ w = w' := by
  cases hn : isN .f32 u
  · have hc : fcmp .neq .f32 u u = false := by rw [isN_ne, hn]
    obtain rfl := hx.word hn
    have hl : x < 4294967296 := hx.lt
    clear hn
    go_enter Tryz.func50, Tryz.ntmps50
    go_wp2_with (first | (refine wpList_farith rfl _ _ _ _ _ rfl _ _ _ rfl rfl (by decide) (by assumption) (by assumption) ?_; intro _ _ _) | (refine wpList_fcmp rfl _ _ _ _ _ rfl _ _ _ rfl rfl (by decide) (by assumption) (by assumption) (by first | assumption | rfl) ?_))
    go_ret
    exact ⟨rfl, rfl⟩
  · have hc : fcmp .neq .f32 u u = true := by rw [isN_ne, hn]
    have hu : u = 2143289344 := by
      have h := hx.canon
      rw [nf_nan hn] at h
      exact h.symm
    have HU : Hid (u = 2143289344) := hu
    clear hn hu
    go_enter Tryz.func50, Tryz.ntmps50
    go_wp2_with (first | (refine wpList_farith rfl _ _ _ _ _ rfl _ _ _ rfl rfl (by decide) (by assumption) (by assumption) ?_; intro _ _ _) | (refine wpList_fcmp rfl _ _ _ _ _ rfl _ _ _ rfl rfl (by decide) (by assumption) (by assumption) (by first | assumption | rfl) ?_))
    go_ret
    exact ⟨by rw [HU.out]; rfl, rfl⟩
set_option maxHeartbeats 400000 in
theorem BitsOf_any (x u : Nat) (hx : Fl .f32 x u) (w : World) :
    Calls Tryz.prog 7 #[.float .f32 x] w fun e w' => e = .returned (.int .i64 u) ∧ w = w' := by
  cases hn : isN .f32 u
  · have hc : fcmp .neq .f32 u u = false := by rw [isN_ne, hn]
    obtain rfl := hx.word hn
    have hl : x < 4294967296 := hx.lt
    clear hn
    go_enter Tryz.func7, Tryz.ntmps7
    go_wp2_with (first | (refine wpList_farith rfl _ _ _ _ _ rfl _ _ _ rfl rfl (by decide) (by assumption) (by assumption) ?_; intro _ _ _) | (refine wpList_fcmp rfl _ _ _ _ _ rfl _ _ _ rfl rfl (by decide) (by assumption) (by assumption) (by first | assumption | rfl) ?_))
    go_ret
    exact ⟨rfl, rfl⟩
  · have hc : fcmp .neq .f32 u u = true := by rw [isN_ne, hn]
    have hu : u = 2143289344 := by
      have h := hx.canon
      rw [nf_nan hn] at h
      exact h.symm
    have HU : Hid (u = 2143289344) := hu
    clear hn hu
    go_enter Tryz.func7, Tryz.ntmps7
    go_wp2_with (first | (refine wpList_farith rfl _ _ _ _ _ rfl _ _ _ rfl rfl (by decide) (by assumption) (by assumption) ?_; intro _ _ _) | (refine wpList_fcmp rfl _ _ _ _ _ rfl _ _ _ rfl rfl (by decide) (by assumption) (by assumption) (by first | assumption | rfl) ?_))
    go_ret
    exact ⟨by rw [HU.out]; rfl, rfl⟩

/-! ### the laws -/

end Go.Proofs.YtgfnchggflecgaaGreatDoor
