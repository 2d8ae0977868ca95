/-
  WALKS: numbers: what each function of the program and of the reference gives at scalars.
  Own work; no condition beyond what each theorem names.
-/
import Derived.Test.YtgfnchggflecgaaDoorRows
import Derived.Test.YtgfnchggflecgaaDoorFe
namespace Go.Proofs.YtgfnchggflecgaaDoor
open Go.RowKit

/-- A fact hidden from the walk. -/
theorem hid {p : Prop} (h : p) : Hid p := h

/-- Nothing but draws. -/
def Dr (w w' : World) : Prop := ∃ n, w' = w.drewN n
theorem Dr.refl (w : World) : Dr w w := ⟨0, rfl⟩
theorem Dr.one (w : World) (n : Nat) : Dr w (w.drewN n) := ⟨n, rfl⟩
theorem Dr.below {w w' : World} (h : Dr w w') (B : Nat) : Below B w w' := by
  obtain ⟨n, rfl⟩ := h
  exact below_drewN (Below.refl _ _) n

theorem fz32 : Fl .f32 0 0 := Fl.lit (by decide) (by decide)
theorem fz64 : Fl .f64 0 0 := Fl.lit (by decide) (by decide)
theorem fone64 : Fl .f64 4607182418800017408 4607182418800017408 := Fl.lit (by decide) (by decide)
/-- A 32-bit word that fits, as the number that it stands for. -/
theorem fl_of_wf {x : Nat} (h : (Lit.float .f32 x).wf = true) : Fl .f32 x (nf .f32 x) := ⟨(by have h' := h; simp [Lit.wf] at h'; exact h'), rfl⟩
theorem fl_of_wf64 {x : Nat} (h : (Lit.float .f64 x).wf = true) : Fl .f64 x (nf .f64 x) := ⟨(by have h' := h; simp [Lit.wf] at h'; exact h'), rfl⟩

set_option maxHeartbeats 400000 in
theorem sameFloat_true (x y u : Nat) (hx : Fl .f64 x u) (hy : Fl .f64 y u) (w : World) :
    Calls Tryd.prog 30 #[.float .f64 x, .float .f64 y] w fun e w' => e = .returned (.bool true) ∧ Dr w w' := by
  have h0 := fz64
  have h1 := fone64
  cases hn : isN .f64 u
  · have hc : fcmp .neq .f64 u u = false := by rw [isN_ne, hn]
    have he := feq_self hn
    clear hn
    cases hz : fcmp .eql .f64 u 0
    · go_enter Tryd.func30, Tryd.ntmps30
      go_wp2_with (first | (refine wpList_farith rfl _ _ _ _ _ rfl _ _ _ rfl rfl (by decide) (by assumption) (by assumption) ?_; intro _ _ _) | (refine wpList_fcmp rfl _ _ _ _ _ rfl _ _ _ rfl rfl (by decide) (by assumption) (by assumption) (by first | assumption | rfl) ?_))
      go_ret
      exact ⟨rfl, by first | exact ⟨_, rfl⟩ | exact ⟨0, rfl⟩⟩
    · go_enter Tryd.func30, Tryd.ntmps30
      go_wp2_with (first | (refine wpList_farith rfl _ _ _ _ _ rfl _ _ _ rfl rfl (by decide) (by assumption) (by assumption) ?_; intro _ _ _) | (refine wpList_fcmp rfl _ _ _ _ _ rfl _ _ _ rfl rfl (by decide) (by assumption) (by assumption) (by first | assumption | rfl) ?_))
      go_ret
      exact ⟨by simp, by first | exact ⟨_, rfl⟩ | exact ⟨0, rfl⟩⟩
  · have hc : fcmp .neq .f64 u u = true := by rw [isN_ne, hn]
    clear hn
    go_enter Tryd.func30, Tryd.ntmps30
    go_wp2_with (first | (refine wpList_farith rfl _ _ _ _ _ rfl _ _ _ rfl rfl (by decide) (by assumption) (by assumption) ?_; intro _ _ _) | (refine wpList_fcmp rfl _ _ _ _ _ rfl _ _ _ rfl rfl (by decide) (by assumption) (by assumption) (by first | assumption | rfl) ?_))
    go_ret
    exact ⟨rfl, by first | exact ⟨_, rfl⟩ | exact ⟨0, rfl⟩⟩

/-! ### finite -/

/-- Finite: what is taken from itself is zero. -/
def finB (u : Nat) : Bool := fcmp .eql .f32 (fbin .sub .f32 u u) 0


/-! ### bits -/

@[go_sem] theorem callFunc_f32bits (x : Nat) (w : World) : (callFunc 58 #[.float .f32 x]).run Tryd.prog w = .ok (.value (.int .u32 x)) w := by
  rw [run_callFunc_extern Tryd.func58 (by kernel_rfl) (by kernel_rfl) (by kernel_rfl) (e := Extern.MathFloatBits.float32bits) (by kernel_rfl)]; rfl
@[go_sem] theorem callFunc_f32frombits (n : Int) (w : World) : (callFunc 49 #[.int .u32 n]).run Tryd.prog w = .ok (.value (.float .f32 n.toNat)) w := by
  rw [run_callFunc_extern Tryd.func49 (by kernel_rfl) (by kernel_rfl) (by kernel_rfl) (e := Extern.MathFloatBits.float32frombits) (by kernel_rfl)]; rfl

set_option maxHeartbeats 400000 in
theorem l01Bits_any (x u : Nat) (hx : Fl .f32 x u) (w : World) :
    Calls Tryd.prog 46 #[.float .f32 x] w fun e w' => e = .returned (.int .i64 u) ∧ w = w' := by
  cases hn : isN .f32 u
  · have hc : fcmp .neq .f32 u u = false := by rw [isN_ne, hn]
    obtain rfl := hx.word hn
    have hl : x < 4294967296 := hx.lt
    clear hn
    go_enter Tryd.func46, Tryd.ntmps46
    go_wp2_with (first | (refine wpList_farith rfl _ _ _ _ _ rfl _ _ _ rfl rfl (by decide) (by assumption) (by assumption) ?_; intro _ _ _) | (refine wpList_fcmp rfl _ _ _ _ _ rfl _ _ _ rfl rfl (by decide) (by assumption) (by assumption) (by first | assumption | rfl) ?_))
    go_ret
    exact ⟨rfl, rfl⟩
  · have hc : fcmp .neq .f32 u u = true := by rw [isN_ne, hn]
    have hu : u = 2143289344 := by
      have h := hx.canon
      rw [nf_nan hn] at h
      exact h.symm
    have HU : Hid (u = 2143289344) := hu
    clear hn hu
    go_enter Tryd.func46, Tryd.ntmps46
    go_wp2_with (first | (refine wpList_farith rfl _ _ _ _ _ rfl _ _ _ rfl rfl (by decide) (by assumption) (by assumption) ?_; intro _ _ _) | (refine wpList_fcmp rfl _ _ _ _ _ rfl _ _ _ rfl rfl (by decide) (by assumption) (by assumption) (by first | assumption | rfl) ?_))
    go_ret
    exact ⟨by rw [HU.out]; rfl, rfl⟩
set_option maxHeartbeats 400000 in
theorem BitsOf_any (x u : Nat) (hx : Fl .f32 x u) (w : World) :
    Calls Tryd.prog 55 #[.float .f32 x] w fun e w' => e = .returned (.int .i64 u) ∧ w = w' := by
  cases hn : isN .f32 u
  · have hc : fcmp .neq .f32 u u = false := by rw [isN_ne, hn]
    obtain rfl := hx.word hn
    have hl : x < 4294967296 := hx.lt
    clear hn
    go_enter Tryd.func55, Tryd.ntmps55
    go_wp2_with (first | (refine wpList_farith rfl _ _ _ _ _ rfl _ _ _ rfl rfl (by decide) (by assumption) (by assumption) ?_; intro _ _ _) | (refine wpList_fcmp rfl _ _ _ _ _ rfl _ _ _ rfl rfl (by decide) (by assumption) (by assumption) (by first | assumption | rfl) ?_))
    go_ret
    exact ⟨rfl, rfl⟩
  · have hc : fcmp .neq .f32 u u = true := by rw [isN_ne, hn]
    have hu : u = 2143289344 := by
      have h := hx.canon
      rw [nf_nan hn] at h
      exact h.symm
    have HU : Hid (u = 2143289344) := hu
    clear hn hu
    go_enter Tryd.func55, Tryd.ntmps55
    go_wp2_with (first | (refine wpList_farith rfl _ _ _ _ _ rfl _ _ _ rfl rfl (by decide) (by assumption) (by assumption) ?_; intro _ _ _) | (refine wpList_fcmp rfl _ _ _ _ _ rfl _ _ _ rfl rfl (by decide) (by assumption) (by assumption) (by first | assumption | rfl) ?_))
    go_ret
    exact ⟨by rw [HU.out]; rfl, rfl⟩

/-! ### the laws -/

end Go.Proofs.YtgfnchggflecgaaDoor
