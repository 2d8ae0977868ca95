/-
  ENTROPIES: bits, surprises, and sums over one or two rows. Own work; no condition beyond what each theorem names.
-/
import Derived.Test.YthlocjkmbmniaaaRa
import Derived.Test.YthlocjkmbmniaaaLb
namespace Go.Proofs.Ythlocjkmbmniaaa
open Go.RowKit
attribute [local go_sem] opS fineS givesS

/-! ### Folds -/
theorem fold_succ (f : Nat → Nat → Nat) (l : List Nat) (k : Nat) (h : k < l.length) : (l.take (k + 1)).foldl f 0 = f ((l.take k).foldl f 0) (l.getD k 0) := by
  rw [List.take_succ_eq_append_getElem h, List.foldl_append]
  simp [List.getD, h]
/-- A sum over two lists. -/
def fold2 (f : Nat → Nat → Nat → Nat) (a b : List Nat) : Nat := (a.zip b).foldl (fun s x => f s x.1 x.2) 0
theorem fold2_succ (f : Nat → Nat → Nat → Nat) (a b : List Nat) (k : Nat) (h : k < a.length) (hb : a.length = b.length) :
    fold2 f (a.take (k + 1)) (b.take (k + 1)) = f (fold2 f (a.take k) (b.take k)) (a.getD k 0) (b.getD k 0) := by
  have hl : k < (a.zip b).length := by simp; omega
  have : ((a.zip b).take (k + 1)).foldl (fun s x => f s x.1 x.2) 0 = f (((a.zip b).take k).foldl (fun s x => f s x.1 x.2) 0) (a.getD k 0) (b.getD k 0) := by
    rw [List.take_succ_eq_append_getElem hl, List.foldl_append]
    simp [List.getD, h, show k < b.length by omega]
  unfold fold2
  simp only [List.zip_eq_zipWith, ← List.take_zipWith] at this ⊢
  exact this

/-! ### Good numbers -/
theorem goodU_parts {u : Nat} (h : goodU u = true) : finB u = true ∧ fcmp .geq .f32 u 0 = true := by
  unfold goodU at h
  exact Bool.and_eq_true_iff.1 h
theorem good_notN {u : Nat} (h : goodU u = true) : isN .f32 u = false := by
  cases hn : isN .f32 u
  · rfl
  · have := (goodU_parts h).2
    rw [fcmp_nan_left (by decide) hn] at this
    exact absurd this (by decide)
theorem good_ne {u : Nat} (h : goodU u = true) : fcmp .neq .f32 u 0 = fcmp .gtr .f32 u 0 := by
  have hn := good_notN h
  have hg := (goodU_parts h).2
  have hz : isN .f32 0 = false := by decide
  have hk : key .f32 0 = 0 := by decide
  rw [fge_key hn hz, hk] at hg
  have hg := of_decide_eq_true hg
  rw [fne_key hn hz, fgt_key hn hz, hk]
  exact decide_eq_decide.2 (by omega)
theorem row_good {l : List Nat} (h : isRowB l = true) {j : Nat} (hj : j < l.length) : goodU (l.getD j 0) = true := by
  cases hg : goodU (l.getD j 0)
  · unfold isRowB at h
    rw [rowC_bad hj hg] at h
    simp at h
  · rfl
theorem row_len {l : List Nat} (h : isRowB l = true) : 1 ≤ l.length ∧ l.length ≤ 32 := by
  unfold isRowB at h
  exact of_decide_eq_true (Bool.and_eq_true_iff.1 h).1

/-! ### Numbers that are finite -/
def numV (u : Nat) : Nat := if finB u then u else 0
theorem asNumber_any (x u : Nat) (hx : Fl .f32 x u) (w : World) :
    Calls Try.prog 62 #[.float .f32 x] w fun e w' => (∃ r, e = .returned (.tuple #[.float .f32 r, .bool (finB u)]) ∧ Fl .f32 r (numV u)) ∧ Dr w w' := by
  have HV : Hid (numV u = if finB u then u else 0) := rfl
  cases hf : finB u
  all_goals
    go_enter Try.func62, Try.ntmps62
    go_wp2_with (first | (go_at_call 49; refine (IsFinite_any _ _ hx _).mono ?_; rw [hf]; rintro e w' ⟨rfl, n, rfl⟩))
    go_ret2
    exact ⟨⟨_, rfl, by rw [HV.out, hf]; first | exact hx | exact fz32⟩, _, rfl⟩
theorem l02Number_any (x u : Nat) (hx : Fl .f32 x u) (w : World) :
    Calls Try.prog 64 #[.float .f32 x] w fun e w' => (∃ r, e = .returned (.tuple #[.float .f32 r, .bool (finB u)]) ∧ Fl .f32 r (numV u)) ∧ Dr w w' := by
  have HV : Hid (numV u = if finB u then u else 0) := rfl
  cases hf : finB u
  all_goals
    go_enter Try.func64, Try.ntmps64
    go_wp2_with (first | (go_at_call 70; refine (l01Finite_any _ _ hx _).mono ?_; rw [hf]; rintro e w' ⟨rfl, n, rfl⟩))
    go_ret2
    exact ⟨⟨_, rfl, by rw [HV.out, hf]; first | exact hx | exact fz32⟩, _, rfl⟩

/-! ### Bits -/
def bitsV (u : Nat) : Nat := fbin .quo .f32 (logV u) 1060205080
theorem bitsOf_any (x u : Nat) (hx : Fl .f32 x u) (w : World) :
    Calls Try.prog 66 #[.float .f32 x] w fun e w' => (∃ r, e = .returned (.float .f32 r) ∧ Fl .f32 r (bitsV u)) ∧ Dr w w' := by
  have fl : Fl .f32 1060205080 1060205080 := Fl.lit (by decide) (by decide)
  have HV : Hid (bitsV u = fbin .quo .f32 (logV u) 1060205080) := rfl
  go_enter Try.func66, Try.ntmps66
  go_wp2_with (first | (refine wpList_farith rfl _ _ _ _ _ rfl _ _ _ rfl rfl (by decide) (by assumption) (by assumption) ?_; intro _ _ _) | (refine wpList_fcmp rfl _ _ _ _ _ rfl _ _ _ rfl rfl (by decide) (by assumption) (by assumption) (by first | assumption | rfl) ?_) | (go_at_call 29; refine (LogNumber_any _ _ hx _).mono ?_; rintro e w' ⟨⟨r2, rfl, hr2⟩, n2, rfl⟩))
  go_ret
  exact ⟨⟨_, rfl, by rw [HV.out]; assumption⟩, _, rfl⟩
theorem l02Bits_any (x u : Nat) (hx : Fl .f32 x u) (w : World) :
    Calls Try.prog 65 #[.float .f32 x] w fun e w' => (∃ r, e = .returned (.float .f32 r) ∧ Fl .f32 r (bitsV u)) ∧ Dr w w' := by
  have fl : Fl .f32 1060205080 1060205080 := Fl.lit (by decide) (by decide)
  have HV : Hid (bitsV u = fbin .quo .f32 (logV u) 1060205080) := rfl
  go_enter Try.func65, Try.ntmps65
  go_wp2_with (first | (refine wpList_farith rfl _ _ _ _ _ rfl _ _ _ rfl rfl (by decide) (by assumption) (by assumption) ?_; intro _ _ _) | (refine wpList_fcmp rfl _ _ _ _ _ rfl _ _ _ rfl rfl (by decide) (by assumption) (by assumption) (by first | assumption | rfl) ?_) | (go_at_call 55; refine (l01Log_any _ _ hx _).mono ?_; rintro e w' ⟨⟨r2, rfl, hr2⟩, n2, rfl⟩))
  go_ret
  exact ⟨⟨_, rfl, by rw [HV.out]; assumption⟩, _, rfl⟩

/-! ### A surprise -/
def openB (u : Nat) : Bool := fcmp .gtr .f32 u 0 && fcmp .leq .f32 u 1065353216
def negBits (u : Nat) : Nat := fbin .sub .f32 0 (bitsV u)
def surB (u : Nat) : Bool := openB u && finB (negBits u)
def surV (u : Nat) : Nat := if openB u then numV (negBits u) else 0
theorem openB_share (u : Nat) : openB u = (fcmp .geq .f32 u 0 && fcmp .leq .f32 u 1065353216 && !fcmp .eql .f32 u 0) := by
  unfold openB
  cases hn : isN .f32 u
  · have hz : isN .f32 0 = false := by decide
    rw [fgt_key hn hz, fge_key hn hz, feq_key hn hz]
    generalize fcmp .leq .f32 u 1065353216 = b
    rcases Int.lt_trichotomy (key .f32 0) (key .f32 u) with h | h | h
    · rw [decide_eq_true h, decide_eq_true (show key .f32 0 ≤ key .f32 u by omega), decide_eq_false (show ¬ key .f32 u = key .f32 0 by omega)]; simp
    · rw [decide_eq_false (show ¬ key .f32 0 < key .f32 u by omega), decide_eq_true (show key .f32 u = key .f32 0 by omega)]; simp
    · rw [decide_eq_false (show ¬ key .f32 0 < key .f32 u by omega), decide_eq_false (show ¬ key .f32 0 ≤ key .f32 u by omega)]; simp
  · rw [fcmp_nan_left (by decide) hn, fcmp_nan_left (by decide) hn, fcmp_nan_left (by decide) hn]; rfl
theorem SurpriseOf_any (x u : Nat) (hx : Fl .f32 x u) (w : World) :
    Calls Try.prog 33 #[.float .f32 x] w fun e w' => (∃ r, e = .returned (.tuple #[.float .f32 r, .bool (surB u)]) ∧ Fl .f32 r (surV u)) ∧ Dr w w' := by
  have h0 := fz32
  have h1 : Fl .f32 1065353216 1065353216 := fone32
  have HN : Hid (negBits u = fbin .sub .f32 0 (bitsV u)) := rfl
  have HB : Hid (surB u = ((fcmp .gtr .f32 u 0 && fcmp .leq .f32 u 1065353216) && finB (negBits u))) := rfl
  have HV : Hid (surV u = if (fcmp .gtr .f32 u 0 && fcmp .leq .f32 u 1065353216) then numV (negBits u) else 0) := rfl
  cases c1 : fcmp .gtr .f32 u 0 <;> cases c2 : fcmp .leq .f32 u 1065353216
  all_goals
    go_enter Try.func33, Try.ntmps33
    go_wp2_with (first | (refine wpList_farith rfl _ _ _ _ _ rfl _ _ _ rfl rfl (by decide) (by assumption) (by assumption) ?_; intro _ _ _) | (refine wpList_fcmp rfl _ _ _ _ _ rfl _ _ _ rfl rfl (by decide) (by assumption) (by assumption) (by first | assumption | rfl) ?_) | (go_at_call 66; refine (bitsOf_any _ _ hx _).mono ?_; rintro e w' ⟨⟨r2, rfl, hr2⟩, n2, rfl⟩) | (go_at_call 62; refine (asNumber_any _ (negBits u) (by rw [HN.out]; assumption) _).mono ?_; rintro e w' ⟨⟨r3, rfl, hr3⟩, n3, rfl⟩))
    go_ret2
    exact ⟨⟨_, by rw [HB.out, c1, c2]; rfl, by rw [HV.out, c1, c2]; first | exact fz32 | assumption⟩, by first | exact ⟨_, rfl⟩ | exact ⟨0, rfl⟩⟩
theorem sSurpriseOf_any (x u : Nat) (hx : Fl .f32 x u) (w : World) :
    Calls Try.prog 32 #[.float .f32 x] w fun e w' => (∃ r, e = .returned (.tuple #[.float .f32 r, .bool (surB u)]) ∧ Fl .f32 r (surV u)) ∧ Dr w w' := by
  have h0 := fz32
  have h1 : Fl .f32 1065353216 1065353216 := fone32
  have HN : Hid (negBits u = fbin .sub .f32 0 (bitsV u)) := rfl
  have HB : Hid (surB u = ((fcmp .geq .f32 u 0 && fcmp .leq .f32 u 1065353216 && !fcmp .eql .f32 u 0) && finB (negBits u))) := by unfold Hid surB; rw [openB_share]
  have HV : Hid (surV u = if (fcmp .geq .f32 u 0 && fcmp .leq .f32 u 1065353216 && !fcmp .eql .f32 u 0) then numV (negBits u) else 0) := by unfold Hid surV; rw [openB_share]
  have HS : ∀ w : World, Calls Try.prog 63 #[.float .f32 x] w fun e w' => e = .returned (.bool (fcmp .geq .f32 u 0 && fcmp .leq .f32 u 1065353216)) ∧ Dr w w' := by
    intro w
    clear HB HV HN
    cases c1 : fcmp .geq .f32 u 0 <;> cases c2 : fcmp .leq .f32 u 1065353216
    all_goals
      go_enter Try.func63, Try.ntmps63
      go_wp2_with (first | (refine wpList_farith rfl _ _ _ _ _ rfl _ _ _ rfl rfl (by decide) (by assumption) (by assumption) ?_; intro _ _ _) | (refine wpList_fcmp rfl _ _ _ _ _ rfl _ _ _ rfl rfl (by decide) (by assumption) (by assumption) (by first | assumption | rfl) ?_))
      go_ret
      exact ⟨rfl, 0, rfl⟩
  cases c1 : fcmp .geq .f32 u 0 <;> cases c2 : fcmp .leq .f32 u 1065353216 <;> cases c3 : fcmp .eql .f32 u 0
  all_goals
    rw [c1, c2] at HS
    have HSS := hid HS
    clear HS
    go_enter Try.func32, Try.ntmps32
    go_wp2_with (first | (refine wpList_farith rfl _ _ _ _ _ rfl _ _ _ rfl rfl (by decide) (by assumption) (by assumption) ?_; intro _ _ _) | (refine wpList_fcmp rfl _ _ _ _ _ rfl _ _ _ rfl rfl (by decide) (by assumption) (by assumption) (by first | assumption | rfl) ?_) | (go_at_call 63; refine (HSS.out _).mono ?_; rintro e w' ⟨rfl, n1, rfl⟩) | (go_at_call 65; refine (l02Bits_any _ _ hx _).mono ?_; rintro e w' ⟨⟨r2, rfl, hr2⟩, n2, rfl⟩) | (go_at_call 64; refine (l02Number_any _ (negBits u) (by rw [HN.out]; assumption) _).mono ?_; rintro e w' ⟨⟨r3, rfl, hr3⟩, n3, rfl⟩))
    go_ret2
    exact ⟨⟨_, by rw [HB.out, c1, c2, c3]; rfl, by rw [HV.out, c1, c2, c3]; first | exact fz32 | assumption⟩, _, rfl⟩
theorem FnExactSurpriseOf_walk (a0 : Nat) (w : World) (w0 : (Lit.float .f32 a0).wf = true) :
    Calls Try.prog 10 #[.float .f32 a0] w fun e w' => e = .returned (.bool true) ∧ Below w.heap.size w w' := by
  have hx := fl_of_wf w0
  generalize nf .f32 a0 = u at hx
  have HB := hid (show ∀ w : World, _ from fun w => sSurpriseOf_any _ _ hx w)
  have HC := hid (show ∀ w : World, _ from fun w => SurpriseOf_any _ _ hx w)
  generalize surV u = v at HB HC
  generalize surB u = b at HB HC
  go_enter Try.func10, Try.ntmps10
  cases b
  all_goals
    go_wp2_with (first | (refine wpList_fwide rfl _ _ _ rfl _ rfl (Option.isSome_iff_exists.2 ⟨_, (by with_reducible exact Try.underlying23)⟩) (by with_reducible exact Try.underlying28) (by assumption) ?_; intro _ _ _) | (go_at_call 32; refine (HB.out _).mono ?_; rintro e w' ⟨⟨r, rfl, hr⟩, n, rfl⟩) | (go_at_call 33; refine (HC.out _).mono ?_; rintro e w' ⟨⟨r2, rfl, hr2⟩, n2, rfl⟩) | (go_at_call 18; refine (sameFloat_true _ _ (fwide v) (by assumption) (by assumption) _).mono ?_; rintro e w' ⟨rfl, n3, rfl⟩))
    go_ret
    exact ⟨rfl, below_drewN (Below.refl _ _) _⟩
end Go.Proofs.Ythlocjkmbmniaaa
