/-
  POWERS, PLAIN: products of powers. Printed by wip/tools/gen_pow.py. Own work.
-/
import Derived.Test.YtfcmbmlhfejigaaFx
namespace Go.Proofs.Ytfcmbmlhfejigaa
set_option exponentiation.threshold 2000
def mulOk (a b c : Nat) : Bool := fcmp .lss .f64 (gapV (fbin .mul .f64 (fwide a) (fwide b)) (fwide c)) (fbin .mul .f64 4562254508917369340 (fwide c))
theorem mul_tab0 : ∀ i : _root_.Fin 5, ∀ j : _root_.Fin 65, mulOk (tabV.getD (i.val + 32) 0) (tabV.getD (j.val + 32) 0) (tabV.getD (i.val + 0 + j.val) 0) = true := by decide +kernel
theorem mul_tab1 : ∀ i : _root_.Fin 5, ∀ j : _root_.Fin 65, mulOk (tabV.getD (i.val + 37) 0) (tabV.getD (j.val + 32) 0) (tabV.getD (i.val + 5 + j.val) 0) = true := by decide +kernel
theorem mul_tab2 : ∀ i : _root_.Fin 5, ∀ j : _root_.Fin 65, mulOk (tabV.getD (i.val + 42) 0) (tabV.getD (j.val + 32) 0) (tabV.getD (i.val + 10 + j.val) 0) = true := by decide +kernel
theorem mul_tab3 : ∀ i : _root_.Fin 5, ∀ j : _root_.Fin 65, mulOk (tabV.getD (i.val + 47) 0) (tabV.getD (j.val + 32) 0) (tabV.getD (i.val + 15 + j.val) 0) = true := by decide +kernel
theorem mul_tab4 : ∀ i : _root_.Fin 5, ∀ j : _root_.Fin 65, mulOk (tabV.getD (i.val + 52) 0) (tabV.getD (j.val + 32) 0) (tabV.getD (i.val + 20 + j.val) 0) = true := by decide +kernel
theorem mul_tab5 : ∀ i : _root_.Fin 5, ∀ j : _root_.Fin 65, mulOk (tabV.getD (i.val + 57) 0) (tabV.getD (j.val + 32) 0) (tabV.getD (i.val + 25 + j.val) 0) = true := by decide +kernel
theorem mul_tab6 : ∀ i : _root_.Fin 5, ∀ j : _root_.Fin 65, mulOk (tabV.getD (i.val + 62) 0) (tabV.getD (j.val + 32) 0) (tabV.getD (i.val + 30 + j.val) 0) = true := by decide +kernel
theorem mul_tab7 : ∀ i : _root_.Fin 5, ∀ j : _root_.Fin 65, mulOk (tabV.getD (i.val + 67) 0) (tabV.getD (j.val + 32) 0) (tabV.getD (i.val + 35 + j.val) 0) = true := by decide +kernel
theorem mul_tab8 : ∀ i : _root_.Fin 5, ∀ j : _root_.Fin 65, mulOk (tabV.getD (i.val + 72) 0) (tabV.getD (j.val + 32) 0) (tabV.getD (i.val + 40 + j.val) 0) = true := by decide +kernel
theorem mul_tab9 : ∀ i : _root_.Fin 5, ∀ j : _root_.Fin 65, mulOk (tabV.getD (i.val + 77) 0) (tabV.getD (j.val + 32) 0) (tabV.getD (i.val + 45 + j.val) 0) = true := by decide +kernel
theorem mul_tab10 : ∀ i : _root_.Fin 5, ∀ j : _root_.Fin 65, mulOk (tabV.getD (i.val + 82) 0) (tabV.getD (j.val + 32) 0) (tabV.getD (i.val + 50 + j.val) 0) = true := by decide +kernel
theorem mul_tab11 : ∀ i : _root_.Fin 5, ∀ j : _root_.Fin 65, mulOk (tabV.getD (i.val + 87) 0) (tabV.getD (j.val + 32) 0) (tabV.getD (i.val + 55 + j.val) 0) = true := by decide +kernel
theorem mul_tab12 : ∀ i : _root_.Fin 5, ∀ j : _root_.Fin 65, mulOk (tabV.getD (i.val + 92) 0) (tabV.getD (j.val + 32) 0) (tabV.getD (i.val + 60 + j.val) 0) = true := by decide +kernel
theorem mul_tab {i j : Nat} (hi : i < 65) (hj : j < 65) : mulOk (tabV.getD (i + 32) 0) (tabV.getD (j + 32) 0) (tabV.getD (i + j) 0) = true := by
  obtain ⟨c, r, hc, hr, rfl⟩ : ∃ c r : Nat, c < 13 ∧ r < 5 ∧ i = r + 5 * c := ⟨i / 5, i % 5, by omega, by omega, by omega⟩
  have hcc : c = 0 ∨ c = 1 ∨ c = 2 ∨ c = 3 ∨ c = 4 ∨ c = 5 ∨ c = 6 ∨ c = 7 ∨ c = 8 ∨ c = 9 ∨ c = 10 ∨ c = 11 ∨ c = 12 := by omega
  rcases hcc with rfl | rfl | rfl | rfl | rfl | rfl | rfl | rfl | rfl | rfl | rfl | rfl | rfl
  · have h := mul_tab0 ⟨r, hr⟩ ⟨j, hj⟩
    dsimp only at h
    rw [show r + 5 * 0 + 32 = r + 32 by omega, show r + 5 * 0 + j = r + 0 + j by omega]
    exact h
  · have h := mul_tab1 ⟨r, hr⟩ ⟨j, hj⟩
    dsimp only at h
    rw [show r + 5 * 1 + 32 = r + 37 by omega, show r + 5 * 1 + j = r + 5 + j by omega]
    exact h
  · have h := mul_tab2 ⟨r, hr⟩ ⟨j, hj⟩
    dsimp only at h
    rw [show r + 5 * 2 + 32 = r + 42 by omega, show r + 5 * 2 + j = r + 10 + j by omega]
    exact h
  · have h := mul_tab3 ⟨r, hr⟩ ⟨j, hj⟩
    dsimp only at h
    rw [show r + 5 * 3 + 32 = r + 47 by omega, show r + 5 * 3 + j = r + 15 + j by omega]
    exact h
  · have h := mul_tab4 ⟨r, hr⟩ ⟨j, hj⟩
    dsimp only at h
    rw [show r + 5 * 4 + 32 = r + 52 by omega, show r + 5 * 4 + j = r + 20 + j by omega]
    exact h
  · have h := mul_tab5 ⟨r, hr⟩ ⟨j, hj⟩
    dsimp only at h
    rw [show r + 5 * 5 + 32 = r + 57 by omega, show r + 5 * 5 + j = r + 25 + j by omega]
    exact h
  · have h := mul_tab6 ⟨r, hr⟩ ⟨j, hj⟩
    dsimp only at h
    rw [show r + 5 * 6 + 32 = r + 62 by omega, show r + 5 * 6 + j = r + 30 + j by omega]
    exact h
  · have h := mul_tab7 ⟨r, hr⟩ ⟨j, hj⟩
    dsimp only at h
    rw [show r + 5 * 7 + 32 = r + 67 by omega, show r + 5 * 7 + j = r + 35 + j by omega]
    exact h
  · have h := mul_tab8 ⟨r, hr⟩ ⟨j, hj⟩
    dsimp only at h
    rw [show r + 5 * 8 + 32 = r + 72 by omega, show r + 5 * 8 + j = r + 40 + j by omega]
    exact h
  · have h := mul_tab9 ⟨r, hr⟩ ⟨j, hj⟩
    dsimp only at h
    rw [show r + 5 * 9 + 32 = r + 77 by omega, show r + 5 * 9 + j = r + 45 + j by omega]
    exact h
  · have h := mul_tab10 ⟨r, hr⟩ ⟨j, hj⟩
    dsimp only at h
    rw [show r + 5 * 10 + 32 = r + 82 by omega, show r + 5 * 10 + j = r + 50 + j by omega]
    exact h
  · have h := mul_tab11 ⟨r, hr⟩ ⟨j, hj⟩
    dsimp only at h
    rw [show r + 5 * 11 + 32 = r + 87 by omega, show r + 5 * 11 + j = r + 55 + j by omega]
    exact h
  · have h := mul_tab12 ⟨r, hr⟩ ⟨j, hj⟩
    dsimp only at h
    rw [show r + 5 * 12 + 32 = r + 92 by omega, show r + 5 * 12 + j = r + 60 + j by omega]
    exact h
end Go.Proofs.Ytfcmbmlhfejigaa
