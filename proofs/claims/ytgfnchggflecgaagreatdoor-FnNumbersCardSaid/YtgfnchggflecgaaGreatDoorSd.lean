/-
  SLICES of 32-bit numbers: sums, products.
  Own work; no condition beyond what each theorem names.
-/
import Derived.Test.YtgfnchggflecgaaGreatDoorSc
namespace Go.Proofs.YtgfnchggflecgaaGreatDoor
open Go.RowKit
attribute [local go_sem] opS fineS givesS

/-- A sum from left to right. -/
def sumF (l : List Nat) : Nat := l.foldl (fbin .add .f32) 0
theorem sumF_succ (l : List Nat) (k : Nat) (h : k < l.length) : sumF (l.take (k + 1)) = fbin .add .f32 (sumF (l.take k)) (l.getD k 0) := by
  unfold sumF
  rw [List.take_succ_eq_append_getElem h, List.foldl_append]
  simp [List.getD, h]
/-- A sum of products. -/
def dotF (a b : List Nat) : Nat := (a.zip b).foldl (fun s x => fbin .add .f32 s (fbin .mul .f32 x.1 x.2)) 0
theorem dotF_succ (a b : List Nat) (k : Nat) (h : k < a.length) (hb : a.length = b.length) :
    ((a.zip b).take (k + 1)).foldl (fun s x => fbin .add .f32 s (fbin .mul .f32 x.1 x.2)) 0 = fbin .add .f32 (((a.zip b).take k).foldl (fun s x => fbin .add .f32 s (fbin .mul .f32 x.1 x.2)) 0) (fbin .mul .f32 (a.getD k 0) (b.getD k 0)) := by
  have hl : k < (a.zip b).length := by simp; omega
  rw [List.take_succ_eq_append_getElem hl, List.foldl_append]
  simp [List.getD, h, show k < b.length by omega]

theorem dotF_take_succ (a b : List Nat) (k : Nat) (h : k < a.length) (hb : a.length = b.length) :
    dotF (a.take (k + 1)) (b.take (k + 1)) = fbin .add .f32 (dotF (a.take k) (b.take k)) (fbin .mul .f32 (a.getD k 0) (b.getD k 0)) := by
  have := dotF_succ a b k h hb
  unfold dotF
  simp only [List.zip_eq_zipWith, ← List.take_zipWith] at this ⊢
  exact this
set_option maxHeartbeats 400000 in
theorem SumNumbers_few (p : Option Addr) (cap : Nat) (zs : List Nat) (w : World) (hs : SL (.float .f32) 0 w p zs) (hz : ∀ z ∈ zs, z < 4294967296) (hm : zs.length ≤ 256) :
    Calls Tryz.prog 11 #[.slice p zs.length cap] w fun e w' => (∃ r, e = .returned (.tuple #[.float .f32 r, .bool true]) ∧ Fl .f32 r (sumF (us zs))) ∧ Dr w w' := by
  have HS := hid hs
  have HZ := hid hz
  clear hs hz
  have b1 : decide ((256 : Int) < zs.length) = false := decide_eq_false (by omega)
  go_enter Tryz.func11, Tryz.ntmps11
  go_wp2
  go_loopw [4, 12] (fun s i wr => ∃ k r : Nat, k ≤ zs.length ∧ i = .int .i64 k ∧ s = .float .f32 r ∧ Hid (Fl .f32 r (sumF ((us zs).take k))) ∧ ∃ n, wr = w.drewN n) (fun _ i _ => zs.length - (intOf i).toNat)
  case atStart => exact ⟨0, 0, Nat.zero_le _, rfl, rfl, fz32, 0, rfl⟩
  case round =>
    obtain ⟨k, r, hk, rfl, rfl, HF, n, rfl⟩ := hrel
    by_cases hlt : k < zs.length
    · obtain ⟨b, off, rfl, hc⟩ := HS.out k hlt
      have f1 := us_fl HZ.out hlt
      have HT := hid (sumF_succ (us zs) k (by rw [us_len]; exact hlt))
      have f2 : Fl .f32 r (sumF ((us zs).take k)) := HF.out
      generalize (us zs).getD k 0 = u at *
      generalize zs.getD k 0 = x at *
      generalize sumF ((us zs).take k) = v at *
      go_wp2_with (first | (refine wpList_farith rfl _ _ _ _ _ rfl _ _ _ rfl rfl (by decide) (by assumption) (by assumption) ?_; intro _ _ _))
      go_roundw
      case rel => exact ⟨k + 1, _, by omega, by go_num, rfl, by unfold Hid; rw [HT.out]; assumption, _, rfl⟩
      case measure => simp [intOf]; omega
    · have HK := hid (show k = zs.length by omega)
      go_wp2
      go_ret2
      refine ⟨⟨r, rfl, ?_⟩, _, rfl⟩
      have h := HF.out
      rw [HK.out, ← us_len zs, List.take_length] at h
      exact h
/-- What SumNumbers gives. -/
def sumV (l : List Nat) : Nat := if l.length ≤ 256 then sumF l else 0
set_option maxHeartbeats 400000 in
theorem SumNumbers_any (p : Option Addr) (cap : Nat) (zs : List Nat) (w : World) (hs : SL (.float .f32) 0 w p zs) (hz : ∀ z ∈ zs, z < 4294967296) (hm : zs.length ≤ 1048576) :
    Calls Tryz.prog 11 #[.slice p zs.length cap] w fun e w' => (∃ r, e = .returned (.tuple #[.float .f32 r, .bool (decide (zs.length ≤ 256))]) ∧ Fl .f32 r (sumV (us zs))) ∧ Dr w w' := by
  by_cases h : zs.length ≤ 256
  · refine (SumNumbers_few p cap zs w hs hz h).mono ?_
    rintro e w' ⟨⟨r, rfl, hr⟩, hd⟩
    rw [decide_eq_true h]
    exact ⟨⟨r, rfl, by unfold sumV; rw [us_len, if_pos h]; exact hr⟩, hd⟩
  · have HV : Hid (sumV (us zs) = 0) := by unfold sumV Hid; rw [us_len, if_neg h]
    have HD := hid (decide_eq_false h)
    clear hs hz h
    have b1 : decide ((256 : Int) < zs.length) = true := decide_eq_true (by have := of_decide_eq_false HD.out; omega)
    go_enter Tryz.func11, Tryz.ntmps11
    go_wp2
    go_ret2
    exact ⟨⟨0, by rw [HD.out]; rfl, by rw [HV.out]; exact fz32⟩, 0, rfl⟩
/-- What DotNumbers gives. -/
def dotV (a b : List Nat) : Nat := if a.length ≤ 256 ∧ a.length = b.length then dotF a b else 0
end Go.Proofs.YtgfnchggflecgaaGreatDoor
