/-
  NUMBERS READ BACK, plain. Own work; no condition beyond what each theorem names.
-/
import Derived.Test.YtgfnchggflecgaaGreatDoorWc
import Derived.Test.YtgfnchggflecgaaGreatDoorSd
import Derived.Test.YtgfnchggflecgaaGreatDoorLc
import Derived.Test.YtgfnchggflecgaaGreatDoorTv
namespace Go.Proofs.YtgfnchggflecgaaGreatDoor
open Go.RowKit
set_option linter.unusedVariables false

/-- What is written of numbers is read back. -/
theorem rn_back (vs : List Nat) (hv : ∀ v ∈ vs, v < 4294967296 ∧ nf .f32 v = v) (hm : vs.length ≤ 256) : RN (ntL vs) = some vs := by
  have hnt : ntL vs = jn (vs.map (hexN 8)) := by unfold ntL; rw [if_pos hm, nts_all]
  rw [hnt]
  cases vs with
  | nil => rfl
  | cons v r =>
    have hne : (v :: r).map (hexN 8) ≠ [] := by simp
    have hj : jn ((v :: r).map (hexN 8)) = Lib.join ((v :: r).map (hexN 8)) [44] := by unfold jn; rw [if_neg hne]
    have hc := cutL_join ((v :: r).map (hexN 8)) hne (fun x hx c hc => by
      obtain ⟨y, _, rfl⟩ := List.mem_map.1 hx
      exact hexN_mem _ _ c hc)
    rw [hj]
    have hnn : Lib.join ((v :: r).map (hexN 8)) [44] ≠ noneL := by
      intro h
      rw [h] at hc
      have h1 : cutL noneL = [noneL] := by decide
      rw [h1] at hc
      have h2 := congrArg (fun z : List (List UInt8) => (z.head?).map List.length) hc
      simp [hexN_len, noneL] at h2
    have hp : pcs (Lib.join ((v :: r).map (hexN 8)) [44]) = (v :: r).map (hexN 8) := by unfold pcs; rw [if_neg hnn, hc]
    unfold RN
    rw [hp, if_pos (by rw [List.length_map]; exact hm)]
    have key : ∀ l : List Nat, (∀ v ∈ l, v < 4294967296 ∧ nf .f32 v = v) → allR rdx (l.map (hexN 8)) = some l := by
      intro l hl
      have h3 := allR_map (f := rdx) (g := pnum) (xs := l.map (hexN 8)) (fun x hx => by
        obtain ⟨y, hy, rfl⟩ := List.mem_map.1 hx
        rw [pnum_hex (hl y hy).1]
        exact rdx_hex (hl y hy).1 (hl y hy).2)
      rw [h3, List.map_map]
      congr 1
      exact (List.map_congr_left (fun y hy => pnum_hex (hl y hy).1)).trans (List.map_id _)
    exact key _ hv
theorem us_canon {zs : List Nat} (hz : ∀ z ∈ zs, z < 4294967296) : ∀ v ∈ us zs, v < 4294967296 ∧ nf .f32 v = v := by
  intro v hv
  obtain ⟨z, hzz, rfl⟩ := List.mem_map.1 hv
  exact ⟨nf_lt (hz z hzz), nf_nf .f32 z⟩
theorem us_us {zs : List Nat} : us (us zs) = us zs := by
  unfold us
  rw [List.map_map]
  exact List.map_congr_left fun z _ => nf_nf .f32 z
theorem sub_flush (u : Nat) : isSub (flush u) = false := by
  cases h : isSub u
  · rw [flush_not h]; exact h
  · rw [flush_sub h]
    unfold isSub
    rw [rung32]
    apply decide_eq_false
    omega
theorem sub_same (u : Nat) : isSub u = !decide (u = flush u) := by
  cases h : isSub u
  · rw [flush_not h]; simp
  · rw [flush_sub h]
    have h2 := of_decide_eq_true h
    rw [rung32] at h2
    have : u ≠ u / 2147483648 * 2147483648 := by omega
    simp [this]
theorem sine_quarter : sineT 1048576000 = 1065353216 := by decide +kernel
end Go.Proofs.YtgfnchggflecgaaGreatDoor
