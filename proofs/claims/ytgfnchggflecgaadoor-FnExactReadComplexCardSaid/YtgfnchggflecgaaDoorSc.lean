/-
  SLICES of 32-bit numbers: copies, equality, sums, products.
  Own work; no condition beyond what each theorem names.
-/
import Derived.Test.YtgfnchggflecgaaDoorSa
import Derived.Test.YtgfnchggflecgaaDoorQf
import Derived.BigQuiet
import Derived.Deep.QuietTactic
namespace Go.Proofs.YtgfnchggflecgaaDoor
open Go.RowKit

theorem run_store_float (P : Program) (w : World) (a : Addr) (m : Mode) (k : FloatKind) (b : Nat) : (store a (.float k b) m).run P w = stored P w a (.float k b) m := run_store P w a _ m rfl
attribute [local go_sem] run_store_float opS fineS givesS

theorem info_f32 : (Tryd.prog.info? 46).map (fun i => (i.zero, i.size, i.bytes)) = some (some (.float .f32 0), 1, 4) := by kernel_rfl
set_option maxHeartbeats 400000 in
theorem toFloat32S_any (p : Option Addr) (cap : Nat) (zs : List Nat) (w : World) (hs : SL (.float .f32) 0 w p zs) (hm : zs.length ≤ 1048576) :
    Calls Tryd.prog 25 #[.slice p zs.length cap] w fun e w' => (∃ g, e = .returned (.slice (some ⟨g, 0, none⟩) zs.length zs.length) ∧ w.heap.size ≤ g ∧
      w'.ownsRow w.heap.size 46 1 (.slice (some ⟨g, 0, none⟩) zs.length zs.length) zs.length (zs.map (.float .f32))) ∧ Below w.heap.size w w' := by
  obtain ⟨i0, hi, hz0, hz1, hz2⟩ := info_parts info_f32
  go_enter Tryd.func25, Tryd.ntmps25
  go_wp2_with (at_make; refine wpList_make_full _ rfl _ _ 22 rfl w.heap.size 46 i0 (.float .f32 0) 1 Tryd.underlying22 hi hz0 hz1 _ _ _ _ zs.length rfl rfl rfl rfl (by rw [hz2]; omega) (by unfold maxLen; omega) (Nat.le_refl _) ?_; intro w1 hown hgrow)
  have hb0 : Below w.heap.size w w1 := (Below.refl _ _).grown hgrow (Nat.le_refl _) (fun k hk => by cases hk)
  have hmade : (madeCells (Value.float .f32 0).cells (zs.length * 1)).toList = (List.replicate zs.length (Value.float .f32 0)) := by
    rw [Nat.mul_one]; exact madeCells_one _ _
  have hown0 : w1.ownsRow w.heap.size 46 1 (.slice (some ⟨w.heap.size, 0, none⟩) zs.length zs.length) zs.length ((zs.take 0).map (.float .f32) ++ List.replicate (zs.length - 0) (.float .f32 0)) := by
    rw [hmade] at hown
    simpa using hown
  have HO := hid hown0
  have HB := hid hb0
  have HS := hid hs
  clear hown hown0 hgrow hb0 hs hmade hi hz0 hz1 hz2
  go_loopw [4] (fun i wr => ∃ k : Nat, k ≤ zs.length ∧ i = .int .i64 k ∧ Hid (wr.ownsRow w.heap.size 46 1 (.slice (some ⟨w.heap.size, 0, none⟩) zs.length zs.length) zs.length ((zs.take k).map (.float .f32) ++ List.replicate (zs.length - k) (.float .f32 0))) ∧ Hid (Below w.heap.size w wr)) (fun i _ => zs.length - (intOf i).toNat)
  case atStart => exact ⟨0, Nat.zero_le _, rfl, HO, HB⟩
  case round =>
    obtain ⟨k, hk, rfl, HO1, HB1⟩ := hrel
    by_cases hlt : k < zs.length
    · obtain ⟨b, off, rfl, hc⟩ := HS.out k hlt
      have hbl := World.block_lt_of_cell? w _ hc
      have hc1 : wr.cell? ⟨b, off + k, none⟩ = some (.float .f32 (zs.getD k 0)) := by rw [HB1.out.cell (p := ⟨b, off + k, none⟩) hbl]; exact hc
      have hc2 : ∃ v, wr.cell? ⟨w.heap.size, k, none⟩ = some v := by
        have := HO1.out.cellAt k (by omega)
        rw [this]
        exact ⟨_, List.getElem?_eq_getElem (by simp; omega)⟩
      obtain ⟨v, hc2⟩ := hc2
      have hf2 : wr.frozen? ⟨w.heap.size, k, none⟩ = false := HO1.out.frozenAt k
      have HR := hid (set_row (.float .f32) zs 0 (.float .f32 0) k hlt)
      clear hc hbl
      go_wp2
      go_roundw
      case rel =>
        refine ⟨k + 1, by omega, by go_num, ?_, ?_⟩
        · have h := (HO1.out.stored k (.float .f32 (zs.getD k 0))).1
          rw [HR.out] at h
          simpa [List.getD, Hid, hlt] using h
        · have h := HB1.out.setCell (p := ⟨w.heap.size, k, none⟩) (Nat.le_refl _) (.float .f32 (zs.getD k 0))
          simpa [List.getD, Hid, hlt] using h
      case measure => simp [intOf]; omega
    · have hkk : k = zs.length := by omega
      have HK := hid hkk
      clear hkk
      go_wp2
      go_ret
      refine ⟨⟨_, rfl, Nat.le_refl _, ?_⟩, HB1.out⟩
      have h := HO1.out
      rw [HK.out] at h
      simpa using h

/-- The numbers that words stand for. -/
def us (zs : List Nat) : List Nat := zs.map (nf .f32)
theorem us_len (zs : List Nat) : (us zs).length = zs.length := by simp [us]
theorem us_fl {zs : List Nat} (h : ∀ z ∈ zs, z < 4294967296) {k : Nat} (hk : k < zs.length) : Fl .f32 (zs.getD k 0) ((us zs).getD k 0) := by
  have e : (us zs).getD k 0 = nf .f32 (zs.getD k 0) := by simp [us, List.getD, hk]
  rw [e]
  exact Fl.self (h _ (by simp [List.getD, hk]))

set_option maxHeartbeats 400000 in
theorem eqFloat32S_same (p q : Option Addr) (c1 c2 : Nat) (xs ys : List Nat) (w : World) (hp : SL (.float .f32) 0 w p xs) (hq : SL (.float .f32) 0 w q ys) (hx : ∀ z ∈ xs, z < 4294967296) (hy : ∀ z ∈ ys, z < 4294967296)
    (he : us xs = us ys) (hm : xs.length ≤ 9223372036854775807) (n2 : Nat) (hn2 : n2 = xs.length) :
    Calls Tryd.prog 10 #[.slice p xs.length c1, .slice q n2 c2] w fun e w' => e = .returned (.bool true) ∧ Dr w w' := by
  subst hn2
  have hl : ys.length = xs.length := by rw [← us_len ys, ← he, us_len]
  have HP := hid hp
  have HQ := hid hq
  have HX := hid hx
  have HY := hid hy
  have HE := hid he
  have HL := hid hl
  clear hp hq hx hy he hl
  go_enter Tryd.func10, Tryd.ntmps10
  go_wp2
  go_loopw [5] (fun i wr => ∃ k : Nat, k ≤ xs.length ∧ i = .int .i64 k ∧ ∃ n, wr = w.drewN n) (fun i _ => xs.length - (intOf i).toNat)
  case atStart => exact ⟨0, Nat.zero_le _, rfl, 0, rfl⟩
  case round =>
    obtain ⟨k, hk, rfl, n, rfl⟩ := hrel
    by_cases hlt : k < xs.length
    · obtain ⟨b, off, rfl, hc⟩ := HP.out k hlt
      obtain ⟨b2, off2, rfl, hc2⟩ := HQ.out k (by rw [HL.out]; exact hlt)
      have hI : (k : Int) < (xs.length : Int) := by omega
      have f1 := us_fl HX.out hlt
      have f2 := us_fl HY.out (by rw [HL.out]; exact hlt)
      rw [← HE.out] at f2
      generalize (us xs).getD k 0 = u at *
      generalize xs.getD k 0 = x at *
      generalize ys.getD k 0 = y at *
      go_wp2
      refine wp_region_mixN (fun _ _ v => v = .bool true) (by kernel_rfl) (by kernel_rfl) ?_
      simp only [List.map_cons, List.map_nil]
      repeat (refine mixS_step (fun K hK => ?_); first | (refine opS_fwide rfl _ _ _ rfl _ rfl (Option.isSome_iff_exists.2 ⟨_, (by with_reducible exact Tryd.underlying46)⟩) (by with_reducible exact Tryd.underlying49) (by assumption) ?_; intro _ _; refine hK _ ?_; clear hK K) | (go_simp; refine hK _ ?_; clear hK K) | (go_simp; refine ⟨fun m => ?_, hK _ ?_⟩; (refine (sameFloat_true _ _ _ (by assumption) (by assumption) _).mono ?_; rintro e w' ⟨rfl, m2, rfl⟩; exact ⟨_, rfl, rfl, _, World.drewN_drewN ..⟩); clear hK K))
      refine mixS_nil ?_
      rintro w' ⟨m, rfl⟩
      go_wp2
      go_roundw
      case rel => exact ⟨k + 1, by omega, by go_num, _, rfl⟩
      case measure => simp [intOf]; omega
    · go_wp2
      go_ret
      exact ⟨rfl, _, rfl⟩
end Go.Proofs.YtgfnchggflecgaaDoor
