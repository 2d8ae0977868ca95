/-
  THE REFERENCE's SOURCE OF CHOICES. Own work; no condition beyond what each theorem names.
-/
import Derived.Test.YtgfnchggflecgaaGreatDoorWb
import Derived.Test.YtgfnchggflecgaaGreatDoorSa
import Derived.Test.YtgfnchggflecgaaGreatDoorQf
import Derived.Test.YtgfnchggflecgaaGreatDoorOa
import Derived.Lib.Hide
import Derived.Deep.QuietTactic
import Derived.BigQuiet
import Derived.BigRegion
namespace Go.Proofs.YtgfnchggflecgaaGreatDoor
open Go.RowKit
set_option linter.unusedVariables false

/-- A source lies in block b: its bytes, its place (at most N), its seed. -/
def SR (base : Nat) (w : World) (b : Nat) (p : Option Addr) (cap : Nat) (zs : List Int) (N : Nat) : Prop :=
  w.cell? ⟨b, 0, none⟩ = some (.slice p zs.length cap) ∧ (∃ k : Nat, k ≤ N ∧ w.cell? ⟨b, 1, none⟩ = some (.int .i64 k)) ∧ (∃ s : Nat, s < 18446744073709551616 ∧ w.cell? ⟨b, 2, none⟩ = some (.int .u64 s)) ∧
  (∀ t, w.frozen? ⟨b, t, none⟩ = false) ∧ SL (.int .u8) 0 w p zs ∧ base ≤ b ∧ b < w.heap.size ∧ (zs ≠ [] → ∀ a, p = some a → a.block < base) ∧ (∀ z ∈ zs, 0 ≤ z ∧ z ≤ 255) ∧ zs.length ≤ 1048576
theorem SR.put {base b : Nat} {p : Option Addr} {cap : Nat} {zs : List Int} {N : Nat} {w : World} (h : SR base w b p cap zs N) (k' : Nat) (hk : k' ≤ N + 1) (x : Int) (h0 : 0 ≤ x) (h1 : x < 18446744073709551616) (n m : Nat) (y : Int) (hy : y = (k' : Int)) :
    SR base ((((w.drewN n).setCell ⟨b, 1, none⟩ (.int .i64 y)).setCell ⟨b, 2, none⟩ (.int .u64 x)).drewN m) b p cap zs (N + 1) ∧ w.grownBy ((((w.drewN n).setCell ⟨b, 1, none⟩ (.int .i64 y)).setCell ⟨b, 2, none⟩ (.int .u64 x)).drewN m) (some b) := by
  subst hy
  obtain ⟨c0, ⟨k, hk0, c1⟩, ⟨s, hs, c2⟩, hf, hS, hb, hlt, hp, hz, hm⟩ := h
  have c1' : (w.drewN n).cell? ⟨b, 1, none⟩ = some (.int .i64 k) := by rw [World.cell?_drewN]; exact c1
  have hB : Below base w ((((w.drewN n).setCell ⟨b, 1, none⟩ (.int .i64 (k' : Int))).setCell ⟨b, 2, none⟩ (.int .u64 x)).drewN m) :=
    below_drewN (((below_drewN (Below.refl base w) n).setCell (p := ⟨b, 1, none⟩) hb _).setCell (p := ⟨b, 2, none⟩) hb _) m
  refine ⟨⟨?_, ⟨k', hk, ?_⟩, ⟨x.toNat, by omega, ?_⟩, fun t => ?_, hS.below hB hp, hb, ?_, hp, hz, hm⟩, (grown_setCell (grown_setCell (grown_drewN w n (some b)) rfl _) rfl _).trans (grown_drewN _ m _)⟩
  · rw [World.cell?_drewN, World.cell?_setCell_other _ _ _ _ (by simp), World.cell?_setCell_other _ _ _ _ (by simp), World.cell?_drewN]
    exact c0
  · rw [World.cell?_drewN, World.cell?_setCell_other _ _ _ _ (by simp)]
    exact World.cell?_setCell_same _ _ _ c1'
  · rw [World.cell?_drewN, Int.toNat_of_nonneg h0]
    refine World.cell?_setCell_same (u := .int .u64 s) _ _ _ ?_
    rw [World.cell?_setCell_other _ _ _ _ (by simp), World.cell?_drewN]
    exact c2
  · rw [World.frozen?_drewN, World.frozen?_setCell, World.frozen?_setCell, World.frozen?_drewN]
    exact hf t
  · have := hB.size
    exact Nat.lt_of_lt_of_le hlt (by simp)
theorem and255 (x : Int) : 0 ≤ bits .and .u64 x 255 ∧ bits .and .u64 x 255 ≤ 255 := by
  have e : ∃ n : Nat, n ≤ 255 ∧ bits .and .u64 x 255 = (n : Int) := by
    refine ⟨(BitVec.ofInt 64 x).toNat &&& 255, Nat.and_le_right, ?_⟩
    show IntKind.u64.wrap ((BitVec.ofInt 64 x &&& BitVec.ofInt 64 255).toNat : Int) = _
    have h : (BitVec.ofInt 64 255).toNat = 255 := by decide
    rw [BitVec.toNat_and, h, IntKind.wrap_u64]
    have : (BitVec.ofInt 64 x).toNat &&& 255 ≤ 255 := Nat.and_le_right
    omega
  obtain ⟨n, h1, h2⟩ := e
  omega
theorem and255w (x : Int) : ∃ r : Nat, r ≤ 255 ∧ wrap64 (bits .and .u64 x 255) = (r : Int) := by
  have h := and255 x
  refine ⟨(bits .and .u64 x 255).toNat, by omega, ?_⟩
  rw [Int.toNat_of_nonneg h.1]
  unfold wrap64
  omega
theorem wrap64_bd (x : Int) : 0 ≤ IntKind.u64.wrap x ∧ IntKind.u64.wrap x < 18446744073709551616 := by rw [IntKind.wrap_u64]; omega
set_option maxHeartbeats 1600000 in
theorem next_any (base b : Nat) (p : Option Addr) (cap : Nat) (zs : List Int) (N : Nat) (hN : N ≤ 1073741824) (w : World) (h : SR base w b p cap zs N) :
    Calls Tryz.prog 40 #[.pointer (some ⟨b, 0, none⟩)] w fun e w' => (∃ r : Nat, r ≤ 255 ∧ e = .returned (.int .i64 r)) ∧ SR base w' b p cap zs (N + 1) ∧ w.grownBy w' (some b) := by
  have HH := hid h
  obtain ⟨h0, ⟨k, hk, h1⟩, ⟨s, hs, h2⟩, hf, hS, hb, hlt, hp, hz, hm⟩ := h
  have hf1 := hf 1
  have hf2 := hf 2
  have HS := hid hS
  have HZ := hid hz
  have HP := hid hp
  have HF := hid hf
  clear hf hS hz hp
  by_cases hkn : k < zs.length
  · obtain ⟨b2, off2, rfl, hc⟩ := HS.out k hkn
    have hI : (k : Int) < (zs.length : Int) := by omega
    have hzb := HZ.out (zs.getD k 0) (by simp [List.getD, hkn])
    generalize zs.getD k 0 = z at *
    go_enter Tryz.func40, Tryz.ntmps40
    go_wp2
    go_quiet (fail)
    go_wp2
    go_quiet (fail)
    go_wp2
    go_quiet (fail)
    go_wp2
    go_ret
    exact ⟨⟨z.toNat, by omega, by rw [Int.toNat_of_nonneg hzb.1]; rfl⟩, HH.out.put (k + 1) (by omega) _ (wrap64_bd _).1 (wrap64_bd _).2 _ _ ((k : Int) + 1) (by omega)⟩
  · have hkl : ¬ (k : Int) < (zs.length : Int) := by omega
    go_enter Tryz.func40, Tryz.ntmps40
    go_wp2
    go_quiet (fail)
    go_wp2
    go_quiet (fail)
    go_wp2
    go_ret
    refine ⟨?_, HH.out.put (k + 1) (by omega) _ (wrap64_bd _).1 (wrap64_bd _).2 _ _ ((k : Int) + 1) (by omega)⟩
    obtain ⟨r, hr, e⟩ := and255w (IntKind.u64.wrap (IntKind.u64.wrap (IntKind.u64.wrap ((s : Int) * 6364136223846793005)) + 1442695040888963407) / 1099511627776)
    exact ⟨r, hr, by rw [← e]; rfl⟩
theorem l00From_any (p : Option Addr) (cap : Nat) (zs : List Int) (w : World) (hS : SL (.int .u8) 0 w p zs) (hz : ∀ z ∈ zs, 0 ≤ z ∧ z ≤ 255) (hm : zs.length ≤ 1048576) :
    Calls Tryz.prog 20 #[.slice p zs.length cap] w fun e w' => (∃ b, e = .returned (.pointer (some ⟨b, 0, none⟩)) ∧ SR w.heap.size w' b p cap zs 0) ∧ Below w.heap.size w w' := by
  have HS := hid hS
  clear hS
  go_enter Tryz.func20, Tryz.ntmps20
  go_wp2
  go_ret
  refine ⟨⟨w.heap.size, rfl, ?_, ⟨0, Nat.le_refl _, ?_⟩, ⟨0, by omega, ?_⟩, fun t => World.frozen?_alloc_new _ _ _ _, HS.out.below_all ((Below.refl _ _).alloc (Nat.le_refl _) _), Nat.le_refl _, by simp, fun h => HS.out.lt h, hz, hm⟩, (Below.refl _ _).alloc (Nat.le_refl _) _⟩
  · rw [World.cell?_alloc_new]; rfl
  · rw [World.cell?_alloc_new]; rfl
  · rw [World.cell?_alloc_new]; rfl
theorem SR.mono {base b : Nat} {p : Option Addr} {cap : Nat} {zs : List Int} {N M : Nat} {w : World} (h : SR base w b p cap zs N) (hm : N ≤ M) : SR base w b p cap zs M := by
  obtain ⟨c0, ⟨k, hk0, c1⟩, r⟩ := h
  exact ⟨c0, ⟨k, by omega, c1⟩, r⟩
theorem SR.below {base b : Nat} {p : Option Addr} {cap : Nat} {zs : List Int} {N : Nat} {w w' : World} (h : SR base w b p cap zs N) (hb : Below w.heap.size w w') : SR base w' b p cap zs N := by
  obtain ⟨c0, ⟨k, hk0, c1⟩, ⟨s, hs, c2⟩, hf, hS, hbb, hlt, hp, hz, hm⟩ := h
  refine ⟨(hb.cell (p := ⟨b, 0, none⟩) hlt).trans c0, ⟨k, hk0, (hb.cell (p := ⟨b, 1, none⟩) hlt).trans c1⟩, ⟨s, hs, (hb.cell (p := ⟨b, 2, none⟩) hlt).trans c2⟩, fun t => ?_, hS.below_all hb, hbb, Nat.lt_of_lt_of_le hlt hb.size, hp, hz, hm⟩
  have := hf t
  unfold World.frozen? at this ⊢
  rw [hb.block b hlt]
  exact this
/-- What a call on the source keeps. -/
def SK (base : Nat) (w w' : World) (b : Nat) (p : Option Addr) (cap : Nat) (zs : List Int) (N : Nat) : Prop := SR base w' b p cap zs N ∧ w.grownBy w' (some b)
theorem SK.below {base b : Nat} {p : Option Addr} {cap : Nat} {zs : List Int} {N : Nat} {a w w' : World} (h : SK base w w' b p cap zs N) (hb : Below base a w) (hs : base ≤ w.heap.size) : Below base a w' :=
  hb.grown h.2 hs fun k hk => by cases hk; exact h.1.2.2.2.2.2.1
theorem SR.drewN {base b : Nat} {p : Option Addr} {cap : Nat} {zs : List Int} {N : Nat} {w : World} (h : SR base w b p cap zs N) (n : Nat) : SR base (w.drewN n) b p cap zs N := h.below (below_drewN (Below.refl _ _) _)
set_option maxHeartbeats 800000 in
theorem pick_any (base b : Nat) (p : Option Addr) (cap : Nat) (zs : List Int) (N : Nat) (hN : N ≤ 1000000000) (n : Int) (h1 : 2 ≤ n) (hn : n ≤ 65536) (w : World) (h : SR base w b p cap zs N) :
    Calls Tryz.prog 22 #[.pointer (some ⟨b, 0, none⟩), .int .i64 n] w fun e w' => (∃ r : Nat, (r : Int) < n ∧ e = .returned (.int .i64 r)) ∧ SK base w w' b p cap zs (N + 2) := by
  have HC := hid (fun w (h : SR base w b p cap zs N) => next_any base b p cap zs N (by omega) w h)
  have HC2 := hid (fun w (h : SR base w b p cap zs (N + 1)) => next_any base b p cap zs (N + 1) (by omega) w h)
  have HH := hid h
  clear h
  by_cases h200 : 200 < n
  · go_enter Tryz.func22, Tryz.ntmps22
    go_wp2_with (fail)
    refine (HC.out _ HH.out).mono ?_
    rintro e w1 ⟨⟨r, hr, rfl⟩, hs1, hb1⟩
    have HS1 := hid hs1
    have HB1 := hid hb1
    clear hs1 hb1
    go_wp2_with (fail)
    refine (HC2.out _ HS1.out).mono ?_
    rintro e w2 ⟨⟨r2, hr2, rfl⟩, hs2, hb2⟩
    have HS2 := hid hs2
    have HB2 := hid (HB1.out.trans hb2)
    clear hs2 hb2
    have hne : n ≠ 0 := by omega
    have HM : Hid (((r : Int) * 256 + r2) % n = (((((r : Int) * 256 + r2)) % n).toNat : Int) ∧ (((((r : Int) * 256 + r2)) % n).toNat : Int) < n) := by
      have h0 : 0 ≤ ((r : Int) * 256 + r2) % n := Int.emod_nonneg _ (by omega)
      have h1 : ((r : Int) * 256 + r2) % n < n := Int.emod_lt_of_pos _ (by omega)
      exact ⟨by omega, by omega⟩
    go_wp2_with (fail)
    go_ret
    exact ⟨⟨_, HM.out.2, by rw [← HM.out.1]; rfl⟩, HS2.out, HB2.out⟩
  · go_enter Tryz.func22, Tryz.ntmps22
    go_wp2_with (fail)
    refine (HC.out _ HH.out).mono ?_
    rintro e w1 ⟨⟨r, hr, rfl⟩, hs1, hb1⟩
    have HS1 := hid hs1
    have HB1 := hid hb1
    clear hs1 hb1
    have hne : n ≠ 0 := by omega
    have HM : Hid ((r : Int) % n = (((r : Int) % n).toNat : Int) ∧ (((r : Int) % n).toNat : Int) < n) := by
      have h0 : 0 ≤ (r : Int) % n := Int.emod_nonneg _ (by omega)
      have h1 : (r : Int) % n < n := Int.emod_lt_of_pos _ (by omega)
      exact ⟨by omega, by omega⟩
    go_wp2_with (fail)
    go_ret
    exact ⟨⟨_, HM.out.2, by rw [← HM.out.1]; rfl⟩, HS1.out.mono (by omega), HB1.out⟩
theorem one_any (base b : Nat) (p : Option Addr) (cap : Nat) (zs : List Int) (N : Nat) (hN : N ≤ 1000000000) (n : Int) (h1 : 2 ≤ n) (hn : n ≤ 65536) (w : World) (h : SR base w b p cap zs N) :
    Calls Tryz.prog 21 #[.pointer (some ⟨b, 0, none⟩), .int .i64 n] w fun e w' => (∃ r : Bool, e = .returned (.bool r)) ∧ SK base w w' b p cap zs (N + 2) := by
  have HC := hid (pick_any base b p cap zs N hN n h1 hn w h)
  clear h
  go_enter Tryz.func21, Tryz.ntmps21
  go_wp2_with (fail)
  refine HC.out.mono ?_
  rintro e w1 ⟨⟨r, hr, rfl⟩, hs⟩
  have HS := hid hs
  clear hs
  go_wp2_with (fail)
  go_ret
  exact ⟨⟨_, rfl⟩, HS.out⟩
/-- Some number of 32 bits. -/
def isF (v : Value) : Prop := ∃ r : Nat, v = .float .f32 r ∧ r < 4294967296
set_option maxHeartbeats 800000 in
theorem among_any (base b : Nat) (p : Option Addr) (cap : Nat) (zs : List Int) (N : Nat) (hN : N ≤ 1000000000) (q : Option Addr) (c2 : Nat) (ys : List Int) (w : World) (h : SR base w b p cap zs N) (hy : SL (.int .i64) 0 w q ys) (hyl : 2 ≤ ys.length) (hym : ys.length ≤ 100) (hq : ∀ a, q = some a → a.block ≠ b) (hyr : ∀ y ∈ ys, 0 ≤ y ∧ y ≤ 4294967295) :
    Calls Tryz.prog 42 #[.pointer (some ⟨b, 0, none⟩), .slice q ys.length c2] w fun e w' => (∃ r : Nat, r ≤ 4294967295 ∧ e = .returned (.int .i64 r)) ∧ SK base w w' b p cap zs (N + 2) := by
  have HC := hid (pick_any base b p cap zs N hN ys.length (by omega) (by omega) w h)
  have HY := hid hy
  have HYR := hid hyr
  have HQ := hid hq
  clear h hy hyr hq
  go_enter Tryz.func42, Tryz.ntmps42
  go_wp2_with (fail)
  refine HC.out.mono ?_
  rintro e w1 ⟨⟨r, hr, rfl⟩, hs1, hg1⟩
  have HS1 := hid hs1
  have HG1 := hid hg1
  have HY1 := hid (HY.out.grown hg1 (fun _ a ha he => HQ.out a ha (by cases he; rfl)))
  have hrn : r < ys.length := by omega
  obtain ⟨b3, off3, rfl, hc⟩ := HY1.out r hrn
  have hyb := HYR.out (ys.getD r 0) (by simp [List.getD, hrn])
  generalize ys.getD r 0 = y at *
  clear hs1 hg1
  go_wp2_with (fail)
  go_ret
  exact ⟨⟨y.toNat, by omega, by rw [Int.toNat_of_nonneg hyb.1]; rfl⟩, HS1.out, HG1.out⟩
set_option maxHeartbeats 800000 in
theorem l01DrawPlain_any (base b : Nat) (p : Option Addr) (cap : Nat) (zs : List Int) (N : Nat) (hN : N ≤ 1000000) (w : World) (h : SR base w b p cap zs N) :
    Calls Tryz.prog 41 #[.pointer (some ⟨b, 0, none⟩)] w fun e w' => (∃ r : Nat, e = .returned (.float .f32 r) ∧ r < 4294967296) ∧ SK base w w' b p cap zs (N + 4) := by
  have HC := hid (pick_any base b p cap zs N (by omega) 129 (by omega) (by omega) w h)
  have HO := hid (fun w (h : SR base w b p cap zs (N + 2)) => one_any base b p cap zs (N + 2) (by omega) 4 (by omega) (by omega) w h)
  have f7 : Fl .f32 1088421888 1088421888 := Fl.lit (by decide) (by decide)
  have f16 : Fl .f32 1098907648 1098907648 := Fl.lit (by decide) (by decide)
  clear h
  go_enter Tryz.func41, Tryz.ntmps41
  go_wp2_with (fail)
  refine HC.out.mono ?_
  rintro e w1 ⟨⟨r, hr, rfl⟩, hs1, hg1⟩
  have HG1 := hid hg1
  have HS1 := hid hs1
  clear hs1 hg1
  go_wp2_with (fail)
  refine (HO.out _ HS1.out).mono ?_
  rintro e w2 ⟨⟨bb, rfl⟩, hs2, hg2⟩
  have HG2 := hid (HG1.out.trans hg2)
  have HS2 := hid hs2
  clear hs2 hg2
  cases bb
  all_goals
    go_wp2_with (first | (refine wpList_fofint rfl _ _ _ rfl _ _ rfl (Option.isSome_iff_exists.2 ⟨_, (by with_reducible exact Tryz.underlying2)⟩) (by with_reducible exact Tryz.underlying44) ?_; intro _) | (refine wpList_fofint rfl _ _ _ rfl _ _ rfl (Option.isSome_iff_exists.2 ⟨_, (by with_reducible exact Tryz.underlying2)⟩) (by with_reducible exact Tryz.underlying24) ?_; intro _) | (refine wpList_fofint rfl _ _ _ rfl _ _ rfl (Option.isSome_iff_exists.2 ⟨_, (by with_reducible exact Tryz.underlying3)⟩) (by with_reducible exact Tryz.underlying44) ?_; intro _) | (refine wpList_fofint rfl _ _ _ rfl _ _ rfl (Option.isSome_iff_exists.2 ⟨_, (by with_reducible exact Tryz.underlying3)⟩) (by with_reducible exact Tryz.underlying24) ?_; intro _) | (refine wpList_farith rfl _ _ _ _ _ rfl _ _ _ rfl rfl (by decide) (by assumption) (by assumption) ?_; intro _ _ _))
    go_ret
    exact ⟨⟨_, rfl, Fl.lt (by assumption)⟩, HS2.out.drewN _, HG2.out.trans (grown_drewN _ _ _)⟩
end Go.Proofs.YtgfnchggflecgaaGreatDoor
