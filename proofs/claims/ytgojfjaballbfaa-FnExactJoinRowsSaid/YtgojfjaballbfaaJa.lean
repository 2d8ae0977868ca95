/-
  TABLES (a struct of two integers and a list of 32-bit numbers): sizes, copies, equality, the check. Own work; no condition beyond what each theorem names.
-/
import Derived.Test.YtgojfjaballbfaaRa
import Derived.Test.YtgojfjaballbfaaOa
import Derived.Deep.RegionHeld3
import Derived.IntWalk
namespace Go.Proofs.Ytgojfjaballbfaa
open Go.RowKit
attribute [local go_sem] run_store_float opS fineS givesS

/-- A table as a value. -/
theorem below_ret {e : Ending} {B : Nat} {w w' : World} {v : Value} (h : Below B w w') : e = .returned v → e = .returned v ∧ Below B w w' := fun he => ⟨he, h⟩

theorem szFloat32S_fit (p : Option Addr) (n cap : Nat) (left : Int) (w : World) (h : (n : Int) ≤ left) (hm : left ≤ 1048576) :
    Calls Try.prog 20 #[.slice p n cap, .int .i64 left] w fun e w' => e = .returned (.int .i64 (left - n)) ∧ w = w' := by
  go_enter Try.func20, Try.ntmps20
  go_wp2
  go_ret
  exact ⟨rfl, rfl⟩
theorem szFloat32S_not (p : Option Addr) (n cap : Nat) (left : Int) (w : World) (h : left < n) (hm : 0 ≤ left) (hn : n ≤ 9223372036854775807) :
    Calls Try.prog 20 #[.slice p n cap, .int .i64 left] w fun e w' => e = .returned (.int .i64 (-1)) ∧ w = w' := by
  go_enter Try.func20, Try.ntmps20
  go_wp2
  go_ret
  exact ⟨rfl, rfl⟩
theorem szTable_fit (r c : Int) (p : Option Addr) (n cap : Nat) (left : Int) (w : World) (h : (n : Int) ≤ left) (hm : left ≤ 1048576) :
    Calls Try.prog 6 #[.agg #[.int .i64 r, .int .i64 c, .slice p n cap], .int .i64 left] w fun e w' => e = .returned (.int .i64 (left - n)) ∧ Below w.heap.size w w' := by
  go_enter Try.func6, Try.ntmps6
  go_wp2_with (go_at_call 20; refine (szFloat32S_fit _ _ _ _ _ h hm).mono ?_; rintro e w' ⟨rfl, rfl⟩)
  go_ret
  exact ⟨rfl, (Below.refl _ _).alloc (Nat.le_refl _) _⟩
theorem szTable_not (r c : Int) (p : Option Addr) (n cap : Nat) (left : Int) (w : World) (h : left < n) (hm : 0 ≤ left) (hn : n ≤ 9223372036854775807) :
    Calls Try.prog 6 #[.agg #[.int .i64 r, .int .i64 c, .slice p n cap], .int .i64 left] w fun e w' => e = .returned (.int .i64 (-1)) ∧ Below w.heap.size w w' := by
  go_enter Try.func6, Try.ntmps6
  go_wp2_with (go_at_call 20; refine (szFloat32S_not _ _ _ _ _ h hm hn).mono ?_; rintro e w' ⟨rfl, rfl⟩)
  go_ret
  exact ⟨rfl, (Below.refl _ _).alloc (Nat.le_refl _) _⟩
theorem bcell {W w1 : World} (hb : Below W.heap.size W w1) : (∀ b o, b < W.heap.size → w1.cell? ⟨b, o, none⟩ = W.cell? ⟨b, o, none⟩) ∧ (∀ b o, b < W.heap.size → w1.frozen? ⟨b, o, none⟩ = W.frozen? ⟨b, o, none⟩) :=
  ⟨fun b o h => hb.cell (p := ⟨b, o, none⟩) h, fun b o h => hb.frozen (p := ⟨b, o, none⟩) h⟩
theorem SL.alloc {α : Type} {f : α → Value} {d : α} {w : World} {p : Option Addr} {zs : List α} (h : SL f d w p zs) (o : Obj) : SL f d (w.alloc o) p zs := h.below_all ((Below.refl _ _).alloc (Nat.le_refl _) o)
theorem OF.set {w : World} {base : Nat} {v : Value} {rs : List Nat} (h : OF w base v rs) (q : Addr) (u : Value) (hq : q.block < base) : OF (w.setCell q u) base v rs := by
  refine h.kept (grown_setCell (grown_below (Below.refl _ _) (some q.block)) rfl u) ?_
  cases hv : v.ownBlock with
  | none => exact Or.inl rfl
  | some k =>
    refine Or.inr fun he => ?_
    have h1 := (h.1.lt k hv).1
    cases he
    omega
theorem OF.mono {w : World} {base b2 : Nat} {v : Value} {rs : List Nat} (h : OF w base v rs) (hb : b2 ≤ base) : OF w b2 v rs := ⟨World.ownsRow.mono h.1 hb, h.2⟩
set_option maxHeartbeats 800000 in
theorem toTable_any (r c : Int) (p : Option Addr) (cap : Nat) (zs : List Nat) (w : World) (hs : SL (.float .f32) 0 w p zs) (hz : ∀ z ∈ zs, z < 4294967296) (hm : zs.length ≤ 1048576) :
    Calls Try.prog 8 #[.agg #[.int .i64 r, .int .i64 c, .slice p zs.length cap]] w fun e w' => ∃ g, e = .returned (.agg #[.int .i64 r, .int .i64 c, .slice (some ⟨g, 0, none⟩) zs.length zs.length]) ∧
      OF w' w.heap.size (.slice (some ⟨g, 0, none⟩) zs.length zs.length) zs ∧ Below w.heap.size w w' := by
  have HS := hid hs
  have HZ := hid hz
  clear hs hz
  go_enter Try.func8, Try.ntmps8
  go_wp2_with (fail)
  refine (toFloat32S_any p cap zs _ (((HS.out.alloc _).alloc _).alloc _) hm).mono ?_
  rintro e w1 ⟨⟨g, rfl, hg, ho⟩, hb⟩
  obtain ⟨hcl, hfr⟩ := bcell hb
  have hw1 : w.heap.size + 1 + 1 < w1.heap.size := by have := hb.size; simp at this; omega
  go_wp2_with (fail)
  refine bodyPost_ret (v := .agg #[.int .i64 r, .int .i64 c, .slice (some ⟨g, 0, none⟩) zs.length zs.length]) (by simp [results, Try.results8, go_sem, hcl]) rfl ⟨g, rfl, ?_, ?_⟩
  · have h0 : OF w1 (w.heap.size + 1 + 1 + 1) (.slice (some ⟨g, 0, none⟩) zs.length zs.length) zs := ⟨by simpa using ho, HZ.out⟩
    exact (((((h0.set _ _ (by simp)).set _ _ (by simp)).set _ _ (by simp)).set _ _ (by simp)).mono (by omega))
  · exact ((((((((Below.refl _ _).alloc (Nat.le_refl _) _).alloc (by simp) _).alloc (by simp; omega) _).trans (hb.mono (by simp; omega))).setCell (by simp; omega) _).setCell (by simp) _).setCell (by simp) _).setCell (by simp) _
set_option maxHeartbeats 800000 in
theorem eqTable_same (r c : Int) (p q : Option Addr) (c1 c2 : Nat) (xs ys : List Nat) (w : World) (hp : SL (.float .f32) 0 w p xs) (hq : SL (.float .f32) 0 w q ys) (hx : ∀ z ∈ xs, z < 4294967296) (hy : ∀ z ∈ ys, z < 4294967296)
    (he : us xs = us ys) (hm : xs.length ≤ 1048576) :
    Calls Try.prog 10 #[.agg #[.int .i64 r, .int .i64 c, .slice p xs.length c1], .agg #[.int .i64 r, .int .i64 c, .slice q ys.length c2]] w fun e w' => e = .returned (.bool true) ∧ Below w.heap.size w w' := by
  have hl : ys.length = xs.length := by rw [← us_len ys, ← he, us_len]
  have HP := hid hp
  have HQ := hid hq
  have HX := hid hx
  have HY := hid hy
  have HE := hid he
  have HL := hid hl
  have hr : (r != r) = false := bne_eq_false_iff_eq.2 rfl
  have hc : (c != c) = false := bne_eq_false_iff_eq.2 rfl
  clear hp hq hx hy he hl
  go_enter Try.func10, Try.ntmps10
  go_wp2_with (fail)
  refine (eqFloat32S_same _ _ _ _ _ _ _ ((HP.out.alloc _).alloc _) ((HQ.out.alloc _).alloc _) HX.out HY.out HE.out (by omega) _ HL.out).mono ?_
  rintro e w' ⟨rfl, n, rfl⟩
  go_wp2_with (fail)
  go_ret
  exact ⟨rfl, below_drewN (((Below.refl _ _).alloc (Nat.le_refl _) _).alloc (by simp) _) _⟩

/-- Is a table valid? -/
def tabB (r c : Int) (l : List Nat) : Bool := (decide (1 ≤ r) && decide (r ≤ 8)) && ((decide (1 ≤ c) && decide (c ≤ 8)) && (((l.length : Int) == r * c) && rowC l))
theorem side_mul {r c : Int} (h1 : 1 ≤ r) (h2 : r ≤ 8) (h3 : 1 ≤ c) (h4 : c ≤ 8) : 1 ≤ r * c ∧ r * c ≤ 64 := by
  have e1 := Int.mul_le_mul h1 h3 (by omega) (by omega)
  have e2 := Int.mul_le_mul h2 h4 (by omega) (by omega)
  omega
theorem SL.drew {α : Type} {f : α → Value} {d : α} {w : World} {p : Option Addr} {zs : List α} (h : SL f d w p zs) (n : Nat) : SL f d (w.drewN n) p zs := h

set_option maxHeartbeats 800000 in
theorem ValidTable_any (r c : Int) (p : Option Addr) (cap : Nat) (zs : List Nat) (w : World) (hs : SL (.float .f32) 0 w p zs) (hz : ∀ z ∈ zs, z < 4294967296) (hm : zs.length ≤ 1048576) :
    Calls Try.prog 12 #[.agg #[.int .i64 r, .int .i64 c, .slice p zs.length cap]] w fun e w' => e = .returned (.bool (tabB r c (us zs))) ∧ Below w.heap.size w w' := by
  have HS := hid hs
  have HZ := hid hz
  have HV : Hid (tabB r c (us zs) = ((decide (1 ≤ r) && decide (r ≤ 8)) && ((decide (1 ≤ c) && decide (c ≤ 8)) && (((zs.length : Int) == r * c) && rowC (us zs))))) := by unfold Hid tabB; rw [us_len]
  clear hs hz
  have hB := hid ((Below.refl w.heap.size w).alloc (Nat.le_refl _) (.cells #[.int .i64 r, .int .i64 c, .slice p zs.length cap] 27))
  cases hb1 : (decide (1 ≤ r) && decide (r ≤ 8))
  · rw [hb1] at HV
    have H1 := hid hb1
    clear hb1
    go_enter Try.func12, Try.ntmps12
    go_wp2_with (go_at_call 25; refine (within_any _ _ _ _).mono ?_; rw [H1.out]; rintro e w' ⟨rfl, rfl⟩)
    go_ret
    exact ⟨by rw [HV.out]; rfl, hB.out⟩
  · rw [hb1] at HV
    cases hb2 : (decide (1 ≤ c) && decide (c ≤ 8))
    · rw [hb2] at HV
      have H1 := hid hb1
      have H2 := hid hb2
      clear hb1 hb2
      go_enter Try.func12, Try.ntmps12
      go_wp2_with (fail)
      refine (within_any _ _ _ _).mono ?_
      rw [H1.out]
      rintro e w' ⟨rfl, rfl⟩
      go_wp2_with (fail)
      refine (within_any _ _ _ _).mono ?_
      rw [H2.out]
      rintro e w' ⟨rfl, rfl⟩
      go_wp2_with (fail)
      go_ret
      exact ⟨by rw [HV.out]; rfl, hB.out⟩
    · rw [hb2] at HV
      have H1 := hid hb1
      have H2 := hid hb2
      simp only [Bool.and_eq_true, decide_eq_true_eq] at hb1 hb2
      obtain ⟨m1, m2⟩ := side_mul hb1.1 hb1.2 hb2.1 hb2.2
      clear hb1 hb2
      have HC := hid (fun w (hs : SL (.float .f32) 0 w p zs) => isOne_any p cap zs w hs HZ.out hm)
      cases he : ((zs.length : Int) == r * c)
      · rw [he] at HV
        go_enter Try.func12, Try.ntmps12
        go_wp2_with (fail)
        refine (within_any _ _ _ _).mono ?_
        rw [H1.out]
        rintro e w' ⟨rfl, rfl⟩
        go_wp2_with (fail)
        refine (within_any _ _ _ _).mono ?_
        rw [H2.out]
        rintro e w' ⟨rfl, rfl⟩
        go_wp2_with (fail)
        go_ret
        exact ⟨by rw [HV.out]; rfl, hB.out⟩
      · rw [he] at HV
        go_enter Try.func12, Try.ntmps12
        go_wp2_with (fail)
        refine (within_any _ _ _ _).mono ?_
        rw [H1.out]
        rintro e w' ⟨rfl, rfl⟩
        go_wp2_with (fail)
        refine (within_any _ _ _ _).mono ?_
        rw [H2.out]
        rintro e w' ⟨rfl, rfl⟩
        go_wp2_with (fail)
        refine (HC.out _ (HS.out.alloc _)).mono ?_
        rintro e w' ⟨rfl, n, rfl⟩
        go_wp2_with (fail)
        go_ret
        exact ⟨by rw [HV.out]; rfl, below_drewN hB.out _⟩
set_option maxHeartbeats 1600000 in
theorem l02Table_any (b : Nat) (r c : Int) (p : Option Addr) (cap : Nat) (zs : List Nat) (w : World) (h0 : w.cell? ⟨b, 0, none⟩ = some (.int .i64 r)) (h1 : w.cell? ⟨b, 1, none⟩ = some (.int .i64 c)) (h2 : w.cell? ⟨b, 2, none⟩ = some (.slice p zs.length cap)) (hs : SL (.float .f32) 0 w p zs) (hz : ∀ z ∈ zs, z < 4294967296) (hm : zs.length ≤ 1048576) :
    Calls Try.prog 24 #[.pointer (some ⟨b, 0, none⟩)] w fun e w' => e = .returned (.bool (tabB r c (us zs))) ∧ Dr w w' := by
  have HS := hid hs
  have HZ := hid hz
  have HV : Hid (tabB r c (us zs) = ((decide (1 ≤ r) && decide (r ≤ 8)) && ((decide (1 ≤ c) && decide (c ≤ 8)) && (((zs.length : Int) == r * c) && rowC (us zs))))) := by unfold Hid tabB; rw [us_len]
  clear hs hz
  have HR : Hid (∀ m, Calls Try.prog 35 #[.int .i64 r, .int .i64 1, .int .i64 8] (w.drewN m) fun e w'' => e = .returned (.bool (decide (1 ≤ r) && decide (r ≤ 8))) ∧ ∃ k, w'' = w.drewN k) := fun m => (l00In_any _ _ _ _).mono fun e w' ⟨he, hw⟩ => ⟨he, m, hw.symm⟩
  have HC : Hid (∀ m, Calls Try.prog 35 #[.int .i64 c, .int .i64 1, .int .i64 8] (w.drewN m) fun e w'' => e = .returned (.bool (decide (1 ≤ c) && decide (c ≤ 8))) ∧ ∃ k, w'' = w.drewN k) := fun m => (l00In_any _ _ _ _).mono fun e w' ⟨he, hw⟩ => ⟨he, m, hw.symm⟩
  have HL : Hid (∀ m, Calls Try.prog 36 #[.slice p zs.length cap] (w.drewN m) fun e w'' => e = .returned (.bool (rowC (us zs))) ∧ ∃ k, w'' = w.drewN k) := fun m => Calls.quiet_of (l02Chances_any p cap zs _ (HS.out.drew m) HZ.out hm)
  cases hb1 : (decide (1 ≤ r) && decide (r ≤ 8))
  · rw [hb1] at HV HR
    clear hb1 HC HL HS HZ
    go_enter Try.func24, Try.ntmps24
    go_wp2
    go_quiet ((go_at_call 35; with_reducible exact HR.out _))
    go_wp2
    go_ret
    exact ⟨by rw [HV.out]; rfl, _, rfl⟩
  · cases hb2 : (decide (1 ≤ c) && decide (c ≤ 8))
    · rw [hb1, hb2] at HV
      rw [hb1] at HR
      rw [hb2] at HC
      clear hb1 hb2 HL HS HZ
      go_enter Try.func24, Try.ntmps24
      go_wp2
      go_quiet ((go_at_call 35; first | (with_reducible exact HR.out _) | (with_reducible exact HC.out _)))
      go_wp2
      go_ret
      exact ⟨by rw [HV.out]; rfl, _, rfl⟩
    · rw [hb1, hb2] at HV
      rw [hb1] at HR
      rw [hb2] at HC
      simp only [Bool.and_eq_true, decide_eq_true_eq] at hb1 hb2
      obtain ⟨m1, m2⟩ := side_mul hb1.1 hb1.2 hb2.1 hb2.2
      have hw : IntKind.i64.wrap (r * c) = r * c := IntWalk.i64_in _ (by omega)
      clear hb1 hb2 m1 m2 HS HZ
      cases he : ((zs.length : Int) == r * c)
      all_goals
        rw [he] at HV
        go_enter Try.func24, Try.ntmps24
        go_wp2
        go_quiet ((first | (go_at_call 35; first | (with_reducible exact HR.out _) | (with_reducible exact HC.out _)) | (go_at_call 36; with_reducible exact HL.out _)))
        go_wp2
        go_ret
        exact ⟨by rw [HV.out]; rfl, _, rfl⟩
end Go.Proofs.Ytgojfjaballbfaa
