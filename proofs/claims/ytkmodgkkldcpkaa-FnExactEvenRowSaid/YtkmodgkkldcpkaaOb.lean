/-
  ROWS THAT ARE MADE: appending, the check at the end, mixtures. Printed by wip/tools/gen_own.py b. Own work; no condition beyond what each theorem names.
-/
import Derived.Test.YtkmodgkkldcpkaaOa
import Derived.Test.YtkmodgkkldcpkaaEb
import Derived.Test.YtkmodgkkldcpkaaQt
namespace Go.Proofs.Ytkmodgkkldcpkaa
open Go.RowKit
attribute [local go_sem] run_store_float opS fineS givesS

/-- A goal that the walk leaves alone. -/
structure Stop (p : Prop) : Prop where
  out : p
/-- The first k values of a row that is made value by value. -/
def RL (g : Nat → Nat) (k : Nat) : List Nat := (List.range k).map g
theorem RL_len (g : Nat → Nat) (k : Nat) : (RL g k).length = k := by simp [RL]
theorem us_append (rs : List Nat) (r v : Nat) (h : Fl .f32 r v) : us (rs ++ [r]) = us rs ++ [v] := by
  unfold us; rw [List.map_append]; simp [h.eq]
theorem RL_succ {g : Nat → Nat} {k : Nat} {rs : List Nat} (h : us rs = RL g k) {r : Nat} (hr : Fl .f32 r (g k)) : us (rs ++ [r]) = RL g (k + 1) := by
  rw [us_append rs r _ hr, h]; unfold RL; rw [List.range_succ, List.map_append]; rfl
theorem us_len_of {rs l : List Nat} (h : us rs = l) : rs.length = l.length := by rw [← h, us_len]
theorem OF_nil (w : World) (base : Nat) : OF w base (.slice none 0 0) [] := ⟨World.ownsRow_nil _ _ _ _, fun _ h => absurd h (List.not_mem_nil)⟩
theorem OF_made (w : World) (base : Nat) (hb : base ≤ w.heap.size) : OF (w.alloc (.cells #[] 32)) base (.slice (some ⟨w.heap.size, 0, none⟩) 0 0) [] :=
  ⟨World.ownsRow_made w #[] 0 hb (by unfold maxLen; omega) (by simp), fun _ h => absurd h (List.not_mem_nil)⟩
theorem OF_app {w w' : World} {base : Nat} {v v' : Value} {rs : List Nat} {r : Nat} (h : OF w base v rs) (hr : r < 4294967296) (ho : w'.ownsRow base 32 1 v' (rs.length + 1) (rs.map (.float .f32) ++ [.float .f32 r])) : OF w' base v' (rs ++ [r]) := by
  refine ⟨?_, ?_⟩
  · rw [List.length_append, List.map_append]; exact ho
  · intro z hz
    rcases List.mem_append.1 hz with h1 | h1
    · exact h.2 z h1
    · rw [List.mem_singleton.1 h1]; exact hr
theorem below_app {w w2 w' : World} {base : Nat} {v : Value} {rs : List Nat} (hB : Below base w w2) (h : OF w2 base v rs) (hb : base ≤ w2.heap.size) (hg : w2.grownBy w' v.ownBlock) : Below base w w' :=
  hB.grown hg hb (fun k hk => (h.1.lt k hk).1)
/-- What a maker of rows hands back. -/
def RowPost (w : World) (base : Nat) (b : Bool) (l : List Nat) (e : Ending) (w' : World) : Prop :=
  ∃ v rs, e = .returned (.tuple #[v, .bool b]) ∧ OF w' base v rs ∧ us rs = (if b then l else []) ∧ Below base w w'
theorem asRow_any (base : Nat) (v : Value) (rs : List Nat) (w0 w : World) (h : OF w base v rs) (hm : rs.length ≤ 1048576) (hB : Below base w0 w) :
    Calls Try.prog 66 #[v] w (RowPost w0 base (isRowB (us rs)) (us rs)) := by
  obtain ⟨p, cap, rfl, hs⟩ := own_slice h.1 0
  have HC := hid (IsRow_any p cap rs w hs h.2 hm)
  have HO := hid h
  have HB := hid hB
  clear h hs hB
  cases hb : isRowB (us rs)
  all_goals
    rw [hb] at HC
    go_enter Try.func66, Try.ntmps66
    go_wp2_with (fail)
    refine HC.out.mono ?_
    rintro e w' ⟨rfl, n, rfl⟩
    go_wp2_with (fail)
    go_ret2
    first | exact ⟨_, [], rfl, OF_nil _ _, rfl, below_drewN HB.out _⟩ | exact ⟨_, rs, rfl, HO.out.drewN _, rfl, below_drewN HB.out _⟩
theorem l02Give_any (base : Nat) (v : Value) (rs : List Nat) (w0 w : World) (h : OF w base v rs) (hm : rs.length ≤ 1048576) (hB : Below base w0 w) :
    Calls Try.prog 62 #[v] w (RowPost w0 base (isRowB (us rs)) (us rs)) := by
  obtain ⟨p, cap, rfl, hs⟩ := own_slice h.1 0
  have HC := hid (l02Row_any p cap rs w hs h.2 hm)
  have HO := hid h
  have HB := hid hB
  clear h hs hB
  cases hb : isRowB (us rs)
  all_goals
    rw [hb] at HC
    go_enter Try.func62, Try.ntmps62
    go_wp2_with (fail)
    refine HC.out.mono ?_
    rintro e w' ⟨rfl, n, rfl⟩
    go_wp2_with (fail)
    go_ret2
    first | exact ⟨_, [], rfl, OF_nil _ _, rfl, below_drewN HB.out _⟩ | exact ⟨_, rs, rfl, HO.out.drewN _, rfl, below_drewN HB.out _⟩
/-! ### Mixtures -/
def mixE (s : Nat) (a b : List Nat) (j : Nat) : Nat := fbin .add .f32 (fbin .mul .f32 (fbin .sub .f32 1065353216 s) (a.getD j 0)) (fbin .mul .f32 s (b.getD j 0))

set_option maxHeartbeats 800000 in
theorem mixed_any (p q : Option Addr) (c1 c2 : Nat) (xs ys : List Nat) (s su : Nat) (w : World) (hs : SL (.float .f32) 0 w p xs) (hz : ∀ z ∈ xs, z < 4294967296) (hs2 : SL (.float .f32) 0 w q ys) (hz2 : ∀ z ∈ ys, z < 4294967296) (hm : xs.length ≤ 32) (hl : xs.length = ys.length) (fs : Fl .f32 s su) :
    Calls Try.prog 67 #[.slice p xs.length c1, .slice q ys.length c2, .float .f32 s] w fun e w' => ∃ v rs, e = .returned v ∧ OF w' w.heap.size v rs ∧ us rs = RL (mixE su (us xs) (us ys)) xs.length ∧ Below w.heap.size w w' := by
  obtain ⟨i0, hi, hz0, hz1, hz2x⟩ := info_parts info_f32
  have h1 := fone32
  have HS := hid hs
  have HZ := hid hz
  have HS2 := hid hs2
  have HZ2 := hid hz2
  have HL := hid hl
  rw [← hl]
  clear hs hz hs2 hz2 hl
  obtain ⟨base, hbase⟩ : ∃ base, w.heap.size = base := ⟨_, rfl⟩
  have hM := OF_made w base (by omega)
  rw [hbase] at hM
  have HM := hid hM
  clear hM
  go_enter Try.func67, Try.ntmps67
  go_wp2
  go_loopw [7, 13] (fun o i wr => ∃ (k : Nat) (rs : List Nat), k ≤ xs.length ∧ i = .int .i64 k ∧ Hid (OF wr base o rs) ∧ Hid (us rs = RL (mixE su (us xs) (us ys)) k) ∧ Hid (Below base w wr)) (fun _ i _ => xs.length - (intOf i).toNat)
  case atStart => exact ⟨0, [], Nat.zero_le _, rfl, HM, rfl, by unfold Hid; exact (Below.refl _ _).alloc (by omega) _⟩
  case round =>
    obtain ⟨k, rs, hk, rfl, HO1, HU1, HB1⟩ := hrel
    by_cases hlt : k < xs.length
    · obtain ⟨b, off, rfl, hc⟩ := HS.out k hlt
      obtain ⟨b2, off2, rfl, hc2⟩ := HS2.out k (by rw [← HL.out]; exact hlt)
      have hbl := World.block_lt_of_cell? w _ hc
      have hbl2 := World.block_lt_of_cell? w _ hc2
      have hc1 : wr.cell? ⟨b, off + k, none⟩ = some (.float .f32 (xs.getD k 0)) := by rw [HB1.out.cell (p := ⟨b, off + k, none⟩) (by omega)]; exact hc
      have hc3 : wr.cell? ⟨b2, off2 + k, none⟩ = some (.float .f32 (ys.getD k 0)) := by rw [HB1.out.cell (p := ⟨b2, off2 + k, none⟩) (by omega)]; exact hc2
      have hI : (k : Int) < (xs.length : Int) := by omega
      have f1 := us_fl HZ.out hlt
      have f3 := us_fl HZ2.out (show k < ys.length by rw [← HL.out]; exact hlt)
      have hrl : rs.length ≤ 32 := by have := us_len_of HU1.out; rw [RL_len] at this; omega
      have HE : Hid (mixE su (us xs) (us ys) k = fbin .add .f32 (fbin .mul .f32 (fbin .sub .f32 1065353216 su) ((us xs).getD k 0)) (fbin .mul .f32 su ((us ys).getD k 0))) := rfl
      have HSU := hid (fun r (hr : Fl .f32 r (mixE su (us xs) (us ys) k)) => RL_succ HU1.out hr)
      have hws : base ≤ wr.heap.size := by have := HB1.out.size; omega
      rw [HE.out] at HSU
      clear hc hc2 hbl hbl2 HE
      generalize (us xs).getD k 0 = u at *
      generalize xs.getD k 0 = x at *
      generalize (us ys).getD k 0 = u2 at *
      generalize ys.getD k 0 = x2 at *
      go_wp2_with (first | (at_builtin; refine Stop.out ?_) | (refine wpList_farith rfl _ _ _ _ _ rfl _ _ _ rfl rfl (by decide) (by assumption) (by assumption) ?_; intro _ _ _))
      refine ⟨?_⟩
      refine wpList_append_own _ rfl _ _ 22 rfl base 32 i0 (.float .f32 0) 1 4 Try.underlying22 hi hz0 hz1 hz2x rfl (by decide) _ _ _ rfl ((HO1.out.drewN _).1.alloc _) ⟨_, 0, none⟩ 1 1 [.float .f32 _] rfl rfl (cell_one_new _ _ _) ?c2 ?c3 ?c4 ?c5 ?_
      case c2 => intro u hu; simp at hu; subst hu; rfl
      case c3 => skip; unfold maxLen; omega
      case c4 => skip; omega
      case c5 => have := HB1.out.size; simp; omega
      intro v' w1 hown' hgrow _
      have HX := hid (HSU.out _ (by assumption))
      have HR := hid (OF_app (HO1.out) (Fl.lt (by assumption)) hown')
      have HG := hid (below_app (w2 := (wr.drewN _).alloc _) ((below_drewN HB1.out _).alloc hws _) ⟨(HO1.out.drewN _).1.alloc _, HO1.out.2⟩ (by simp; omega) hgrow)
      clear hown' hgrow HSU
      go_wp2
      go_roundw
      case rel => exact ⟨k + 1, _, by omega, by go_num, HR, HX, HG⟩
      case measure => simp [intOf]; omega
    · have HK := hid (show k = xs.length by omega)
      have HUU : Hid (us rs = RL (mixE su (us xs) (us ys)) xs.length) := by have h := HU1.out; rw [HK.out] at h; exact h
      go_wp2
      go_ret
      refine ⟨_, rs, rfl, ?_, HUU.out, ?_⟩
      · rw [hbase]; exact HO1.out
      · rw [hbase]; exact HB1.out
set_option maxHeartbeats 800000 in
theorem l02Mix_any (p q : Option Addr) (c1 c2 : Nat) (xs ys : List Nat) (s su : Nat) (w : World) (hs : SL (.float .f32) 0 w p xs) (hz : ∀ z ∈ xs, z < 4294967296) (hs2 : SL (.float .f32) 0 w q ys) (hz2 : ∀ z ∈ ys, z < 4294967296) (hm : xs.length ≤ 32) (hl : xs.length = ys.length) (fs : Fl .f32 s su) :
    Calls Try.prog 63 #[.slice p xs.length c1, .slice q ys.length c2, .float .f32 s] w fun e w' => ∃ v rs, e = .returned v ∧ OF w' w.heap.size v rs ∧ us rs = RL (mixE su (us xs) (us ys)) xs.length ∧ Below w.heap.size w w' := by
  obtain ⟨i0, hi, hz0, hz1, hz2x⟩ := info_parts info_f32
  have h1 := fone32
  have HS := hid hs
  have HZ := hid hz
  have HS2 := hid hs2
  have HZ2 := hid hz2
  have HL := hid hl
  rw [← hl]
  clear hs hz hs2 hz2 hl
  obtain ⟨base, hbase⟩ : ∃ base, w.heap.size = base := ⟨_, rfl⟩
  have hM := OF_made w base (by omega)
  rw [hbase] at hM
  have HM := hid hM
  clear hM
  go_enter Try.func63, Try.ntmps63
  go_wp2
  go_loopw [7, 8] (fun o i wr => ∃ (k : Nat) (rs : List Nat), k ≤ xs.length ∧ i = .int .i64 k ∧ Hid (OF wr base o rs) ∧ Hid (us rs = RL (mixE su (us xs) (us ys)) k) ∧ Hid (Below base w wr)) (fun _ i _ => xs.length - (intOf i).toNat)
  case atStart => exact ⟨0, [], Nat.zero_le _, rfl, HM, rfl, by unfold Hid; exact (Below.refl _ _).alloc (by omega) _⟩
  case round =>
    obtain ⟨k, rs, hk, rfl, HO1, HU1, HB1⟩ := hrel
    by_cases hlt : k < xs.length
    · obtain ⟨b, off, rfl, hc⟩ := HS.out k hlt
      obtain ⟨b2, off2, rfl, hc2⟩ := HS2.out k (by rw [← HL.out]; exact hlt)
      have hbl := World.block_lt_of_cell? w _ hc
      have hbl2 := World.block_lt_of_cell? w _ hc2
      have hc1 : wr.cell? ⟨b, off + k, none⟩ = some (.float .f32 (xs.getD k 0)) := by rw [HB1.out.cell (p := ⟨b, off + k, none⟩) (by omega)]; exact hc
      have hc3 : wr.cell? ⟨b2, off2 + k, none⟩ = some (.float .f32 (ys.getD k 0)) := by rw [HB1.out.cell (p := ⟨b2, off2 + k, none⟩) (by omega)]; exact hc2
      have hI : (k : Int) < (xs.length : Int) := by omega
      have f1 := us_fl HZ.out hlt
      have f3 := us_fl HZ2.out (show k < ys.length by rw [← HL.out]; exact hlt)
      have hrl : rs.length ≤ 32 := by have := us_len_of HU1.out; rw [RL_len] at this; omega
      have HE : Hid (mixE su (us xs) (us ys) k = fbin .add .f32 (fbin .mul .f32 (fbin .sub .f32 1065353216 su) ((us xs).getD k 0)) (fbin .mul .f32 su ((us ys).getD k 0))) := rfl
      have HSU := hid (fun r (hr : Fl .f32 r (mixE su (us xs) (us ys) k)) => RL_succ HU1.out hr)
      have hws : base ≤ wr.heap.size := by have := HB1.out.size; omega
      rw [HE.out] at HSU
      clear hc hc2 hbl hbl2 HE
      generalize (us xs).getD k 0 = u at *
      generalize xs.getD k 0 = x at *
      generalize (us ys).getD k 0 = u2 at *
      generalize ys.getD k 0 = x2 at *
      go_wp2_with (first | (at_builtin; refine Stop.out ?_) | (refine wpList_farith rfl _ _ _ _ _ rfl _ _ _ rfl rfl (by decide) (by assumption) (by assumption) ?_; intro _ _ _))
      refine wp_region_mixT 14 (fun _ _ v => v = .bool true) (by kernel_rfl) (by kernel_rfl) (by kernel_rfl) (by kernel_rfl) (by kernel_rfl) (by kernel_rfl) (by kernel_rfl) (by kernel_rfl) (fun _ _ _ h => h) (Or.inl ⟨rfl, fun _ => rfl⟩) rfl ?_
      simp only [List.take_succ_cons, List.take_zero, List.drop_succ_cons, List.drop_zero, List.map_cons, List.map_nil]
      go_simp
      repeat (refine mixS_step (fun K hK => ?_); first | (refine opS_farith rfl _ _ _ _ _ rfl _ _ _ rfl rfl (by decide) (by assumption) (by assumption) ?_; intro _ _; refine hK _ ?_; clear hK K) | (refine opS_farith rfl _ _ _ _ _ rfl _ _ _ rfl rfl (by decide) (by assumption) (by assumption) ?_; intro _ _; refine hK _ ?_; clear hK K) | (refine opS_fcmp rfl _ _ _ _ _ rfl _ _ _ rfl rfl (by decide) (by assumption) (by assumption) (by first | assumption | rfl) ?_; refine hK _ ?_; clear hK K) | (refine opS_fwide rfl _ _ _ rfl _ rfl (Option.isSome_iff_exists.2 ⟨_, (by with_reducible exact Try.underlying32)⟩) (by with_reducible exact Try.underlying58) (by assumption) ?_; intro _ _; refine hK _ ?_; clear hK K) | (refine opS_fnarrow rfl _ _ _ rfl _ rfl (Option.isSome_iff_exists.2 ⟨_, (by with_reducible exact Try.underlying58)⟩) (by with_reducible exact Try.underlying32) (by assumption) (by assumption) ?_; intro _ _; refine hK _ ?_; clear hK K) | (refine opS_fofint rfl _ _ _ rfl _ _ rfl (Option.isSome_iff_exists.2 ⟨_, (by with_reducible exact Try.underlying2)⟩) (by with_reducible exact Try.underlying58) ?_; intro _; refine hK _ ?_; clear hK K) | (refine opS_fofint rfl _ _ _ rfl _ _ rfl (Option.isSome_iff_exists.2 ⟨_, (by with_reducible exact Try.underlying2)⟩) (by with_reducible exact Try.underlying32) ?_; intro _; refine hK _ ?_; clear hK K) | (refine opS_fofint rfl _ _ _ rfl _ _ rfl (Option.isSome_iff_exists.2 ⟨_, (by with_reducible exact Try.underlying3)⟩) (by with_reducible exact Try.underlying58) ?_; intro _; refine hK _ ?_; clear hK K) | (refine opS_fofint rfl _ _ _ rfl _ _ rfl (Option.isSome_iff_exists.2 ⟨_, (by with_reducible exact Try.underlying3)⟩) (by with_reducible exact Try.underlying32) ?_; intro _; refine hK _ ?_; clear hK K) | (go_simp; refine hK _ ?_; clear hK K))
      refine mixS_nil ?_
      first | rintro w' ⟨m, rfl⟩ | intro m
      go_wp2_with (at_builtin; refine Stop.out ?_)
      refine ⟨?_⟩
      refine wpList_append_own _ rfl _ _ 22 rfl base 32 i0 (.float .f32 0) 1 4 Try.underlying22 hi hz0 hz1 hz2x rfl (by decide) _ _ _ rfl ((HO1.out.drewN _).1.alloc _) ⟨_, 0, none⟩ 1 1 [.float .f32 _] rfl rfl (cell_one_new _ _ _) ?c2 ?c3 ?c4 ?c5 ?_
      case c2 => intro u hu; simp at hu; subst hu; rfl
      case c3 => skip; unfold maxLen; omega
      case c4 => skip; omega
      case c5 => have := HB1.out.size; simp; omega
      intro v' w1 hown' hgrow _
      have HX := hid (HSU.out _ (by assumption))
      have HR := hid (OF_app (HO1.out) (Fl.lt (by assumption)) hown')
      have HG := hid (below_app (w2 := (wr.drewN _).alloc _) ((below_drewN HB1.out _).alloc hws _) ⟨(HO1.out.drewN _).1.alloc _, HO1.out.2⟩ (by simp; omega) hgrow)
      clear hown' hgrow HSU
      go_wp2
      go_roundw
      case rel => exact ⟨k + 1, _, by omega, by go_num, HR, HX, HG⟩
      case measure => simp [intOf]; omega
    · have HK := hid (show k = xs.length by omega)
      have HUU : Hid (us rs = RL (mixE su (us xs) (us ys)) xs.length) := by have h := HU1.out; rw [HK.out] at h; exact h
      go_wp2
      go_ret
      refine ⟨_, rs, rfl, ?_, HUU.out, ?_⟩
      · rw [hbase]; exact HO1.out
      · rw [hbase]; exact HB1.out

/-- from 0 to 1 -/
def shB (u : Nat) : Bool := fcmp .geq .f32 u 0 && fcmp .leq .f32 u 1065353216
def mixL (s : Nat) (a b : List Nat) : List Nat := RL (mixE s a b) a.length
def mixB (s : Nat) (a b : List Nat) : Bool := (twoB a b && shB s) && isRowB (mixL s a b)
theorem mixB_len (s : Nat) (a b : List Nat) : mixB s a b = true → (mixL s a b).length ≤ 1048576 := fun h => Nat.le_trans (row_len (Bool.and_eq_true_iff.1 h).2).2 (by decide)

theorem isShare_any (x u : Nat) (hx : Fl .f32 x u) (w : World) : Calls Try.prog 65 #[.float .f32 x] w fun e w' => e = .returned (.bool (shB u)) ∧ Dr w w' := by
  have h0 := fz32
  have h1 : Fl .f32 1065353216 1065353216 := fone32
  have HV : Hid (shB u = (fcmp .geq .f32 u 0 && fcmp .leq .f32 u 1065353216)) := rfl
  cases c1 : fcmp .geq .f32 u 0 <;> cases c2 : fcmp .leq .f32 u 1065353216
  all_goals
    go_enter Try.func65, Try.ntmps65
    go_wp2_with (first | (refine wpList_farith rfl _ _ _ _ _ rfl _ _ _ rfl rfl (by decide) (by assumption) (by assumption) ?_; intro _ _ _) | (refine wpList_fcmp rfl _ _ _ _ _ rfl _ _ _ rfl rfl (by decide) (by assumption) (by assumption) (by first | assumption | rfl) ?_))
    go_ret
    exact ⟨by rw [HV.out, c1, c2]; rfl, 0, rfl⟩
theorem l02Share_all (x u : Nat) (hx : Fl .f32 x u) (w : World) : Calls Try.prog 61 #[.float .f32 x] w fun e w' => e = .returned (.bool (shB u)) ∧ Dr w w' := by
  have h0 := fz32
  have h1 : Fl .f32 1065353216 1065353216 := fone32
  have HV : Hid (shB u = (fcmp .geq .f32 u 0 && fcmp .leq .f32 u 1065353216)) := rfl
  cases c1 : fcmp .geq .f32 u 0 <;> cases c2 : fcmp .leq .f32 u 1065353216
  all_goals
    go_enter Try.func61, Try.ntmps61
    go_wp2_with (first | (refine wpList_farith rfl _ _ _ _ _ rfl _ _ _ rfl rfl (by decide) (by assumption) (by assumption) ?_; intro _ _ _) | (refine wpList_fcmp rfl _ _ _ _ _ rfl _ _ _ rfl rfl (by decide) (by assumption) (by assumption) (by first | assumption | rfl) ?_))
    go_ret
    exact ⟨by rw [HV.out, c1, c2]; rfl, 0, rfl⟩
set_option maxHeartbeats 800000 in
theorem MixRows_any (p q : Option Addr) (c1 c2 : Nat) (xs ys : List Nat) (s su : Nat) (w : World) (hs : SL (.float .f32) 0 w p xs) (hz : ∀ z ∈ xs, z < 4294967296) (hm : xs.length ≤ 1048576) (hs2 : SL (.float .f32) 0 w q ys) (hz2 : ∀ z ∈ ys, z < 4294967296) (hm2 : ys.length ≤ 1048576) (fs : Fl .f32 s su) :
    Calls Try.prog 24 #[.slice p xs.length c1, .slice q ys.length c2, .float .f32 s] w (RowPost w w.heap.size (mixB su (us xs) (us ys)) (mixL su (us xs) (us ys))) := by
  have HA := hid (areRows_any p q c1 c2 xs ys w hs hz hs2 hz2 hm hm2)
  have HB : Hid (mixB su (us xs) (us ys) = ((twoB (us xs) (us ys) && shB su) && isRowB (mixL su (us xs) (us ys)))) := rfl
  have HM : Hid (mixL su (us xs) (us ys) = RL (mixE su (us xs) (us ys)) xs.length) := by unfold Hid mixL; rw [us_len]
  cases ht : twoB (us xs) (us ys)
  · rw [ht] at HA HB
    clear hs hz hs2 hz2 ht
    go_enter Try.func24, Try.ntmps24
    go_wp2_with (fail)
    refine HA.out.mono ?_
    rintro e w' ⟨rfl, n, rfl⟩
    go_wp2_with (fail)
    go_ret2
    exact ⟨_, [], by rw [HB.out]; rfl, OF_nil _ _, by rw [HB.out]; rfl, below_drewN (Below.refl _ _) _⟩
  · obtain ⟨t1, t2, t3⟩ := twoB_parts ht
    have t4 := (row_len t1).2
    rw [us_len, us_len] at t3
    rw [us_len] at t4
    rw [ht] at HA HB
    have HX := hid (fun n => mixed_any p q c1 c2 xs ys s su (w.drewN n) (hs.drewN n) hz (hs2.drewN n) hz2 t4 t3 fs)
    clear hs hz hs2 hz2 t1 t2 t3 ht
    cases hb : shB su
    · rw [hb] at HB
      go_enter Try.func24, Try.ntmps24
      go_wp2_with (fail)
      refine HA.out.mono ?_
      rintro e w' ⟨rfl, n, rfl⟩
      go_wp2_with (fail)
      refine (isShare_any _ _ fs _).mono ?_
      rw [hb]
      rintro e w' ⟨rfl, n2, rfl⟩
      go_wp2_with (fail)
      go_ret2
      exact ⟨_, [], by rw [HB.out]; rfl, OF_nil _ _, by rw [HB.out]; rfl, below_drewN (Below.refl _ _) _⟩
    · rw [hb] at HB
      go_enter Try.func24, Try.ntmps24
      go_wp2_with (fail)
      refine HA.out.mono ?_
      rintro e w' ⟨rfl, n, rfl⟩
      go_wp2_with (fail)
      refine (isShare_any _ _ fs _).mono ?_
      rw [hb]
      rintro e w' ⟨rfl, n2, rfl⟩
      go_wp2_with (fail)
      refine (HX.out _).mono ?_
      rintro e w1 ⟨v, rs, rfl, hO, hU, hBl⟩
      have hlen : rs.length ≤ 1048576 := by have := us_len_of hU; rw [RL_len] at this; omega
      have HR := hid (asRow_any _ v rs w w1 hO hlen ((below_drewN (Below.refl _ _) _).trans hBl))
      rw [hU, ← HM.out] at HR
      go_wp2_with (fail)
      refine HR.out.mono ?_
      rintro e w2 ⟨v2, rs2, rfl, hO2, hU2, hB2⟩
      go_wp2_with (fail)
      go_ret2
      exact ⟨v2, rs2, by rw [HB.out]; rfl, hO2, by rw [HB.out]; exact hU2, hB2⟩
set_option maxHeartbeats 800000 in
theorem sMixRows_any (p q : Option Addr) (c1 c2 : Nat) (xs ys : List Nat) (s su : Nat) (w : World) (hs : SL (.float .f32) 0 w p xs) (hz : ∀ z ∈ xs, z < 4294967296) (hm : xs.length ≤ 1048576) (hs2 : SL (.float .f32) 0 w q ys) (hz2 : ∀ z ∈ ys, z < 4294967296) (hm2 : ys.length ≤ 1048576) (fs : Fl .f32 s su) :
    Calls Try.prog 22 #[.slice p xs.length c1, .slice q ys.length c2, .float .f32 s] w (RowPost w w.heap.size (mixB su (us xs) (us ys)) (mixL su (us xs) (us ys))) := by
  have HA := hid (l02Two_any p q c1 c2 xs ys w hs hz hs2 hz2 hm hm2)
  have HB : Hid (mixB su (us xs) (us ys) = ((twoB (us xs) (us ys) && shB su) && isRowB (mixL su (us xs) (us ys)))) := rfl
  have HM : Hid (mixL su (us xs) (us ys) = RL (mixE su (us xs) (us ys)) xs.length) := by unfold Hid mixL; rw [us_len]
  cases ht : twoB (us xs) (us ys)
  · rw [ht] at HA HB
    clear hs hz hs2 hz2 ht
    go_enter Try.func22, Try.ntmps22
    go_wp2_with (fail)
    refine HA.out.mono ?_
    rintro e w' ⟨rfl, n, rfl⟩
    go_wp2_with (fail)
    go_ret2
    exact ⟨_, [], by rw [HB.out]; rfl, OF_nil _ _, by rw [HB.out]; rfl, below_drewN (Below.refl _ _) _⟩
  · obtain ⟨t1, t2, t3⟩ := twoB_parts ht
    have t4 := (row_len t1).2
    rw [us_len, us_len] at t3
    rw [us_len] at t4
    rw [ht] at HA HB
    have HX := hid (fun n => l02Mix_any p q c1 c2 xs ys s su (w.drewN n) (hs.drewN n) hz (hs2.drewN n) hz2 t4 t3 fs)
    clear hs hz hs2 hz2 t1 t2 t3 ht
    cases hb : shB su
    · rw [hb] at HB
      go_enter Try.func22, Try.ntmps22
      go_wp2_with (fail)
      refine HA.out.mono ?_
      rintro e w' ⟨rfl, n, rfl⟩
      go_wp2_with (fail)
      refine (l02Share_all _ _ fs _).mono ?_
      rw [hb]
      rintro e w' ⟨rfl, n2, rfl⟩
      go_wp2_with (fail)
      go_ret2
      exact ⟨_, [], by rw [HB.out]; rfl, OF_nil _ _, by rw [HB.out]; rfl, below_drewN (Below.refl _ _) _⟩
    · rw [hb] at HB
      go_enter Try.func22, Try.ntmps22
      go_wp2_with (fail)
      refine HA.out.mono ?_
      rintro e w' ⟨rfl, n, rfl⟩
      go_wp2_with (fail)
      refine (l02Share_all _ _ fs _).mono ?_
      rw [hb]
      rintro e w' ⟨rfl, n2, rfl⟩
      go_wp2_with (fail)
      refine (HX.out _).mono ?_
      rintro e w1 ⟨v, rs, rfl, hO, hU, hBl⟩
      have hlen : rs.length ≤ 1048576 := by have := us_len_of hU; rw [RL_len] at this; omega
      have HR := hid (l02Give_any _ v rs w w1 hO hlen ((below_drewN (Below.refl _ _) _).trans hBl))
      rw [hU, ← HM.out] at HR
      go_wp2_with (fail)
      refine HR.out.mono ?_
      rintro e w2 ⟨v2, rs2, rfl, hO2, hU2, hB2⟩
      go_wp2_with (fail)
      go_ret2
      exact ⟨v2, rs2, by rw [HB.out]; rfl, hO2, by rw [HB.out]; exact hU2, hB2⟩
end Go.Proofs.Ytkmodgkkldcpkaa
