/-
  TABLES of two rows: the reference's maker. Own work; no condition beyond what each theorem names.
-/
import Derived.Test.YtgojfjaballbfaaJf
import Derived.Deep.RegionLaw
import Derived.Deep.AppendLies
import Derived.Deep.DrawnRows
namespace Go.Proofs.Ytgojfjaballbfaa
open Go.RowKit
set_option linter.unusedVariables false
attribute [local go_sem] run_store_float opS fineS givesS
attribute [local go_sem ↓] Go.wp_at_zero Go.wp_at_succ

open Ieee in
theorem finB_FinJ {u : Nat} (hu : u < 4294967296) (h : finB u = true) : Fin .f32 u := by
  refine ⟨hu, ?_⟩
  cases hn : isN .f32 u
  · have hl := notN hn
    rw [inf32] at hl ⊢
    rcases Nat.lt_or_eq_of_le hl with h1 | h1
    · exact h1
    · exfalso
      rw [rung32] at h1
      have : u = 2139095040 ∨ u = 4286578688 := by omega
      rcases this with rfl | rfl
      · exact absurd h (by decide)
      · exact absurd h (by decide)
  · exfalso
    unfold finB at h
    rw [fbin_nan_left hn, fcmp_nan_left (by decide) (isN_nanW .f32)] at h
    exact absurd h (by decide)
theorem row_fin {zs : List Nat} (hz : ∀ z ∈ zs, z < 4294967296) (h : isRowB (us zs) = true) {j : Nat} (hj : j < zs.length) : Fin .f32 ((us zs).getD j 0) ∧ zs.getD j 0 = (us zs).getD j 0 := by
  have f1 := us_fl hz hj
  have hg : goodU ((us zs).getD j 0) = true := by
    cases hg : goodU ((us zs).getD j 0)
    · unfold isRowB at h
      rw [rowC_bad (by rw [us_len]; exact hj) hg] at h
      simp at h
    · rfl
  have h1 := (Bool.and_eq_true_iff.1 hg).1
  have hn : isN .f32 ((us zs).getD j 0) = false := by
    cases hn : isN .f32 ((us zs).getD j 0)
    · rfl
    · exfalso
      unfold finB at h1
      rw [fbin_nan_left hn, fcmp_nan_left (by decide) (isN_nanW .f32)] at h1
      exact absurd h1 (by decide)
  have e := f1.word hn
  exact ⟨finB_FinJ (by rw [← e]; exact f1.lt) h1, e⟩
open Ieee in
theorem mul_some {u v : Nat} (hu : Fin .f32 u) (hv : Fin .f32 v) : ∃ r, floatBits .mul .f32 u v = some r ∧ fbin .mul .f32 u v = r := by
  unfold fbin floatBits Format.mul
  simp only [hu.read, hv.read, Datum.product, Option.map_some]
  exact ⟨_, rfl, rfl⟩

set_option maxHeartbeats 1600000 in
theorem sJoinRows_good (p q : Option Addr) (c1 c2 : Nat) (xs ys : List Nat) (w : World) (hs : SL (.float .f32) 0 w p xs) (hz : ∀ z ∈ xs, z < 4294967296) (hs2 : SL (.float .f32) 0 w q ys) (hz2 : ∀ z ∈ ys, z < 4294967296)
    (h1 : xs.length ≤ 8) (h2 : ys.length ≤ 8) (hr1 : isRowB (us xs) = true) (hr2 : isRowB (us ys) = true) :
    Calls Try.prog 13 #[.slice p xs.length c1, .slice q ys.length c2] w (TabPost w w.heap.size (tabB xs.length ys.length (joL (us xs) (us ys))) xs.length ys.length (joL (us xs) (us ys))) := by
  obtain ⟨i0, hi, hz0, hz1, hz2x⟩ := info_parts info_f32
  have hone := fone32
  have HA := hid (fun w (hs : SL (.float .f32) 0 w p xs) => l02Row_any p c1 xs w hs hz (by omega))
  have HB := hid (fun w (hs : SL (.float .f32) 0 w q ys) => l02Row_any q c2 ys w hs hz2 (by omega))
  rw [hr1] at HA
  rw [hr2] at HB
  have HS := hid hs
  have HZ := hid hz
  have HS2 := hid hs2
  have HZ2 := hid hz2
  have HF1 := hid (fun j (hj : j < xs.length) => row_fin hz hr1 hj)
  have HF2 := hid (fun j (hj : j < ys.length) => row_fin hz2 hr2 hj)
  clear hs hz hs2 hz2 hr1 hr2
  have hd1 : decide ((8 : Int) < (xs.length : Int)) = false := decide_eq_false (by omega)
  have hd2 : decide ((8 : Int) < (ys.length : Int)) = false := decide_eq_false (by omega)
  obtain ⟨tb, htb⟩ : ∃ tb, tabB xs.length ys.length (joL (us xs) (us ys)) = tb := ⟨_, rfl⟩
  rw [htb]
  have HTB := hid htb
  clear htb
  go_enter Try.func13, Try.ntmps13
  go_wp2_with (fail)
  refine (HA.out _ (HS.out.alloc _)).mono ?_
  rintro e w' ⟨rfl, n, rfl⟩
  go_wp2_with (fail)
  refine (HB.out _ (SL.drew (SL.alloc HS2.out _) _)).mono ?_
  rintro e w' ⟨rfl, n2, rfl⟩
  go_wp2_with (fail)
  obtain ⟨wl, hwl⟩ : ∃ wl, ((w.alloc (.cells #[.int .i64 0, .int .i64 0, .slice none 0 0] 27)).drewN (n + n2)).alloc (.cells #[.int .i64 xs.length, .int .i64 ys.length, .slice none 0 0] 27) = wl := ⟨_, rfl⟩
  have T0 : Hid (TB wl w.heap.size 0 0 (.slice none 0 0)) := by rw [← hwl]; exact ((TB.new w 0 0 (.slice none 0 0)).drewN (n + n2)).below ((Below.refl _ _).alloc (Nat.le_refl _) _)
  have U0 : Hid (TB wl (w.heap.size + 1) xs.length ys.length (.slice none 0 0)) := by unfold Hid; rw [← hwl]; simpa using TB.new ((w.alloc (.cells #[.int .i64 0, .int .i64 0, .slice none 0 0] 27)).drewN (n + n2)) xs.length ys.length (.slice none 0 0)
  have B0 : Hid (Below w.heap.size w wl) := by rw [← hwl]; exact (below_drewN ((Below.refl _ _).alloc (Nat.le_refl _) _) (n + n2)).alloc (by simp) _
  have hsz : wl.heap.size = w.heap.size + 2 := by rw [← hwl]; simp
  rw [hwl]
  clear hwl
  obtain ⟨b0, hb0⟩ : ∃ b, w.heap.size = b := ⟨_, rfl⟩
  rw [hb0] at T0 U0 hsz
  have A0 := hid (HS.out.below_all B0.out)
  have C0 := hid (HS2.out.below_all B0.out)
  have BL := hid HS.out.lt
  have BL2 := hid HS2.out.lt
  rw [hb0]
  have HB0 := hid hb0
  clear hb0 HA HB n n2
  go_loopw [7] (fun i wr => ∃ (k : Nat) (v : Value) (rs : List Nat), k ≤ xs.length ∧ i = .int .i64 k ∧ Hid (TB wr b0 0 0 (.slice none 0 0)) ∧ Hid (TB wr (b0 + 1) xs.length ys.length v) ∧ Hid (OF wr (b0 + 2) v rs) ∧ Hid (us rs = RJ (joE (us xs) (us ys)) (k * ys.length)) ∧ Hid (Below b0 w wr) ∧ Hid (b0 + 2 ≤ wr.heap.size)) (fun i _ => xs.length - (intOf i).toNat)
  case atStart => exact ⟨0, _, [], Nat.zero_le _, rfl, T0, U0, OF_nilJ _ _, by unfold Hid; rw [Nat.zero_mul]; rfl, by rw [← HB0.out]; exact B0, by unfold Hid; omega⟩
  case round =>
    obtain ⟨k, v, rs, hk, rfl, T1, U1, O1, E1, B1, S1⟩ := hrel
    by_cases hlt : k < xs.length
    · have hI : (k : Int) < (xs.length : Int) := by omega
      go_wp2
      obtain ⟨wo, rfl⟩ : ∃ wo : World, wo = wr := ⟨_, rfl⟩
      go_loopw [8] (fun i wr => ∃ (j : Nat) (v : Value) (rs : List Nat), j ≤ ys.length ∧ i = .int .i64 j ∧ Hid (TB wr b0 0 0 (.slice none 0 0)) ∧ Hid (TB wr (b0 + 1) xs.length ys.length v) ∧ Hid (OF wr (b0 + 2) v rs) ∧ Hid (us rs = RJ (joE (us xs) (us ys)) (k * ys.length + j)) ∧ Hid (Below b0 w wr) ∧ Hid (b0 + 2 ≤ wr.heap.size)) (fun i _ => ys.length - (intOf i).toNat)
      case atStart => exact ⟨0, v, rs, Nat.zero_le _, rfl, T1, U1, O1, E1, B1, S1⟩
      case round =>
        obtain ⟨j, v, rs, hj, rfl, T2, U2, O2, E2, B2, S2⟩ := hrel
        by_cases hlt2 : j < ys.length
        · skip
          obtain ⟨b, off, rfl, hc⟩ := (SL.below HS.out B2.out (by rw [← HB0.out]; exact BL.out)) k hlt
          have f1 := us_fl HZ.out hlt
          have HG : Hid (∀ j, j < ys.length → joE (us xs) (us ys) (k * ys.length + j) = fbin .mul .f32 ((us xs).getD k 0) ((us ys).getD j 0)) := fun j hj => by
            have e := joE_at (us xs) (us ys) k j (by rw [us_len]; exact hj)
            rw [us_len] at e; exact e

          obtain ⟨b2, off2, rfl, hc2⟩ := (SL.below HS2.out B2.out (by rw [← HB0.out]; exact BL2.out)) j hlt2
          have hI2 : (j : Int) < (ys.length : Int) := by omega
          have f3 := us_fl HZ2.out hlt2
          have hrl : rs.length ≤ 64 := by
            have h := us_len_ofJ E2.out
            rw [RJ_len] at h
            have := jo_bound h1 h2 hlt hlt2
            omega
          have HX := hid (fun r (hr : Fl .f32 r (fbin .mul .f32 ((us xs).getD k 0) ((us ys).getD j 0))) => RJ_succ E2.out (r := r) (by rw [HG.out j hlt2]; exact hr))
          have hu2 := U2.out.tc.2.2
          have hws : b0 + 2 ≤ wr.heap.size := S2.out
          obtain ⟨g1, e1⟩ := HF1.out k hlt
          obtain ⟨g2, e2⟩ := HF2.out j hlt2
          rw [e1] at hc
          rw [e2] at hc2
          rw [e1] at f1
          rw [e2] at f3
          clear e1 e2
          generalize (us xs).getD k 0 = u at *
          generalize (us ys).getD j 0 = u2 at *
          obtain ⟨rm, hrm, hrm2⟩ := mul_some g1 g2
          have hmul := fun w => run_float_arith (P := Try.prog) w .mul 39 .f32 u u2 rm hrm
          have hfm : Fl .f32 rm (fbin .mul .f32 u u2) := by
            obtain ⟨r', n', h1', h2'⟩ := run_farith (P := Try.prog) w (op := .mul) (by simp) 39 f1 f3
            rw [hmul w] at h1'
            have e3 : rm = r' := by injection h1' with e1 e2; injection e1
            rw [e3]; exact h2'
          have HX2 := hid (HX.out rm hfm)
          clear HX g1 g2 hrm hrm2 f1 f3 HG
          go_wp2
          have hws3 : b0 + 1 < wr.heap.size := by omega
          have hws4 := World.new_ne wr _ hu2
          go_region_law ((refine step_append_lies _ (by rfl) (.tmp 46) (.tmp 56) 22 (by rfl) (b0 + 2) 39 i0 (.float .f32 0) 1 4 Try.underlying22 hi hz0 hz1 hz2x (by rfl) (by decide) v rs.length _ (by rfl) (by exact ((O2.out.drewN 1).1.alloc _)) ⟨wr.heap.size, 0, none⟩ 1 1 [.float .f32 rm] (by rfl) (by rfl) (by exact cell_one_new _ _ _) (by intro u hu; simp at hu; subst hu; rfl) (by decide) (by unfold maxLen; omega) (by omega) (by simp; omega) _ (by rfl) ?_; intro g cap w1 hown' hgrow _ _; have hg2 : (((wr.drewN 1).alloc (.cells #[.float .f32 rm] 39)).grownBy w1 v.ownBlock) := hgrow; have hU3 := (((U2.out.drewN 1).below ((Below.refl _ _).alloc (Nat.le_refl _) _)).grown hg2 (fun e => apartB O2.out (by omega) e.symm)); have hu3 := hU3.tc.2.2; have hf3 := hU3.free.2.2))
          all_goals
            have hsz2 := hg2.size
            obtain ⟨rs3, hO3, hE3⟩ : ∃ rs3, OF w1 (b0 + 2) (.slice (some ⟨g, 0, none⟩) (rs.length + 1) cap) rs3 ∧ Hid (us rs3 = RJ (joE (us xs) (us ys)) (k * ys.length + j + 1)) := ⟨_, OF_appJ O2.out hfm.lt hown', HX2.out⟩
            clear hown' hgrow HX2
            have hT3 := (((T2.out.drewN 1).below ((Below.refl _ _).alloc (Nat.le_refl _) _)).grown hg2 (fun e => apartB O2.out (by omega) e.symm))
            have hB3 : Below b0 w w1 := (((below_drewN B2.out 1).alloc (by simp; omega) _).grown hg2 (by simp; omega) (fun k hk => by have := (O2.out.1.lt k hk).1; omega))
            have hS3 : b0 + 2 ≤ w1.heap.size := by simp at hsz2; omega
            have HT := hid (hT3.set_other ⟨b0 + 1, 2, none⟩ (.slice (some ⟨g, 0, none⟩) (rs.length + 1) cap) (by simp))
            have HU := hid (hU3.set (.slice (some ⟨g, 0, none⟩) (rs.length + 1) cap))
            have HO := hid (hO3.setO ⟨b0 + 1, 2, none⟩ (.slice (some ⟨g, 0, none⟩) (rs.length + 1) cap) (apartB hO3 (by simp)))
            have HBB := hid (hB3.setCell (p := ⟨b0 + 1, 2, none⟩) (by simp) (.slice (some ⟨g, 0, none⟩) (rs.length + 1) cap))
            have HSS : Hid (b0 + 2 ≤ (w1.setCell ⟨b0 + 1, 2, none⟩ (.slice (some ⟨g, 0, none⟩) (rs.length + 1) cap)).heap.size) := by unfold Hid; simpa using hS3
            clear hT3 hU3 hO3 hB3 hS3 hg2 hsz2
            go_wp2
            go_roundw
            case rel => exact ⟨j + 1, _, rs3, by omega, by go_num, HT, HU, HO, hE3, HBB, HSS⟩
            case measure => simp [intOf]; omega
        · have hjj := hid (show j = ys.length by omega)
          have E3 : Hid (us rs = RJ (joE (us xs) (us ys)) ((k + 1) * ys.length)) := by have h := E2.out; rw [hjj.out, jo_next] at h; exact h
          go_wp2
          go_roundw
          case rel => exact ⟨k + 1, v, rs, by omega, by go_num, T2, U2, O2, E3, B2, S2⟩
          case measure => simp [intOf]; omega
    · have hkk := hid (show k = xs.length by omega)
      have E2 : Hid (us rs = joL (us xs) (us ys)) := by
        have h := E1.out
        rw [hkk.out] at h
        unfold Hid joL
        rw [us_len, us_len]
        exact h
      have hrl : rs.length ≤ 64 := by
        have h := us_len_ofJ E1.out
        rw [RJ_len] at h
        have h3 : k * ys.length ≤ 8 * 8 := Nat.mul_le_mul (by omega) h2
        omega
      obtain ⟨u0, u1, u2⟩ := U1.out.tc
      have hws : b0 + 2 ≤ wr.heap.size := S1.out
      go_wp2_with (fail)
      refine (l02GiveTable_any (b0 + 2) xs.length ys.length v rs wr wr O1.out (by omega) (Below.refl _ _) hws).mono ?_
      rw [E2.out, HTB.out]
      rintro e w2 ⟨v2, rs2, rfl, o2, e2, hb2⟩
      obtain ⟨p2, cp2, rfl⟩ := o2.form
      have HO2 := hid o2
      have HE2 := hid e2
      have HT2 := (T1.out.belowB hb2 (by omega))
      obtain ⟨t0, t1, t2⟩ := HT2.tc
      obtain ⟨s0, s1, s2⟩ := HT2.free
      have HB2 := hid (B1.out.trans (hb2.mono (by omega)))
      have hw2 : wr.heap.size ≤ w2.heap.size := hb2.size
      clear o2 e2 hb2 HT2 u0 u1 u2
      obtain ⟨ri, hri⟩ : ∃ r : Int, (if tb = true then (xs.length : Int) else 0) = r := ⟨_, rfl⟩
      obtain ⟨ci, hci⟩ : ∃ r : Int, (if tb = true then (ys.length : Int) else 0) = r := ⟨_, rfl⟩
      rw [hri, hci]
      have HRI := hid hri
      have HCI := hid hci
      clear hri hci
      go_wp2_with (fail)
      have HT3 := hid (((HB2.out.setCell (p := ⟨b0, 0, none⟩) (Nat.le_refl _) (.int .i64 ri)).setCell (p := ⟨b0, 1, none⟩) (Nat.le_refl _) (.int .i64 ci)).setCell (p := ⟨b0, 2, none⟩) (Nat.le_refl _) (.slice p2 rs2.length cp2))
      have HO3 := hid ((((HO2.out.setO ⟨b0, 0, none⟩ (.int .i64 ri) (apartB HO2.out (by simp))).setO ⟨b0, 1, none⟩ (.int .i64 ci) (apartB HO2.out (by simp))).setO ⟨b0, 2, none⟩ (.slice p2 rs2.length cp2) (apartB HO2.out (by simp))).mono (show b0 ≤ b0 + 2 by omega))
      refine bodyPost_ret (v := .tuple #[.agg #[.int .i64 ri, .int .i64 ci, .slice p2 rs2.length cp2], .bool tb]) (by simp [results, Try.results13, go_sem, t0, t1, t2]) rfl ⟨_, rs2, by rw [HRI.out, HCI.out], by rw [HB0.out]; exact HO3.out, HE2.out, by rw [HB0.out]; exact HT3.out⟩
set_option maxHeartbeats 800000 in
theorem sJoinRows_bad (p q : Option Addr) (c1 c2 : Nat) (xs ys : List Nat) (w : World) (hs : SL (.float .f32) 0 w p xs) (hz : ∀ z ∈ xs, z < 4294967296) (hs2 : SL (.float .f32) 0 w q ys) (hz2 : ∀ z ∈ ys, z < 4294967296)
    (h1 : xs.length ≤ 1048576) (h2 : ys.length ≤ 1048576) (hb : ((isRowB (us xs) && isRowB (us ys)) && (decide (xs.length ≤ 8) && decide (ys.length ≤ 8))) = false) :
    Calls Try.prog 13 #[.slice p xs.length c1, .slice q ys.length c2] w (TabPost w w.heap.size false xs.length ys.length (joL (us xs) (us ys))) := by
  have HA := hid (fun w (hs : SL (.float .f32) 0 w p xs) => l02Row_any p c1 xs w hs hz (by omega))
  have HB := hid (fun w (hs : SL (.float .f32) 0 w q ys) => l02Row_any q c2 ys w hs hz2 (by omega))
  have HS := hid hs
  have HS2 := hid hs2
  clear hs hz hs2 hz2
  cases ha : isRowB (us xs)
  · rw [ha] at HA
    clear hb ha
    go_enter Try.func13, Try.ntmps13
    go_wp2_with (fail)
    refine (HA.out _ (HS.out.alloc _)).mono ?_
    rintro e w' ⟨rfl, n, rfl⟩
    go_wp2_with (fail)
    refine bodyPost_ret (v := .tuple #[.agg #[.int .i64 0, .int .i64 0, .slice none 0 0], .bool false]) (by simp [results, Try.results13, go_sem]) rfl ⟨_, [], rfl, OF_nilJ _ _, rfl, below_zero w _⟩
  · rw [ha] at HA
    cases hbb : isRowB (us ys)
    · rw [hbb] at HB
      clear hb ha hbb
      go_enter Try.func13, Try.ntmps13
      go_wp2_with (fail)
      refine (HA.out _ (HS.out.alloc _)).mono ?_
      rintro e w' ⟨rfl, n, rfl⟩
      go_wp2_with (fail)
      refine (HB.out _ (SL.drew (SL.alloc HS2.out _) _)).mono ?_
      rintro e w' ⟨rfl, n2, rfl⟩
      go_wp2_with (fail)
      refine bodyPost_ret (v := .tuple #[.agg #[.int .i64 0, .int .i64 0, .slice none 0 0], .bool false]) (by simp [results, Try.results13, go_sem]) rfl ⟨_, [], rfl, OF_nilJ _ _, rfl, below_zero w _⟩
    · rw [hbb] at HB
      by_cases l1 : xs.length ≤ 8
      · have l2 : 8 < ys.length := by
          rcases Nat.lt_or_ge 8 ys.length with h | h
          · exact h
          · rw [ha, hbb, decide_eq_true l1, decide_eq_true h] at hb
            cases hb
        have hd1 : decide ((8 : Int) < (xs.length : Int)) = false := decide_eq_false (by omega)
        have hd2 : decide ((8 : Int) < (ys.length : Int)) = true := decide_eq_true (by omega)
        clear hb ha hbb
        go_enter Try.func13, Try.ntmps13
        go_wp2_with (fail)
        refine (HA.out _ (HS.out.alloc _)).mono ?_
        rintro e w' ⟨rfl, n, rfl⟩
        go_wp2_with (fail)
        refine (HB.out _ (SL.drew (SL.alloc HS2.out _) _)).mono ?_
        rintro e w' ⟨rfl, n2, rfl⟩
        go_wp2_with (fail)
        refine bodyPost_ret (v := .tuple #[.agg #[.int .i64 0, .int .i64 0, .slice none 0 0], .bool false]) (by simp [results, Try.results13, go_sem]) rfl ⟨_, [], rfl, OF_nilJ _ _, rfl, below_zero w _⟩
      · have hd1 : decide ((8 : Int) < (xs.length : Int)) = true := decide_eq_true (by omega)
        clear hb ha hbb
        go_enter Try.func13, Try.ntmps13
        go_wp2_with (fail)
        refine (HA.out _ (HS.out.alloc _)).mono ?_
        rintro e w' ⟨rfl, n, rfl⟩
        go_wp2_with (fail)
        refine (HB.out _ (SL.drew (SL.alloc HS2.out _) _)).mono ?_
        rintro e w' ⟨rfl, n2, rfl⟩
        go_wp2_with (fail)
        refine bodyPost_ret (v := .tuple #[.agg #[.int .i64 0, .int .i64 0, .slice none 0 0], .bool false]) (by simp [results, Try.results13, go_sem]) rfl ⟨_, [], rfl, OF_nilJ _ _, rfl, below_zero w _⟩
theorem sJoinRows_any (p q : Option Addr) (c1 c2 : Nat) (xs ys : List Nat) (w : World) (hs : SL (.float .f32) 0 w p xs) (hz : ∀ z ∈ xs, z < 4294967296) (hm : xs.length ≤ 1048576) (hs2 : SL (.float .f32) 0 w q ys) (hz2 : ∀ z ∈ ys, z < 4294967296) (hm2 : ys.length ≤ 1048576) :
    Calls Try.prog 13 #[.slice p xs.length c1, .slice q ys.length c2] w (TabPost w w.heap.size (joB (us xs) (us ys)) xs.length ys.length (joL (us xs) (us ys))) := by
  rw [joB_parts]
  cases hb : ((isRowB (us xs) && isRowB (us ys)) && (decide (xs.length ≤ 8) && decide (ys.length ≤ 8)))
  · exact sJoinRows_bad p q c1 c2 xs ys w hs hz hs2 hz2 hm hm2 hb
  · rw [Bool.true_and]
    simp only [Bool.and_eq_true, decide_eq_true_eq] at hb
    exact sJoinRows_good p q c1 c2 xs ys w hs hz hs2 hz2 hb.2.1 hb.2.2 hb.1.1 hb.1.2
end Go.Proofs.Ytgojfjaballbfaa
