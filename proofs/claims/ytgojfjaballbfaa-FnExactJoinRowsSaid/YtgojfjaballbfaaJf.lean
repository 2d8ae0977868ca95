/-
  TABLES of two rows: the program's maker. Own work; no condition beyond what each theorem names.
-/
import Derived.Test.YtgojfjaballbfaaJe
namespace Go.Proofs.Ytgojfjaballbfaa
open Go.RowKit
set_option linter.unusedVariables false
attribute [local go_sem] run_store_float opS fineS givesS

def RJ (g : Nat → Nat) (k : Nat) : List Nat := (List.range k).map g
theorem RJ_len (g : Nat → Nat) (k : Nat) : (RJ g k).length = k := by simp [RJ]
theorem us_appendJ (rs : List Nat) (r v : Nat) (h : Fl .f32 r v) : us (rs ++ [r]) = us rs ++ [v] := by
  unfold us; rw [List.map_append]; simp [h.eq]
theorem RJ_succ {g : Nat → Nat} {k : Nat} {rs : List Nat} (h : us rs = RJ g k) {r : Nat} (hr : Fl .f32 r (g k)) : us (rs ++ [r]) = RJ g (k + 1) := by
  rw [us_appendJ rs r _ hr, h]; unfold RJ; rw [List.range_succ, List.map_append]; rfl
theorem us_len_ofJ {rs l : List Nat} (h : us rs = l) : rs.length = l.length := by rw [← h, us_len]
theorem OF_appJ {w w' : World} {base : Nat} {v v' : Value} {rs : List Nat} {r : Nat} (h : OF w base v rs) (hr : r < 4294967296) (ho : w'.ownsRow base 39 1 v' (rs.length + 1) (rs.map (.float .f32) ++ [.float .f32 r])) : OF w' base v' (rs ++ [r]) := by
  refine ⟨?_, ?_⟩
  · rw [List.length_append, List.map_append]; exact ho
  · intro z hz
    rcases List.mem_append.1 hz with h1 | h1
    · exact h.2 z h1
    · rw [List.mem_singleton.1 h1]; exact hr

/-- The products, row by row. -/
def joE (a b : List Nat) (j : Nat) : Nat := fbin .mul .f32 (a.getD (j / b.length) 0) (b.getD (j % b.length) 0)
def joL (a b : List Nat) : List Nat := RJ (joE a b) (a.length * b.length)
def joB (a b : List Nat) : Bool := (isRowB a && isRowB b) && ((decide (a.length ≤ 8) && decide (b.length ≤ 8)) && tabB a.length b.length (joL a b))
theorem joE_at (a b : List Nat) (i k : Nat) (hk : k < b.length) : joE a b (i * b.length + k) = fbin .mul .f32 (a.getD i 0) (b.getD k 0) := by
  unfold joE
  have h1 : (i * b.length + k) / b.length = i := by
    rw [Nat.add_comm, Nat.add_mul_div_right _ _ (by omega), Nat.div_eq_of_lt hk, Nat.zero_add]
  have h2 : (i * b.length + k) % b.length = k := by
    rw [Nat.add_comm, Nat.add_mul_mod_self_right, Nat.mod_eq_of_lt hk]
  rw [h1, h2]
theorem joL_len (a b : List Nat) : (joL a b).length = a.length * b.length := RJ_len _ _
theorem jo_bound {n m i k : Nat} (hn : n ≤ 8) (hm : m ≤ 8) (hi : i < n) (hk : k < m) : i * m + k < 64 := by
  have : i * m ≤ 7 * m := Nat.mul_le_mul_right m (by omega)
  omega
theorem jo_next (i m : Nat) : i * m + m = (i + 1) * m := by rw [Nat.add_mul, Nat.one_mul]

theorem apartB {w : World} {base : Nat} {v : Value} {rs : List Nat} {k : Nat} (h : OF w base v rs) (hk : k < base) : v.ownBlock ≠ some k := fun e => by
  have := (h.1.lt k e).1
  omega
set_option maxHeartbeats 1600000 in
theorem JoinRows_good (p q : Option Addr) (c1 c2 : Nat) (xs ys : List Nat) (w : World) (hs : SL (.float .f32) 0 w p xs) (hz : ∀ z ∈ xs, z < 4294967296) (hs2 : SL (.float .f32) 0 w q ys) (hz2 : ∀ z ∈ ys, z < 4294967296)
    (h1 : xs.length ≤ 8) (h2 : ys.length ≤ 8) (hr1 : isRowB (us xs) = true) (hr2 : isRowB (us ys) = true) :
    Calls Try.prog 15 #[.slice p xs.length c1, .slice q ys.length c2] w (TabPost w w.heap.size (tabB xs.length ys.length (joL (us xs) (us ys))) xs.length ys.length (joL (us xs) (us ys))) := by
  obtain ⟨i0, hi, hz0, hz1, hz2x⟩ := info_parts info_f32
  have hone := fone32
  have HA := hid (fun w (hs : SL (.float .f32) 0 w p xs) => IsRow_any p c1 xs w hs hz (by omega))
  have HB := hid (fun w (hs : SL (.float .f32) 0 w q ys) => IsRow_any q c2 ys w hs hz2 (by omega))
  rw [hr1] at HA
  rw [hr2] at HB
  have HS := hid hs
  have HZ := hid hz
  have HS2 := hid hs2
  have HZ2 := hid hz2
  clear hs hz hs2 hz2 hr1 hr2
  have hd1 : decide ((8 : Int) < (xs.length : Int)) = false := decide_eq_false (by omega)
  have hd2 : decide ((8 : Int) < (ys.length : Int)) = false := decide_eq_false (by omega)
  obtain ⟨tb, htb⟩ : ∃ tb, tabB xs.length ys.length (joL (us xs) (us ys)) = tb := ⟨_, rfl⟩
  rw [htb]
  have HTB := hid htb
  clear htb
  go_enter Try.func15, Try.ntmps15
  go_wp2_with (fail)
  refine (HA.out _ (HS.out.alloc _)).mono ?_
  rintro e w' ⟨rfl, n, rfl⟩
  go_wp2_with (fail)
  refine (HB.out _ (SL.drew (SL.alloc HS2.out _) _)).mono ?_
  rintro e w' ⟨rfl, n2, rfl⟩
  go_wp2_with (fail)
  obtain ⟨wl, hwl⟩ : ∃ wl, ((w.alloc (.cells #[.int .i64 0, .int .i64 0, .slice none 0 0] 27)).drewN (n + n2)).alloc (.cells #[.int .i64 xs.length, .int .i64 ys.length, .slice none 0 0] 27) = wl := ⟨_, rfl⟩
  have T0 : Hid (TB wl w.heap.size 0 0 (.slice none 0 0)) := by rw [← hwl]; exact ((TB.new w 0 0 (.slice none 0 0)).drewN (n + n2)).below ((Below.refl _ _).alloc (Nat.le_refl _) _)
  have U0 : Hid (TB wl (w.heap.size + 1) xs.length ys.length (.slice none 0 0)) := by unfold Hid; rw [← hwl]; simpa using TB.new ((w.alloc (.cells #[.int .i64 0, .int .i64 0, .slice none 0 0] 27)).drewN (n + n2)) xs.length ys.length (.slice none 0 0)
  have B0 : Hid (Below w.heap.size w wl) := by rw [← hwl]; exact (below_drewN ((Below.refl _ _).alloc (Nat.le_refl _) _) (n + n2)).alloc (by simp) _
  have hsz : wl.heap.size = w.heap.size + 2 := by rw [← hwl]; simp
  rw [hwl]
  clear hwl
  obtain ⟨b0, hb0⟩ : ∃ b, w.heap.size = b := ⟨_, rfl⟩
  rw [hb0] at T0 U0 hsz
  have A0 := hid (HS.out.below_all B0.out)
  have C0 := hid (HS2.out.below_all B0.out)
  have BL := hid HS.out.lt
  have BL2 := hid HS2.out.lt
  rw [hb0]
  have HB0 := hid hb0
  clear hb0 HA HB n n2
  go_loopw [37] (fun i wr => ∃ (k : Nat) (v : Value) (rs : List Nat), k ≤ xs.length ∧ i = .int .i64 k ∧ Hid (TB wr b0 0 0 (.slice none 0 0)) ∧ Hid (TB wr (b0 + 1) xs.length ys.length v) ∧ Hid (OF wr (b0 + 2) v rs) ∧ Hid (us rs = RJ (joE (us xs) (us ys)) (k * ys.length)) ∧ Hid (Below b0 w wr) ∧ Hid (b0 + 2 ≤ wr.heap.size)) (fun i _ => xs.length - (intOf i).toNat)
  case atStart => exact ⟨0, _, [], Nat.zero_le _, rfl, T0, U0, OF_nilJ _ _, by unfold Hid; rw [Nat.zero_mul]; rfl, by rw [← HB0.out]; exact B0, by unfold Hid; omega⟩
  case round =>
    obtain ⟨k, v, rs, hk, rfl, T1, U1, O1, E1, B1, S1⟩ := hrel
    by_cases hlt : k < xs.length
    · obtain ⟨b, off, rfl, hc⟩ := (SL.below HS.out B1.out (by rw [← HB0.out]; exact BL.out)) k hlt
      have hI : (k : Int) < (xs.length : Int) := by omega
      have f1 := us_fl HZ.out hlt
      have HG : Hid (∀ j, j < ys.length → joE (us xs) (us ys) (k * ys.length + j) = fbin .mul .f32 ((us xs).getD k 0) ((us ys).getD j 0)) := fun j hj => by
        have e := joE_at (us xs) (us ys) k j (by rw [us_len]; exact hj)
        rw [us_len] at e; exact e
      generalize (us xs).getD k 0 = u at *
      generalize xs.getD k 0 = x at *
      go_wp2
      obtain ⟨wo, rfl⟩ : ∃ wo : World, wo = wr := ⟨_, rfl⟩
      go_loopw [43] (fun i wr => ∃ (j : Nat) (v : Value) (rs : List Nat), j ≤ ys.length ∧ i = .int .i64 j ∧ Hid (TB wr b0 0 0 (.slice none 0 0)) ∧ Hid (TB wr (b0 + 1) xs.length ys.length v) ∧ Hid (OF wr (b0 + 2) v rs) ∧ Hid (us rs = RJ (joE (us xs) (us ys)) (k * ys.length + j)) ∧ Hid (Below b0 w wr) ∧ Hid (b0 + 2 ≤ wr.heap.size)) (fun i _ => ys.length - (intOf i).toNat)
      case atStart => exact ⟨0, v, rs, Nat.zero_le _, rfl, T1, U1, O1, E1, B1, S1⟩
      case round =>
        obtain ⟨j, v, rs, hj, rfl, T2, U2, O2, E2, B2, S2⟩ := hrel
        by_cases hlt2 : j < ys.length
        · obtain ⟨b2, off2, rfl, hc2⟩ := (SL.below HS2.out B2.out (by rw [← HB0.out]; exact BL2.out)) j hlt2
          have hI2 : (j : Int) < (ys.length : Int) := by omega
          have f3 := us_fl HZ2.out hlt2
          have hrl : rs.length ≤ 64 := by
            have h := us_len_ofJ E2.out
            rw [RJ_len] at h
            have := jo_bound h1 h2 hlt hlt2
            omega
          have HX := hid (fun r (hr : Fl .f32 r (fbin .mul .f32 u ((us ys).getD j 0))) => RJ_succ E2.out (r := r) (by rw [HG.out j hlt2]; exact hr))
          have hu2 := U2.out.tc.2.2
          have hws : b0 + 2 ≤ wr.heap.size := S2.out
          generalize (us ys).getD j 0 = u2 at *
          generalize ys.getD j 0 = x2 at *
          go_wp2_with (first | (at_builtin; refine StopJ.out ?_) | (refine wpList_farith rfl _ _ _ _ _ rfl _ _ _ rfl rfl (by decide) (by assumption) (by assumption) ?_; intro _ _ _))
          refine ⟨?_⟩
          refine wpList_append_own _ rfl _ _ 22 rfl (b0 + 2) 39 i0 (.float .f32 0) 1 4 Try.underlying22 hi hz0 hz1 hz2x rfl (by decide) _ _ _ rfl ((O2.out.drewN _).1.alloc _) ⟨_, 0, none⟩ 1 1 [.float .f32 _] rfl rfl (cell_one_new _ _ _) ?c2 ?c3 ?c4 ?c5 ?_
          case c2 => intro u hu; simp at hu; subst hu; rfl
          case c3 => skip; unfold maxLen; omega
          case c4 => skip; omega
          case c5 => simp; omega
          intro v' w1 hown' hgrow _
          have hg2 : ((wr.drewN _).alloc _).grownBy w1 v.ownBlock := hgrow
          have hsz2 := hg2.size
          obtain ⟨rs3, hO3, hE3⟩ : ∃ rs3, OF w1 (b0 + 2) v' rs3 ∧ Hid (us rs3 = RJ (joE (us xs) (us ys)) (k * ys.length + j + 1)) := ⟨_, OF_appJ O2.out (Fl.lt (by assumption)) hown', HX.out _ (by assumption)⟩
          obtain ⟨pv, cv, hv⟩ := hO3.form
          subst hv
          clear hown' hgrow HX
          have hT3 := (((T2.out.drewN _).below ((Below.refl _ _).alloc (Nat.le_refl _) _)).grown hg2 (fun e => apartB O2.out (by omega) e.symm))
          have hU3 := (((U2.out.drewN _).below ((Below.refl _ _).alloc (Nat.le_refl _) _)).grown hg2 (fun e => apartB O2.out (by omega) e.symm))
          have hB3 : Below b0 w w1 := (((below_drewN B2.out _).alloc (by simp; omega) _).grown hg2 (by simp; omega) (fun k hk => by have := (O2.out.1.lt k hk).1; omega))
          have hS3 : b0 + 2 ≤ w1.heap.size := by simp at hsz2; omega
          have hu3 := hU3.tc.2.2
          have hf3 := hU3.free.2.2
          have HT := hid (hT3.set_other ⟨b0 + 1, 2, none⟩ (.slice pv rs3.length cv) (by simp))
          have HU := hid (hU3.set (.slice pv rs3.length cv))
          have HO := hid (hO3.setO ⟨b0 + 1, 2, none⟩ (.slice pv rs3.length cv) (apartB hO3 (by simp)))
          have HBB := hid (hB3.setCell (p := ⟨b0 + 1, 2, none⟩) (by simp) (.slice pv rs3.length cv))
          have HSS : Hid (b0 + 2 ≤ (w1.setCell ⟨b0 + 1, 2, none⟩ (.slice pv rs3.length cv)).heap.size) := by unfold Hid; simpa using hS3
          clear hT3 hU3 hO3 hB3 hS3 hg2 hsz2
          go_wp2
          go_roundw
          case rel => exact ⟨j + 1, _, rs3, by omega, by go_num, HT, HU, HO, hE3, HBB, HSS⟩
          case measure => simp [intOf]; omega
        · have hjj := hid (show j = ys.length by omega)
          have E3 : Hid (us rs = RJ (joE (us xs) (us ys)) ((k + 1) * ys.length)) := by have h := E2.out; rw [hjj.out, jo_next] at h; exact h
          go_wp2
          go_roundw
          case rel => exact ⟨k + 1, v, rs, by omega, by go_num, T2, U2, O2, E3, B2, S2⟩
          case measure => simp [intOf]; omega
    · have hkk := hid (show k = xs.length by omega)
      have E2 : Hid (us rs = joL (us xs) (us ys)) := by
        have h := E1.out
        rw [hkk.out] at h
        unfold Hid joL
        rw [us_len, us_len]
        exact h
      have hrl : rs.length ≤ 64 := by
        have h := us_len_ofJ E1.out
        rw [RJ_len] at h
        have h3 : k * ys.length ≤ 8 * 8 := Nat.mul_le_mul (by omega) h2
        omega
      obtain ⟨u0, u1, u2⟩ := U1.out.tc
      have hws : b0 + 2 ≤ wr.heap.size := S1.out
      go_wp2_with (fail)
      refine (asTable_any (b0 + 2) xs.length ys.length v rs wr wr O1.out (by omega) (Below.refl _ _) hws).mono ?_
      rw [E2.out, HTB.out]
      rintro e w2 ⟨v2, rs2, rfl, o2, e2, hb2⟩
      obtain ⟨p2, cp2, rfl⟩ := o2.form
      have HO2 := hid o2
      have HE2 := hid e2
      have HT2 := (T1.out.belowB hb2 (by omega))
      obtain ⟨t0, t1, t2⟩ := HT2.tc
      obtain ⟨s0, s1, s2⟩ := HT2.free
      have HB2 := hid (B1.out.trans (hb2.mono (by omega)))
      have hw2 : wr.heap.size ≤ w2.heap.size := hb2.size
      clear o2 e2 hb2 HT2 u0 u1 u2
      obtain ⟨ri, hri⟩ : ∃ r : Int, (if tb = true then (xs.length : Int) else 0) = r := ⟨_, rfl⟩
      obtain ⟨ci, hci⟩ : ∃ r : Int, (if tb = true then (ys.length : Int) else 0) = r := ⟨_, rfl⟩
      rw [hri, hci]
      have HRI := hid hri
      have HCI := hid hci
      clear hri hci
      go_wp2_with (fail)
      have HT3 := hid (((HB2.out.setCell (p := ⟨b0, 0, none⟩) (Nat.le_refl _) (.int .i64 ri)).setCell (p := ⟨b0, 1, none⟩) (Nat.le_refl _) (.int .i64 ci)).setCell (p := ⟨b0, 2, none⟩) (Nat.le_refl _) (.slice p2 rs2.length cp2))
      have HO3 := hid ((((HO2.out.setO ⟨b0, 0, none⟩ (.int .i64 ri) (apartB HO2.out (by simp))).setO ⟨b0, 1, none⟩ (.int .i64 ci) (apartB HO2.out (by simp))).setO ⟨b0, 2, none⟩ (.slice p2 rs2.length cp2) (apartB HO2.out (by simp))).mono (show b0 ≤ b0 + 2 by omega))
      refine bodyPost_ret (v := .tuple #[.agg #[.int .i64 ri, .int .i64 ci, .slice p2 rs2.length cp2], .bool tb]) (by simp [results, Try.results15, go_sem, t0, t1, t2]) rfl ⟨_, rs2, by rw [HRI.out, HCI.out], by rw [HB0.out]; exact HO3.out, HE2.out, by rw [HB0.out]; exact HT3.out⟩
theorem below_zero (w : World) (n : Nat) : Below w.heap.size w (((((w.alloc (.cells #[.int .i64 0, .int .i64 0, .slice none 0 0] 27)).drewN n).setCell ⟨w.heap.size, 0, none⟩ (.int .i64 0)).setCell ⟨w.heap.size, 1, none⟩ (.int .i64 0)).setCell ⟨w.heap.size, 2, none⟩ (.slice none 0 0)) :=
  (((((below_drewN ((Below.refl w.heap.size w).alloc (Nat.le_refl _) (.cells #[.int .i64 0, .int .i64 0, .slice none 0 0] 27)) n).setCell (p := ⟨w.heap.size, 0, none⟩) (Nat.le_refl _) (.int .i64 0)).setCell (p := ⟨w.heap.size, 1, none⟩) (Nat.le_refl _) (.int .i64 0)).setCell (p := ⟨w.heap.size, 2, none⟩) (Nat.le_refl _) (.slice none 0 0)))
set_option maxHeartbeats 800000 in
theorem JoinRows_bad (p q : Option Addr) (c1 c2 : Nat) (xs ys : List Nat) (w : World) (hs : SL (.float .f32) 0 w p xs) (hz : ∀ z ∈ xs, z < 4294967296) (hs2 : SL (.float .f32) 0 w q ys) (hz2 : ∀ z ∈ ys, z < 4294967296)
    (h1 : xs.length ≤ 1048576) (h2 : ys.length ≤ 1048576) (hb : ((isRowB (us xs) && isRowB (us ys)) && (decide (xs.length ≤ 8) && decide (ys.length ≤ 8))) = false) :
    Calls Try.prog 15 #[.slice p xs.length c1, .slice q ys.length c2] w (TabPost w w.heap.size false xs.length ys.length (joL (us xs) (us ys))) := by
  have HA := hid (fun w (hs : SL (.float .f32) 0 w p xs) => IsRow_any p c1 xs w hs hz (by omega))
  have HB := hid (fun w (hs : SL (.float .f32) 0 w q ys) => IsRow_any q c2 ys w hs hz2 (by omega))
  have HS := hid hs
  have HS2 := hid hs2
  clear hs hz hs2 hz2
  cases ha : isRowB (us xs)
  · rw [ha] at HA
    clear hb ha
    go_enter Try.func15, Try.ntmps15
    go_wp2_with (fail)
    refine (HA.out _ (HS.out.alloc _)).mono ?_
    rintro e w' ⟨rfl, n, rfl⟩
    go_wp2_with (fail)
    refine bodyPost_ret (v := .tuple #[.agg #[.int .i64 0, .int .i64 0, .slice none 0 0], .bool false]) (by simp [results, Try.results15, go_sem]) rfl ⟨_, [], rfl, OF_nilJ _ _, rfl, below_zero w _⟩
  · rw [ha] at HA
    cases hbb : isRowB (us ys)
    · rw [hbb] at HB
      clear hb ha hbb
      go_enter Try.func15, Try.ntmps15
      go_wp2_with (fail)
      refine (HA.out _ (HS.out.alloc _)).mono ?_
      rintro e w' ⟨rfl, n, rfl⟩
      go_wp2_with (fail)
      refine (HB.out _ (SL.drew (SL.alloc HS2.out _) _)).mono ?_
      rintro e w' ⟨rfl, n2, rfl⟩
      go_wp2_with (fail)
      refine bodyPost_ret (v := .tuple #[.agg #[.int .i64 0, .int .i64 0, .slice none 0 0], .bool false]) (by simp [results, Try.results15, go_sem]) rfl ⟨_, [], rfl, OF_nilJ _ _, rfl, below_zero w _⟩
    · rw [hbb] at HB
      by_cases l1 : xs.length ≤ 8
      · have l2 : 8 < ys.length := by
          rcases Nat.lt_or_ge 8 ys.length with h | h
          · exact h
          · rw [ha, hbb, decide_eq_true l1, decide_eq_true h] at hb
            cases hb
        have hd1 : decide ((8 : Int) < (xs.length : Int)) = false := decide_eq_false (by omega)
        have hd2 : decide ((8 : Int) < (ys.length : Int)) = true := decide_eq_true (by omega)
        clear hb ha hbb
        go_enter Try.func15, Try.ntmps15
        go_wp2_with (fail)
        refine (HA.out _ (HS.out.alloc _)).mono ?_
        rintro e w' ⟨rfl, n, rfl⟩
        go_wp2_with (fail)
        refine (HB.out _ (SL.drew (SL.alloc HS2.out _) _)).mono ?_
        rintro e w' ⟨rfl, n2, rfl⟩
        go_wp2_with (fail)
        refine bodyPost_ret (v := .tuple #[.agg #[.int .i64 0, .int .i64 0, .slice none 0 0], .bool false]) (by simp [results, Try.results15, go_sem]) rfl ⟨_, [], rfl, OF_nilJ _ _, rfl, below_zero w _⟩
      · have hd1 : decide ((8 : Int) < (xs.length : Int)) = true := decide_eq_true (by omega)
        clear hb ha hbb
        go_enter Try.func15, Try.ntmps15
        go_wp2_with (fail)
        refine (HA.out _ (HS.out.alloc _)).mono ?_
        rintro e w' ⟨rfl, n, rfl⟩
        go_wp2_with (fail)
        refine (HB.out _ (SL.drew (SL.alloc HS2.out _) _)).mono ?_
        rintro e w' ⟨rfl, n2, rfl⟩
        go_wp2_with (fail)
        refine bodyPost_ret (v := .tuple #[.agg #[.int .i64 0, .int .i64 0, .slice none 0 0], .bool false]) (by simp [results, Try.results15, go_sem]) rfl ⟨_, [], rfl, OF_nilJ _ _, rfl, below_zero w _⟩
theorem joB_parts (xs ys : List Nat) : joB (us xs) (us ys) = (((isRowB (us xs) && isRowB (us ys)) && (decide (xs.length ≤ 8) && decide (ys.length ≤ 8))) && tabB xs.length ys.length (joL (us xs) (us ys))) := by
  unfold joB; rw [us_len, us_len]; simp only [Bool.and_assoc]
theorem JoinRows_any (p q : Option Addr) (c1 c2 : Nat) (xs ys : List Nat) (w : World) (hs : SL (.float .f32) 0 w p xs) (hz : ∀ z ∈ xs, z < 4294967296) (hm : xs.length ≤ 1048576) (hs2 : SL (.float .f32) 0 w q ys) (hz2 : ∀ z ∈ ys, z < 4294967296) (hm2 : ys.length ≤ 1048576) :
    Calls Try.prog 15 #[.slice p xs.length c1, .slice q ys.length c2] w (TabPost w w.heap.size (joB (us xs) (us ys)) xs.length ys.length (joL (us xs) (us ys))) := by
  rw [joB_parts]
  cases hb : ((isRowB (us xs) && isRowB (us ys)) && (decide (xs.length ≤ 8) && decide (ys.length ≤ 8)))
  · exact JoinRows_bad p q c1 c2 xs ys w hs hz hs2 hz2 hm hm2 hb
  · rw [Bool.true_and]
    simp only [Bool.and_eq_true, decide_eq_true_eq] at hb
    exact JoinRows_good p q c1 c2 xs ys w hs hz hs2 hz2 hb.2.1 hb.2.2 hb.1.1 hb.1.2
end Go.Proofs.Ytgojfjaballbfaa
