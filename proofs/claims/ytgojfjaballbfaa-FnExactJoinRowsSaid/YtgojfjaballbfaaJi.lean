/-
  THE LAW ON TABLES OF TWO ROWS: the walk. Printed by wip/tools/gen_tablaw.py. Own work; no condition beyond what each theorem names.
-/
import Derived.Test.YtgojfjaballbfaaJh
namespace Go.Proofs.Ytgojfjaballbfaa
open Go.RowKit
set_option linter.unusedVariables false
attribute [local go_sem] run_store_float opS fineS givesS

theorem joB_len (a b : List Nat) : joB a b = true → (joL a b).length ≤ 1048576 := fun h => by
  unfold joB at h
  simp only [Bool.and_eq_true, decide_eq_true_eq] at h
  rw [joL_len]
  exact Nat.le_trans (Nat.mul_le_mul h.2.1.1 h.2.1.2) (by decide)
set_option maxHeartbeats 3200000 in
theorem FnExactJoinRows_walk (a0 : Option Addr) (len0 cap0 : Nat) (z0 : List Nat) (a1 : Option Addr) (len1 cap1 : Nat) (z1 : List Nat) (w : World) (w0 : z0.length = len0 ∧ len0 ≤ maxLen ∧ SL (.float .f32) 0 w a0 z0 ∧ ∀ z ∈ z0, z < 4294967296) (w1 : z1.length = len1 ∧ len1 ≤ maxLen ∧ SL (.float .f32) 0 w a1 z1 ∧ ∀ z ∈ z1, z < 4294967296) :
    Calls Try.prog 5 #[.slice a0 len0 cap0, .slice a1 len1 cap1] w fun e w' => e = .returned (.bool true) ∧ Below w.heap.size w w' := by
  obtain ⟨rfl, hm0, hs0, hz0⟩ := w0
  have HZ0 := hid hz0
  unfold maxLen at hm0
  have A0_0 := hid hs0
  have LB0 := hid hs0.lt
  clear hs0 hz0
  obtain ⟨rfl, hm1, hs1, hz1⟩ := w1
  have HZ1 := hid hz1
  unfold maxLen at hm1
  have A1_0 := hid hs1
  have LB1 := hid hs1.lt
  clear hs1 hz1
  by_cases hbig0 : z0.length ≤ 1048576
  · skip
    by_cases hbig1 : z1.length ≤ 1048576
    · skip
      obtain ⟨bb, hbb⟩ : ∃ bb, joB (us z0) (us z1) = bb := ⟨_, rfl⟩
      obtain ⟨ll, hll⟩ : ∃ ll, joL (us z0) (us z1) = ll := ⟨_, rfl⟩
      have HLEN : Hid ((if bb then ll else []).length ≤ 1048576) := by
        have h0 := joB_len (us z0) (us z1)
        rw [hbb, hll] at h0
        unfold Hid
        cases bb
        · simp
        · exact h0 rfl
      obtain ⟨ri, hri⟩ : ∃ r : Int, (if bb = true then (z0.length : Int) else 0) = r := ⟨_, rfl⟩
      obtain ⟨ci, hci⟩ : ∃ r : Int, (if bb = true then (z1.length : Int) else 0) = r := ⟨_, rfl⟩
      have HBB := hid hbb
      have HLL := hid hll
      have HRI := hid hri
      have HCI := hid hci
      have hbx : (bb != bb) = false := bne_eq_false_iff_eq.2 rfl
      clear hbb hll hri hci
      have B_0 : Hid (Below w.heap.size w w) := Below.refl _ _
      go_enter Try.func5, Try.ntmps5
      go_wp2_with (fail)
      refine (toFloat32S_any _ _ _ _ (by first | exact A0_0.out | exact A0_0.out.drewN _) hbig0).mono ?_
      rintro e v1 ⟨⟨gs0, rfl, hgs0, hos0⟩, hbs0⟩
      have hOFs0 : OF v1 _ (.slice (some ⟨gs0, 0, none⟩) z0.length z0.length) z0 := ⟨hos0, HZ0.out⟩
      have HBFs0 : Hid (w.heap.size ≤ _) := hid (by first | exact (B_0.out).size | exact (below_drewN B_0.out _).size)
      have A0_2 := by first | exact hid (SL.below_all A0_0.out hbs0) | exact hid (SL.below_all (A0_0.out.drewN _) hbs0)
      clear A0_0
      have A1_3 := by first | exact hid (SL.below_all A1_0.out hbs0) | exact hid (SL.below_all (A1_0.out.drewN _) hbs0)
      clear A1_0
      have B_4 := by first | exact hid (below_step B_0.out hbs0 (Nat.le_refl _)) | exact hid (below_step (below_drewN B_0.out _) hbs0 (Nat.le_refl _))
      clear B_0
      have Fs0_5 := hid hOFs0
      clear hOFs0 hos0 hbs0 hgs0
      go_wp2_with (fail)
      refine (toFloat32S_any _ _ _ _ (by first | exact A1_3.out | exact A1_3.out.drewN _) hbig1).mono ?_
      rintro e v6 ⟨⟨gs1, rfl, hgs1, hos1⟩, hbs1⟩
      have hOFs1 : OF v6 _ (.slice (some ⟨gs1, 0, none⟩) z1.length z1.length) z1 := ⟨hos1, HZ1.out⟩
      have NE_Fs0_Fs1 := hid (by first | exact apart_lt Fs0_5.out.1 hOFs1.1 (Nat.le_refl _) | exact apart_lt (Fs0_5.out.drewN _).1 hOFs1.1 (Nat.le_refl _))
      have NE_Fs1_Fs0 := hid (by first | exact apart_gt Fs0_5.out.1 hOFs1.1 (Nat.le_refl _) | exact apart_gt (Fs0_5.out.drewN _).1 hOFs1.1 (Nat.le_refl _))
      have HBFs1 : Hid (w.heap.size ≤ _) := hid (by first | exact (B_4.out).size | exact (below_drewN B_4.out _).size)
      have A0_7 := by first | exact hid (SL.below_all A0_2.out hbs1) | exact hid (SL.below_all (A0_2.out.drewN _) hbs1)
      clear A0_2
      have A1_8 := by first | exact hid (SL.below_all A1_3.out hbs1) | exact hid (SL.below_all (A1_3.out.drewN _) hbs1)
      clear A1_3
      have B_9 := by first | exact hid (below_step B_4.out hbs1 (Nat.le_refl _)) | exact hid (below_step (below_drewN B_4.out _) hbs1 (Nat.le_refl _))
      clear B_4
      have Fs0_10 := by first | exact hid (OF.below Fs0_5.out hbs1) | exact hid (OF.below (Fs0_5.out.drewN _) hbs1)
      clear Fs0_5
      have Fs1_11 := hid hOFs1
      clear hOFs1 hos1 hbs1 hgs1
      go_wp2_with (fail)
      refine (sJoinRows_any _ _ _ _ _ _ _ (OF.sl (by first | exact Fs0_10.out | exact Fs0_10.out.drewN _)).1 HZ0.out hbig0 (OF.sl (by first | exact Fs1_11.out | exact Fs1_11.out.drewN _)).1 HZ1.out hbig1).mono ?_
      rw [HBB.out, HLL.out]
      rintro e v12 ⟨xW, rW, rfl, hoW, huW, hbW⟩
      first
        | rw [HRI.out, HCI.out]
        | rw [show (if true = true then (z0.length : Int) else 0) = ri by simpa using HRI.out, show (if true = true then (z1.length : Int) else 0) = ci by simpa using HCI.out]
        | rw [show (if false = true then (z0.length : Int) else 0) = ri by simpa using HRI.out, show (if false = true then (z1.length : Int) else 0) = ci by simpa using HCI.out]
      obtain ⟨pW, cW, rfl⟩ := hoW.form
      have NE_Fs0_FW := hid (by first | exact apart_lt Fs0_10.out.1 hoW.1 (Nat.le_refl _) | exact apart_lt (Fs0_10.out.drewN _).1 hoW.1 (Nat.le_refl _))
      have NE_FW_Fs0 := hid (by first | exact apart_gt Fs0_10.out.1 hoW.1 (Nat.le_refl _) | exact apart_gt (Fs0_10.out.drewN _).1 hoW.1 (Nat.le_refl _))
      have NE_Fs1_FW := hid (by first | exact apart_lt Fs1_11.out.1 hoW.1 (Nat.le_refl _) | exact apart_lt (Fs1_11.out.drewN _).1 hoW.1 (Nat.le_refl _))
      have NE_FW_Fs1 := hid (by first | exact apart_gt Fs1_11.out.1 hoW.1 (Nat.le_refl _) | exact apart_gt (Fs1_11.out.drewN _).1 hoW.1 (Nat.le_refl _))
      have HBFW : Hid (w.heap.size ≤ _) := hid (by first | exact (B_9.out).size | exact (below_drewN B_9.out _).size)
      have A0_13 := by first | exact hid (SL.below_all A0_7.out hbW) | exact hid (SL.below_all (A0_7.out.drewN _) hbW)
      clear A0_7
      have A1_14 := by first | exact hid (SL.below_all A1_8.out hbW) | exact hid (SL.below_all (A1_8.out.drewN _) hbW)
      clear A1_8
      have B_15 := by first | exact hid (below_step B_9.out hbW (Nat.le_refl _)) | exact hid (below_step (below_drewN B_9.out _) hbW (Nat.le_refl _))
      clear B_9
      have Fs0_16 := by first | exact hid (OF.below Fs0_10.out hbW) | exact hid (OF.below (Fs0_10.out.drewN _) hbW)
      clear Fs0_10
      have Fs1_17 := by first | exact hid (OF.below Fs1_11.out hbW) | exact hid (OF.below (Fs1_11.out.drewN _) hbW)
      clear Fs1_11
      have FW_18 := hid hoW
      have HRW := hid hoW.2
      have UW := hid huW
      clear hoW hbW huW
      go_wp2_with (fail)
      have TW_20 := hid (TC.new v12 ri ci (.slice pW rW.length cW) 27)
      have NT_FW_TW := hid (apartO FW_18.out (Nat.le_refl _))
      have A0_21 := hid (SL.alloc A0_13.out (.cells #[.int .i64 ri, .int .i64 ci, .slice pW rW.length cW] 27))
      clear A0_13
      have A1_22 := hid (SL.alloc A1_14.out (.cells #[.int .i64 ri, .int .i64 ci, .slice pW rW.length cW] 27))
      clear A1_14
      have B_23 := hid (B_15.out.alloc B_15.out.size (.cells #[.int .i64 ri, .int .i64 ci, .slice pW rW.length cW] 27))
      clear B_15
      have FW_24 := hid (OF.alloc FW_18.out (.cells #[.int .i64 ri, .int .i64 ci, .slice pW rW.length cW] 27))
      clear FW_18
      obtain ⟨bW, hbW⟩ : ∃ b, v12.heap.size = b := ⟨_, rfl⟩
      obtain ⟨u19, hu19⟩ : ∃ u, v12.alloc (.cells #[.int .i64 ri, .int .i64 ci, .slice pW rW.length cW] 27) = u := ⟨_, rfl⟩
      rw [hbW, hu19] at TW_20
      rw [hu19] at A0_21 A1_22 B_23 FW_24
      rw [hbW] at NT_FW_TW
      rw [hbW, hu19]
      clear hbW hu19
      refine (toFloat32S_any _ _ _ _ (by first | exact A0_21.out | exact A0_21.out.drewN _) hbig0).mono ?_
      rintro e v25 ⟨⟨gx0, rfl, hgx0, hox0⟩, hbx0⟩
      have hOFx0 : OF v25 _ (.slice (some ⟨gx0, 0, none⟩) z0.length z0.length) z0 := ⟨hox0, HZ0.out⟩
      have NE_FW_Fx0 := hid (by first | exact apart_lt FW_24.out.1 hOFx0.1 (Nat.le_refl _) | exact apart_lt (FW_24.out.drewN _).1 hOFx0.1 (Nat.le_refl _))
      have NE_Fx0_FW := hid (by first | exact apart_gt FW_24.out.1 hOFx0.1 (Nat.le_refl _) | exact apart_gt (FW_24.out.drewN _).1 hOFx0.1 (Nat.le_refl _))
      have NT_Fx0_TW := hid (by first | exact apartB hOFx0 (TC.lt TW_20.out) | exact apartB hOFx0 (TC.lt (TW_20.out.drewN _)))
      have HBFx0 : Hid (w.heap.size ≤ _) := hid (by first | exact (B_23.out).size | exact (below_drewN B_23.out _).size)
      have A0_26 := by first | exact hid (SL.below_all A0_21.out hbx0) | exact hid (SL.below_all (A0_21.out.drewN _) hbx0)
      clear A0_21
      have A1_27 := by first | exact hid (SL.below_all A1_22.out hbx0) | exact hid (SL.below_all (A1_22.out.drewN _) hbx0)
      clear A1_22
      have B_28 := by first | exact hid (below_step B_23.out hbx0 (Nat.le_refl _)) | exact hid (below_step (below_drewN B_23.out _) hbx0 (Nat.le_refl _))
      clear B_23
      have FW_29 := by first | exact hid (OF.below FW_24.out hbx0) | exact hid (OF.below (FW_24.out.drewN _) hbx0)
      clear FW_24
      have TW_30 := by first | exact hid (TC.below TW_20.out hbx0) | exact hid (TC.below (TW_20.out.drewN _) hbx0)
      clear TW_20
      have Fx0_31 := hid hOFx0
      clear hOFx0 hox0 hbx0 hgx0
      go_wp2_with (fail)
      refine (toFloat32S_any _ _ _ _ (by first | exact A1_27.out | exact A1_27.out.drewN _) hbig1).mono ?_
      rintro e v32 ⟨⟨gx1, rfl, hgx1, hox1⟩, hbx1⟩
      have hOFx1 : OF v32 _ (.slice (some ⟨gx1, 0, none⟩) z1.length z1.length) z1 := ⟨hox1, HZ1.out⟩
      have NE_FW_Fx1 := hid (by first | exact apart_lt FW_29.out.1 hOFx1.1 (Nat.le_refl _) | exact apart_lt (FW_29.out.drewN _).1 hOFx1.1 (Nat.le_refl _))
      have NE_Fx1_FW := hid (by first | exact apart_gt FW_29.out.1 hOFx1.1 (Nat.le_refl _) | exact apart_gt (FW_29.out.drewN _).1 hOFx1.1 (Nat.le_refl _))
      have NT_Fx1_TW := hid (by first | exact apartB hOFx1 (TC.lt TW_30.out) | exact apartB hOFx1 (TC.lt (TW_30.out.drewN _)))
      have NE_Fx0_Fx1 := hid (by first | exact apart_lt Fx0_31.out.1 hOFx1.1 (Nat.le_refl _) | exact apart_lt (Fx0_31.out.drewN _).1 hOFx1.1 (Nat.le_refl _))
      have NE_Fx1_Fx0 := hid (by first | exact apart_gt Fx0_31.out.1 hOFx1.1 (Nat.le_refl _) | exact apart_gt (Fx0_31.out.drewN _).1 hOFx1.1 (Nat.le_refl _))
      have HBFx1 : Hid (w.heap.size ≤ _) := hid (by first | exact (B_28.out).size | exact (below_drewN B_28.out _).size)
      have A0_33 := by first | exact hid (SL.below_all A0_26.out hbx1) | exact hid (SL.below_all (A0_26.out.drewN _) hbx1)
      clear A0_26
      have A1_34 := by first | exact hid (SL.below_all A1_27.out hbx1) | exact hid (SL.below_all (A1_27.out.drewN _) hbx1)
      clear A1_27
      have B_35 := by first | exact hid (below_step B_28.out hbx1 (Nat.le_refl _)) | exact hid (below_step (below_drewN B_28.out _) hbx1 (Nat.le_refl _))
      clear B_28
      have FW_36 := by first | exact hid (OF.below FW_29.out hbx1) | exact hid (OF.below (FW_29.out.drewN _) hbx1)
      clear FW_29
      have TW_37 := by first | exact hid (TC.below TW_30.out hbx1) | exact hid (TC.below (TW_30.out.drewN _) hbx1)
      clear TW_30
      have Fx0_38 := by first | exact hid (OF.below Fx0_31.out hbx1) | exact hid (OF.below (Fx0_31.out.drewN _) hbx1)
      clear Fx0_31
      have Fx1_39 := hid hOFx1
      clear hOFx1 hox1 hbx1 hgx1
      go_wp2_with (fail)
      refine (JoinRows_any _ _ _ _ _ _ _ (OF.sl (by first | exact Fx0_38.out | exact Fx0_38.out.drewN _)).1 HZ0.out hbig0 (OF.sl (by first | exact Fx1_39.out | exact Fx1_39.out.drewN _)).1 HZ1.out hbig1).mono ?_
      rw [HBB.out, HLL.out]
      rintro e v40 ⟨xG, rG, rfl, hoG, huG, hbG⟩
      first
        | rw [HRI.out, HCI.out]
        | rw [show (if true = true then (z0.length : Int) else 0) = ri by simpa using HRI.out, show (if true = true then (z1.length : Int) else 0) = ci by simpa using HCI.out]
        | rw [show (if false = true then (z0.length : Int) else 0) = ri by simpa using HRI.out, show (if false = true then (z1.length : Int) else 0) = ci by simpa using HCI.out]
      obtain ⟨pG, cG, rfl⟩ := hoG.form
      have NE_FW_FG := hid (by first | exact apart_lt FW_36.out.1 hoG.1 (Nat.le_refl _) | exact apart_lt (FW_36.out.drewN _).1 hoG.1 (Nat.le_refl _))
      have NE_FG_FW := hid (by first | exact apart_gt FW_36.out.1 hoG.1 (Nat.le_refl _) | exact apart_gt (FW_36.out.drewN _).1 hoG.1 (Nat.le_refl _))
      have NT_FG_TW := hid (by first | exact apartB hoG (TC.lt TW_37.out) | exact apartB hoG (TC.lt (TW_37.out.drewN _)))
      have NE_Fx0_FG := hid (by first | exact apart_lt Fx0_38.out.1 hoG.1 (Nat.le_refl _) | exact apart_lt (Fx0_38.out.drewN _).1 hoG.1 (Nat.le_refl _))
      have NE_FG_Fx0 := hid (by first | exact apart_gt Fx0_38.out.1 hoG.1 (Nat.le_refl _) | exact apart_gt (Fx0_38.out.drewN _).1 hoG.1 (Nat.le_refl _))
      have NE_Fx1_FG := hid (by first | exact apart_lt Fx1_39.out.1 hoG.1 (Nat.le_refl _) | exact apart_lt (Fx1_39.out.drewN _).1 hoG.1 (Nat.le_refl _))
      have NE_FG_Fx1 := hid (by first | exact apart_gt Fx1_39.out.1 hoG.1 (Nat.le_refl _) | exact apart_gt (Fx1_39.out.drewN _).1 hoG.1 (Nat.le_refl _))
      have HBFG : Hid (w.heap.size ≤ _) := hid (by first | exact (B_35.out).size | exact (below_drewN B_35.out _).size)
      have A0_41 := by first | exact hid (SL.below_all A0_33.out hbG) | exact hid (SL.below_all (A0_33.out.drewN _) hbG)
      clear A0_33
      have A1_42 := by first | exact hid (SL.below_all A1_34.out hbG) | exact hid (SL.below_all (A1_34.out.drewN _) hbG)
      clear A1_34
      have B_43 := by first | exact hid (below_step B_35.out hbG (Nat.le_refl _)) | exact hid (below_step (below_drewN B_35.out _) hbG (Nat.le_refl _))
      clear B_35
      have FW_44 := by first | exact hid (OF.below FW_36.out hbG) | exact hid (OF.below (FW_36.out.drewN _) hbG)
      clear FW_36
      have TW_45 := by first | exact hid (TC.below TW_37.out hbG) | exact hid (TC.below (TW_37.out.drewN _) hbG)
      clear TW_37
      have Fx0_46 := by first | exact hid (OF.below Fx0_38.out hbG) | exact hid (OF.below (Fx0_38.out.drewN _) hbG)
      clear Fx0_38
      have Fx1_47 := by first | exact hid (OF.below Fx1_39.out hbG) | exact hid (OF.below (Fx1_39.out.drewN _) hbG)
      clear Fx1_39
      have FG_48 := hid hoG
      have HRG := hid hoG.2
      have UG := hid huG
      clear hoG hbG huG
      have LGW : Hid (rW.length = rG.length) := by unfold Hid; rw [← us_len rW, ← us_len rG, UW.out, UG.out]
      have hrl : rG.length ≤ 1048576 := by rw [← us_len rG, UG.out]; exact HLEN.out
      obtain ⟨TWc0, TWc1, TWc2⟩ := TW_45.out
      have TWlt := TC.lt TW_45.out
      go_wp2_with (fail)
      clear TWc0 TWc1 TWc2 TWlt
      have TG_50 := hid (TC.new v40 ri ci (.slice pG rG.length cG) 27)
      have NT_FW_TG := hid (apartO FW_44.out (Nat.le_refl _))
      have NT_Fx0_TG := hid (apartO Fx0_46.out (Nat.le_refl _))
      have NT_Fx1_TG := hid (apartO Fx1_47.out (Nat.le_refl _))
      have NT_FG_TG := hid (apartO FG_48.out (Nat.le_refl _))
      have A0_51 := hid (SL.alloc A0_41.out (.cells #[.int .i64 ri, .int .i64 ci, .slice pG rG.length cG] 27))
      clear A0_41
      have A1_52 := hid (SL.alloc A1_42.out (.cells #[.int .i64 ri, .int .i64 ci, .slice pG rG.length cG] 27))
      clear A1_42
      have B_53 := hid (B_43.out.alloc B_43.out.size (.cells #[.int .i64 ri, .int .i64 ci, .slice pG rG.length cG] 27))
      clear B_43
      have FW_54 := hid (OF.alloc FW_44.out (.cells #[.int .i64 ri, .int .i64 ci, .slice pG rG.length cG] 27))
      clear FW_44
      have TW_55 := hid (TC.alloc TW_45.out (.cells #[.int .i64 ri, .int .i64 ci, .slice pG rG.length cG] 27))
      clear TW_45
      have Fx0_56 := hid (OF.alloc Fx0_46.out (.cells #[.int .i64 ri, .int .i64 ci, .slice pG rG.length cG] 27))
      clear Fx0_46
      have Fx1_57 := hid (OF.alloc Fx1_47.out (.cells #[.int .i64 ri, .int .i64 ci, .slice pG rG.length cG] 27))
      clear Fx1_47
      have FG_58 := hid (OF.alloc FG_48.out (.cells #[.int .i64 ri, .int .i64 ci, .slice pG rG.length cG] 27))
      clear FG_48
      obtain ⟨bG, hbG⟩ : ∃ b, v40.heap.size = b := ⟨_, rfl⟩
      obtain ⟨u49, hu49⟩ : ∃ u, v40.alloc (.cells #[.int .i64 ri, .int .i64 ci, .slice pG rG.length cG] 27) = u := ⟨_, rfl⟩
      rw [hbG, hu49] at TG_50
      rw [hu49] at A0_51 A1_52 B_53 FW_54 TW_55 Fx0_56 Fx1_57 FG_58
      rw [hbG] at NT_FW_TG NT_Fx0_TG NT_Fx1_TG NT_FG_TG
      rw [hbG, hu49]
      clear hbG hu49
      have hrw : rW.length ≤ 1048576 := by rw [LGW.out]; exact hrl
      cases bb
      all_goals
        refine (eqTable_same ri ci _ _ _ _ _ _ _ (OF.sl (by first | exact FG_58.out | exact FG_58.out.drewN _)).1 (OF.sl (by first | exact FW_54.out | exact FW_54.out.drewN _)).1 HRG.out HRW.out (by rw [UG.out, UW.out]) (by omega)).mono ?_
        rintro e v59 ⟨rfl, hbe⟩
        have A0_60 := by first | exact hid (SL.below_all A0_51.out hbe) | exact hid (SL.below_all (A0_51.out.drewN _) hbe)
        clear A0_51
        have A1_61 := by first | exact hid (SL.below_all A1_52.out hbe) | exact hid (SL.below_all (A1_52.out.drewN _) hbe)
        clear A1_52
        have B_62 := by first | exact hid (below_step B_53.out hbe (Nat.le_refl _)) | exact hid (below_step (below_drewN B_53.out _) hbe (Nat.le_refl _))
        clear B_53
        have FW_63 := by first | exact hid (OF.below FW_54.out hbe) | exact hid (OF.below (FW_54.out.drewN _) hbe)
        clear FW_54
        have TW_64 := by first | exact hid (TC.below TW_55.out hbe) | exact hid (TC.below (TW_55.out.drewN _) hbe)
        clear TW_55
        have Fx0_65 := by first | exact hid (OF.below Fx0_56.out hbe) | exact hid (OF.below (Fx0_56.out.drewN _) hbe)
        clear Fx0_56
        have Fx1_66 := by first | exact hid (OF.below Fx1_57.out hbe) | exact hid (OF.below (Fx1_57.out.drewN _) hbe)
        clear Fx1_57
        have FG_67 := by first | exact hid (OF.below FG_58.out hbe) | exact hid (OF.below (FG_58.out.drewN _) hbe)
        clear FG_58
        have TG_68 := by first | exact hid (TC.below TG_50.out hbe) | exact hid (TC.below (TG_50.out.drewN _) hbe)
        clear TG_50
        clear hbe
        go_wp2_with (fail)
        refine (toFloat32S_any _ _ _ _ (by first | exact A0_60.out | exact A0_60.out.drewN _) hbig0).mono ?_
        rintro e v69 ⟨⟨gy0, rfl, hgy0, hoy0⟩, hby0⟩
        have hOFy0 : OF v69 _ (.slice (some ⟨gy0, 0, none⟩) z0.length z0.length) z0 := ⟨hoy0, HZ0.out⟩
        have NE_FW_Fy0 := hid (by first | exact apart_lt FW_63.out.1 hOFy0.1 (Nat.le_refl _) | exact apart_lt (FW_63.out.drewN _).1 hOFy0.1 (Nat.le_refl _))
        have NE_Fy0_FW := hid (by first | exact apart_gt FW_63.out.1 hOFy0.1 (Nat.le_refl _) | exact apart_gt (FW_63.out.drewN _).1 hOFy0.1 (Nat.le_refl _))
        have NT_Fy0_TW := hid (by first | exact apartB hOFy0 (TC.lt TW_64.out) | exact apartB hOFy0 (TC.lt (TW_64.out.drewN _)))
        have NE_Fx0_Fy0 := hid (by first | exact apart_lt Fx0_65.out.1 hOFy0.1 (Nat.le_refl _) | exact apart_lt (Fx0_65.out.drewN _).1 hOFy0.1 (Nat.le_refl _))
        have NE_Fy0_Fx0 := hid (by first | exact apart_gt Fx0_65.out.1 hOFy0.1 (Nat.le_refl _) | exact apart_gt (Fx0_65.out.drewN _).1 hOFy0.1 (Nat.le_refl _))
        have NE_Fx1_Fy0 := hid (by first | exact apart_lt Fx1_66.out.1 hOFy0.1 (Nat.le_refl _) | exact apart_lt (Fx1_66.out.drewN _).1 hOFy0.1 (Nat.le_refl _))
        have NE_Fy0_Fx1 := hid (by first | exact apart_gt Fx1_66.out.1 hOFy0.1 (Nat.le_refl _) | exact apart_gt (Fx1_66.out.drewN _).1 hOFy0.1 (Nat.le_refl _))
        have NE_FG_Fy0 := hid (by first | exact apart_lt FG_67.out.1 hOFy0.1 (Nat.le_refl _) | exact apart_lt (FG_67.out.drewN _).1 hOFy0.1 (Nat.le_refl _))
        have NE_Fy0_FG := hid (by first | exact apart_gt FG_67.out.1 hOFy0.1 (Nat.le_refl _) | exact apart_gt (FG_67.out.drewN _).1 hOFy0.1 (Nat.le_refl _))
        have NT_Fy0_TG := hid (by first | exact apartB hOFy0 (TC.lt TG_68.out) | exact apartB hOFy0 (TC.lt (TG_68.out.drewN _)))
        have HBFy0 : Hid (w.heap.size ≤ _) := hid (by first | exact (B_62.out).size | exact (below_drewN B_62.out _).size)
        have A0_70 := by first | exact hid (SL.below_all A0_60.out hby0) | exact hid (SL.below_all (A0_60.out.drewN _) hby0)
        clear A0_60
        have A1_71 := by first | exact hid (SL.below_all A1_61.out hby0) | exact hid (SL.below_all (A1_61.out.drewN _) hby0)
        clear A1_61
        have B_72 := by first | exact hid (below_step B_62.out hby0 (Nat.le_refl _)) | exact hid (below_step (below_drewN B_62.out _) hby0 (Nat.le_refl _))
        clear B_62
        have FW_73 := by first | exact hid (OF.below FW_63.out hby0) | exact hid (OF.below (FW_63.out.drewN _) hby0)
        clear FW_63
        have TW_74 := by first | exact hid (TC.below TW_64.out hby0) | exact hid (TC.below (TW_64.out.drewN _) hby0)
        clear TW_64
        have Fx0_75 := by first | exact hid (OF.below Fx0_65.out hby0) | exact hid (OF.below (Fx0_65.out.drewN _) hby0)
        clear Fx0_65
        have Fx1_76 := by first | exact hid (OF.below Fx1_66.out hby0) | exact hid (OF.below (Fx1_66.out.drewN _) hby0)
        clear Fx1_66
        have FG_77 := by first | exact hid (OF.below FG_67.out hby0) | exact hid (OF.below (FG_67.out.drewN _) hby0)
        clear FG_67
        have TG_78 := by first | exact hid (TC.below TG_68.out hby0) | exact hid (TC.below (TG_68.out.drewN _) hby0)
        clear TG_68
        have Fy0_79 := hid hOFy0
        clear hOFy0 hoy0 hby0 hgy0
        go_wp2_with (fail)
        refine (eqFloat32S_same _ _ _ _ _ _ _ (OF.sl (by first | exact Fx0_75.out | exact Fx0_75.out.drewN _)).1 (OF.sl (by first | exact Fy0_79.out | exact Fy0_79.out.drewN _)).1 HZ0.out HZ0.out rfl (by omega) _ rfl).mono ?_
        rintro e w' ⟨rfl, n80, rfl⟩
        go_wp2_with (fail)
        refine (toFloat32S_any _ _ _ _ (by first | exact A1_71.out | exact A1_71.out.drewN _) hbig1).mono ?_
        rintro e v81 ⟨⟨gy1, rfl, hgy1, hoy1⟩, hby1⟩
        have hOFy1 : OF v81 _ (.slice (some ⟨gy1, 0, none⟩) z1.length z1.length) z1 := ⟨hoy1, HZ1.out⟩
        have NE_FW_Fy1 := hid (by first | exact apart_lt FW_73.out.1 hOFy1.1 (Nat.le_refl _) | exact apart_lt (FW_73.out.drewN _).1 hOFy1.1 (Nat.le_refl _))
        have NE_Fy1_FW := hid (by first | exact apart_gt FW_73.out.1 hOFy1.1 (Nat.le_refl _) | exact apart_gt (FW_73.out.drewN _).1 hOFy1.1 (Nat.le_refl _))
        have NT_Fy1_TW := hid (by first | exact apartB hOFy1 (TC.lt TW_74.out) | exact apartB hOFy1 (TC.lt (TW_74.out.drewN _)))
        have NE_Fx0_Fy1 := hid (by first | exact apart_lt Fx0_75.out.1 hOFy1.1 (Nat.le_refl _) | exact apart_lt (Fx0_75.out.drewN _).1 hOFy1.1 (Nat.le_refl _))
        have NE_Fy1_Fx0 := hid (by first | exact apart_gt Fx0_75.out.1 hOFy1.1 (Nat.le_refl _) | exact apart_gt (Fx0_75.out.drewN _).1 hOFy1.1 (Nat.le_refl _))
        have NE_Fx1_Fy1 := hid (by first | exact apart_lt Fx1_76.out.1 hOFy1.1 (Nat.le_refl _) | exact apart_lt (Fx1_76.out.drewN _).1 hOFy1.1 (Nat.le_refl _))
        have NE_Fy1_Fx1 := hid (by first | exact apart_gt Fx1_76.out.1 hOFy1.1 (Nat.le_refl _) | exact apart_gt (Fx1_76.out.drewN _).1 hOFy1.1 (Nat.le_refl _))
        have NE_FG_Fy1 := hid (by first | exact apart_lt FG_77.out.1 hOFy1.1 (Nat.le_refl _) | exact apart_lt (FG_77.out.drewN _).1 hOFy1.1 (Nat.le_refl _))
        have NE_Fy1_FG := hid (by first | exact apart_gt FG_77.out.1 hOFy1.1 (Nat.le_refl _) | exact apart_gt (FG_77.out.drewN _).1 hOFy1.1 (Nat.le_refl _))
        have NT_Fy1_TG := hid (by first | exact apartB hOFy1 (TC.lt TG_78.out) | exact apartB hOFy1 (TC.lt (TG_78.out.drewN _)))
        have HBFy1 : Hid (w.heap.size ≤ _) := hid (by first | exact (B_72.out).size | exact (below_drewN B_72.out _).size)
        have A0_82 := by first | exact hid (SL.below_all A0_70.out hby1) | exact hid (SL.below_all (A0_70.out.drewN _) hby1)
        clear A0_70
        have A1_83 := by first | exact hid (SL.below_all A1_71.out hby1) | exact hid (SL.below_all (A1_71.out.drewN _) hby1)
        clear A1_71
        have B_84 := by first | exact hid (below_step B_72.out hby1 (Nat.le_refl _)) | exact hid (below_step (below_drewN B_72.out _) hby1 (Nat.le_refl _))
        clear B_72
        have FW_85 := by first | exact hid (OF.below FW_73.out hby1) | exact hid (OF.below (FW_73.out.drewN _) hby1)
        clear FW_73
        have TW_86 := by first | exact hid (TC.below TW_74.out hby1) | exact hid (TC.below (TW_74.out.drewN _) hby1)
        clear TW_74
        have Fx0_87 := by first | exact hid (OF.below Fx0_75.out hby1) | exact hid (OF.below (Fx0_75.out.drewN _) hby1)
        clear Fx0_75
        have Fx1_88 := by first | exact hid (OF.below Fx1_76.out hby1) | exact hid (OF.below (Fx1_76.out.drewN _) hby1)
        clear Fx1_76
        have FG_89 := by first | exact hid (OF.below FG_77.out hby1) | exact hid (OF.below (FG_77.out.drewN _) hby1)
        clear FG_77
        have TG_90 := by first | exact hid (TC.below TG_78.out hby1) | exact hid (TC.below (TG_78.out.drewN _) hby1)
        clear TG_78
        have Fy1_91 := hid hOFy1
        clear hOFy1 hoy1 hby1 hgy1
        go_wp2_with (fail)
        refine (eqFloat32S_same _ _ _ _ _ _ _ (OF.sl (by first | exact Fx1_88.out | exact Fx1_88.out.drewN _)).1 (OF.sl (by first | exact Fy1_91.out | exact Fy1_91.out.drewN _)).1 HZ1.out HZ1.out rfl (by omega) _ rfl).mono ?_
        rintro e w' ⟨rfl, n92, rfl⟩
        go_wp2_with (fail)
        refine (markFloat32S_any _ _ _ _ _ (by first | exact Fx0_87.out | exact Fx0_87.out.drewN _) (by omega) (by omega) (by omega)).mono ?_
        rintro e v93 ⟨rfl, hMx0, hGx0⟩
        have A0_94 := by first | exact hid (SL.mark A0_82.out LB0.out Fx0_87.out.1 HBFx0.out hGx0) | exact hid (SL.mark (A0_82.out.drewN _) LB0.out Fx0_87.out.1 HBFx0.out hGx0)
        clear A0_82
        have A1_95 := by first | exact hid (SL.mark A1_83.out LB1.out Fx0_87.out.1 HBFx0.out hGx0) | exact hid (SL.mark (A1_83.out.drewN _) LB1.out Fx0_87.out.1 HBFx0.out hGx0)
        clear A1_83
        have B_96 := by first | exact hid (below_mark B_84.out B_84.out.size Fx0_87.out.1 HBFx0.out hGx0) | exact hid (below_mark (below_drewN B_84.out _) B_84.out.size Fx0_87.out.1 HBFx0.out hGx0)
        clear B_84
        have FW_97 := by first | exact hid (OF.kept FW_85.out hGx0 NE_FW_Fx0.out) | exact hid (OF.kept (FW_85.out.drewN _) hGx0 NE_FW_Fx0.out)
        clear FW_85
        have TW_98 := by first | exact hid (TC.grown TW_86.out hGx0 NT_Fx0_TW.out) | exact hid (TC.grown (TW_86.out.drewN _) hGx0 NT_Fx0_TW.out)
        clear TW_86
        have Fx1_99 := by first | exact hid (OF.kept Fx1_88.out hGx0 NE_Fx1_Fx0.out) | exact hid (OF.kept (Fx1_88.out.drewN _) hGx0 NE_Fx1_Fx0.out)
        clear Fx1_88
        have FG_100 := by first | exact hid (OF.kept FG_89.out hGx0 NE_FG_Fx0.out) | exact hid (OF.kept (FG_89.out.drewN _) hGx0 NE_FG_Fx0.out)
        clear FG_89
        have TG_101 := by first | exact hid (TC.grown TG_90.out hGx0 NT_Fx0_TG.out) | exact hid (TC.grown (TG_90.out.drewN _) hGx0 NT_Fx0_TG.out)
        clear TG_90
        have Fx0_102 := hid hMx0
        clear Fx0_87 hMx0 hGx0
        go_wp2_with (fail)
        refine (markFloat32S_any _ _ _ _ _ (by first | exact Fx1_99.out | exact Fx1_99.out.drewN _) (by omega) (by omega) (by omega)).mono ?_
        rintro e v103 ⟨rfl, hMx1, hGx1⟩
        have A0_104 := by first | exact hid (SL.mark A0_94.out LB0.out Fx1_99.out.1 HBFx1.out hGx1) | exact hid (SL.mark (A0_94.out.drewN _) LB0.out Fx1_99.out.1 HBFx1.out hGx1)
        clear A0_94
        have A1_105 := by first | exact hid (SL.mark A1_95.out LB1.out Fx1_99.out.1 HBFx1.out hGx1) | exact hid (SL.mark (A1_95.out.drewN _) LB1.out Fx1_99.out.1 HBFx1.out hGx1)
        clear A1_95
        have B_106 := by first | exact hid (below_mark B_96.out B_96.out.size Fx1_99.out.1 HBFx1.out hGx1) | exact hid (below_mark (below_drewN B_96.out _) B_96.out.size Fx1_99.out.1 HBFx1.out hGx1)
        clear B_96
        have FW_107 := by first | exact hid (OF.kept FW_97.out hGx1 NE_FW_Fx1.out) | exact hid (OF.kept (FW_97.out.drewN _) hGx1 NE_FW_Fx1.out)
        clear FW_97
        have TW_108 := by first | exact hid (TC.grown TW_98.out hGx1 NT_Fx1_TW.out) | exact hid (TC.grown (TW_98.out.drewN _) hGx1 NT_Fx1_TW.out)
        clear TW_98
        have Fx0_109 := by first | exact hid (OF.kept Fx0_102.out hGx1 NE_Fx0_Fx1.out) | exact hid (OF.kept (Fx0_102.out.drewN _) hGx1 NE_Fx0_Fx1.out)
        clear Fx0_102
        have FG_110 := by first | exact hid (OF.kept FG_100.out hGx1 NE_FG_Fx1.out) | exact hid (OF.kept (FG_100.out.drewN _) hGx1 NE_FG_Fx1.out)
        clear FG_100
        have TG_111 := by first | exact hid (TC.grown TG_101.out hGx1 NT_Fx1_TG.out) | exact hid (TC.grown (TG_101.out.drewN _) hGx1 NT_Fx1_TG.out)
        clear TG_101
        have Fx1_112 := hid hMx1
        clear Fx1_99 hMx1 hGx1
        have hkn : decide (((1 + (z0.length : Int)) + (z1.length : Int)) < 0) = false := decide_eq_false (by omega)
        obtain ⟨TGc0, TGc1, TGc2⟩ := TG_111.out
        have TGlt := TC.lt TG_111.out
        obtain ⟨TWc0, TWc1, TWc2⟩ := TW_108.out
        have TWlt := TC.lt TW_108.out
        go_wp2_with (fail)
        clear TGc0 TGc1 TGc2 TGlt TWc0 TWc1 TWc2 TWlt
        refine (eqTable_same ri ci _ _ _ _ _ _ _ (OF.sl (by first | exact FG_110.out | exact FG_110.out.drewN _)).1 (OF.sl (by first | exact FW_107.out | exact FW_107.out.drewN _)).1 HRG.out HRW.out (by rw [UG.out, UW.out]) (by omega)).mono ?_
        rintro e v113 ⟨rfl, hbe⟩
        have A0_114 := by first | exact hid (SL.below_all A0_104.out hbe) | exact hid (SL.below_all (A0_104.out.drewN _) hbe)
        clear A0_104
        have A1_115 := by first | exact hid (SL.below_all A1_105.out hbe) | exact hid (SL.below_all (A1_105.out.drewN _) hbe)
        clear A1_105
        have B_116 := by first | exact hid (below_step B_106.out hbe (Nat.le_refl _)) | exact hid (below_step (below_drewN B_106.out _) hbe (Nat.le_refl _))
        clear B_106
        have FW_117 := by first | exact hid (OF.below FW_107.out hbe) | exact hid (OF.below (FW_107.out.drewN _) hbe)
        clear FW_107
        have TW_118 := by first | exact hid (TC.below TW_108.out hbe) | exact hid (TC.below (TW_108.out.drewN _) hbe)
        clear TW_108
        have FG_119 := by first | exact hid (OF.below FG_110.out hbe) | exact hid (OF.below (FG_110.out.drewN _) hbe)
        clear FG_110
        have TG_120 := by first | exact hid (TC.below TG_111.out hbe) | exact hid (TC.below (TG_111.out.drewN _) hbe)
        clear TG_111
        clear hbe
        obtain ⟨TGc0, TGc1, TGc2⟩ := TG_120.out
        have TGlt := TC.lt TG_120.out
        go_wp2_with (fail)
        clear TGc0 TGc1 TGc2 TGlt
        refine (markTable_any _ ri ci _ _ _ _ (by first | exact FG_119.out | exact FG_119.out.drewN _) (by omega) (by omega) (by omega)).mono ?_
        rintro e v121 ⟨rfl, hMG, hGG⟩
        have A0_122 := by first | exact hid (SL.mark A0_114.out LB0.out FG_119.out.1 HBFG.out hGG) | exact hid (SL.mark (A0_114.out.drewN _) LB0.out FG_119.out.1 HBFG.out hGG)
        clear A0_114
        have A1_123 := by first | exact hid (SL.mark A1_115.out LB1.out FG_119.out.1 HBFG.out hGG) | exact hid (SL.mark (A1_115.out.drewN _) LB1.out FG_119.out.1 HBFG.out hGG)
        clear A1_115
        have B_124 := by first | exact hid (below_mark B_116.out B_116.out.size FG_119.out.1 HBFG.out hGG) | exact hid (below_mark (below_drewN B_116.out _) B_116.out.size FG_119.out.1 HBFG.out hGG)
        clear B_116
        have FW_125 := by first | exact hid (OF.kept FW_117.out hGG NE_FW_FG.out) | exact hid (OF.kept (FW_117.out.drewN _) hGG NE_FW_FG.out)
        clear FW_117
        have TW_126 := by first | exact hid (TC.grown TW_118.out hGG NT_FG_TW.out) | exact hid (TC.grown (TW_118.out.drewN _) hGG NT_FG_TW.out)
        clear TW_118
        have TG_127 := by first | exact hid (TC.grown TG_120.out hGG NT_FG_TG.out) | exact hid (TC.grown (TG_120.out.drewN _) hGG NT_FG_TG.out)
        clear TG_120
        have FG_128 := hid hMG
        clear FG_119 hMG hGG
        have hqn : decide ((1 + (rG.length : Int)) < 0) = false := decide_eq_false (by omega)
        have hqm : ((1 + (rG.length : Int)) != (1 + (rG.length : Int))) = false := bne_eq_false_iff_eq.2 rfl
        obtain ⟨TGc0, TGc1, TGc2⟩ := TG_127.out
        have TGlt := TC.lt TG_127.out
        go_wp2_with (fail)
        clear TGc0 TGc1 TGc2 TGlt
        refine (heldTable_any _ ri ci _ _ _ _ (by first | exact FG_128.out | exact FG_128.out.drewN _) (by omega) (by omega) (by omega)).mono ?_
        rintro e v129 ⟨rfl, hbh⟩
        have A0_130 := by first | exact hid (SL.below_all A0_122.out hbh) | exact hid (SL.below_all (A0_122.out.drewN _) hbh)
        clear A0_122
        have A1_131 := by first | exact hid (SL.below_all A1_123.out hbh) | exact hid (SL.below_all (A1_123.out.drewN _) hbh)
        clear A1_123
        have B_132 := by first | exact hid (below_step B_124.out hbh (Nat.le_refl _)) | exact hid (below_step (below_drewN B_124.out _) hbh (Nat.le_refl _))
        clear B_124
        have FW_133 := by first | exact hid (OF.below FW_125.out hbh) | exact hid (OF.below (FW_125.out.drewN _) hbh)
        clear FW_125
        have TW_134 := by first | exact hid (TC.below TW_126.out hbh) | exact hid (TC.below (TW_126.out.drewN _) hbh)
        clear TW_126
        have FG_135 := by first | exact hid (OF.below FG_128.out hbh) | exact hid (OF.below (FG_128.out.drewN _) hbh)
        clear FG_128
        have TG_136 := by first | exact hid (TC.below TG_127.out hbh) | exact hid (TC.below (TG_127.out.drewN _) hbh)
        clear TG_127
        clear hbh
        go_wp2_with (fail)
        refine (toFloat32S_any _ _ _ _ (by first | exact A0_130.out | exact A0_130.out.drewN _) hbig0).mono ?_
        rintro e v137 ⟨⟨gt0, rfl, hgt0, hot0⟩, hbt0⟩
        have hOFt0 : OF v137 _ (.slice (some ⟨gt0, 0, none⟩) z0.length z0.length) z0 := ⟨hot0, HZ0.out⟩
        have NE_FW_Ft0 := hid (by first | exact apart_lt FW_133.out.1 hOFt0.1 (Nat.le_refl _) | exact apart_lt (FW_133.out.drewN _).1 hOFt0.1 (Nat.le_refl _))
        have NE_Ft0_FW := hid (by first | exact apart_gt FW_133.out.1 hOFt0.1 (Nat.le_refl _) | exact apart_gt (FW_133.out.drewN _).1 hOFt0.1 (Nat.le_refl _))
        have NT_Ft0_TW := hid (by first | exact apartB hOFt0 (TC.lt TW_134.out) | exact apartB hOFt0 (TC.lt (TW_134.out.drewN _)))
        have NE_FG_Ft0 := hid (by first | exact apart_lt FG_135.out.1 hOFt0.1 (Nat.le_refl _) | exact apart_lt (FG_135.out.drewN _).1 hOFt0.1 (Nat.le_refl _))
        have NE_Ft0_FG := hid (by first | exact apart_gt FG_135.out.1 hOFt0.1 (Nat.le_refl _) | exact apart_gt (FG_135.out.drewN _).1 hOFt0.1 (Nat.le_refl _))
        have NT_Ft0_TG := hid (by first | exact apartB hOFt0 (TC.lt TG_136.out) | exact apartB hOFt0 (TC.lt (TG_136.out.drewN _)))
        have HBFt0 : Hid (w.heap.size ≤ _) := hid (by first | exact (B_132.out).size | exact (below_drewN B_132.out _).size)
        have A0_138 := by first | exact hid (SL.below_all A0_130.out hbt0) | exact hid (SL.below_all (A0_130.out.drewN _) hbt0)
        clear A0_130
        have A1_139 := by first | exact hid (SL.below_all A1_131.out hbt0) | exact hid (SL.below_all (A1_131.out.drewN _) hbt0)
        clear A1_131
        have B_140 := by first | exact hid (below_step B_132.out hbt0 (Nat.le_refl _)) | exact hid (below_step (below_drewN B_132.out _) hbt0 (Nat.le_refl _))
        clear B_132
        have FW_141 := by first | exact hid (OF.below FW_133.out hbt0) | exact hid (OF.below (FW_133.out.drewN _) hbt0)
        clear FW_133
        have TW_142 := by first | exact hid (TC.below TW_134.out hbt0) | exact hid (TC.below (TW_134.out.drewN _) hbt0)
        clear TW_134
        have FG_143 := by first | exact hid (OF.below FG_135.out hbt0) | exact hid (OF.below (FG_135.out.drewN _) hbt0)
        clear FG_135
        have TG_144 := by first | exact hid (TC.below TG_136.out hbt0) | exact hid (TC.below (TG_136.out.drewN _) hbt0)
        clear TG_136
        have Ft0_145 := hid hOFt0
        clear hOFt0 hot0 hbt0 hgt0
        go_wp2_with (fail)
        refine (toFloat32S_any _ _ _ _ (by first | exact A1_139.out | exact A1_139.out.drewN _) hbig1).mono ?_
        rintro e v146 ⟨⟨gt1, rfl, hgt1, hot1⟩, hbt1⟩
        have hOFt1 : OF v146 _ (.slice (some ⟨gt1, 0, none⟩) z1.length z1.length) z1 := ⟨hot1, HZ1.out⟩
        have NE_FW_Ft1 := hid (by first | exact apart_lt FW_141.out.1 hOFt1.1 (Nat.le_refl _) | exact apart_lt (FW_141.out.drewN _).1 hOFt1.1 (Nat.le_refl _))
        have NE_Ft1_FW := hid (by first | exact apart_gt FW_141.out.1 hOFt1.1 (Nat.le_refl _) | exact apart_gt (FW_141.out.drewN _).1 hOFt1.1 (Nat.le_refl _))
        have NT_Ft1_TW := hid (by first | exact apartB hOFt1 (TC.lt TW_142.out) | exact apartB hOFt1 (TC.lt (TW_142.out.drewN _)))
        have NE_FG_Ft1 := hid (by first | exact apart_lt FG_143.out.1 hOFt1.1 (Nat.le_refl _) | exact apart_lt (FG_143.out.drewN _).1 hOFt1.1 (Nat.le_refl _))
        have NE_Ft1_FG := hid (by first | exact apart_gt FG_143.out.1 hOFt1.1 (Nat.le_refl _) | exact apart_gt (FG_143.out.drewN _).1 hOFt1.1 (Nat.le_refl _))
        have NT_Ft1_TG := hid (by first | exact apartB hOFt1 (TC.lt TG_144.out) | exact apartB hOFt1 (TC.lt (TG_144.out.drewN _)))
        have NE_Ft0_Ft1 := hid (by first | exact apart_lt Ft0_145.out.1 hOFt1.1 (Nat.le_refl _) | exact apart_lt (Ft0_145.out.drewN _).1 hOFt1.1 (Nat.le_refl _))
        have NE_Ft1_Ft0 := hid (by first | exact apart_gt Ft0_145.out.1 hOFt1.1 (Nat.le_refl _) | exact apart_gt (Ft0_145.out.drewN _).1 hOFt1.1 (Nat.le_refl _))
        have HBFt1 : Hid (w.heap.size ≤ _) := hid (by first | exact (B_140.out).size | exact (below_drewN B_140.out _).size)
        have A0_147 := by first | exact hid (SL.below_all A0_138.out hbt1) | exact hid (SL.below_all (A0_138.out.drewN _) hbt1)
        clear A0_138
        have A1_148 := by first | exact hid (SL.below_all A1_139.out hbt1) | exact hid (SL.below_all (A1_139.out.drewN _) hbt1)
        clear A1_139
        have B_149 := by first | exact hid (below_step B_140.out hbt1 (Nat.le_refl _)) | exact hid (below_step (below_drewN B_140.out _) hbt1 (Nat.le_refl _))
        clear B_140
        have FW_150 := by first | exact hid (OF.below FW_141.out hbt1) | exact hid (OF.below (FW_141.out.drewN _) hbt1)
        clear FW_141
        have TW_151 := by first | exact hid (TC.below TW_142.out hbt1) | exact hid (TC.below (TW_142.out.drewN _) hbt1)
        clear TW_142
        have FG_152 := by first | exact hid (OF.below FG_143.out hbt1) | exact hid (OF.below (FG_143.out.drewN _) hbt1)
        clear FG_143
        have TG_153 := by first | exact hid (TC.below TG_144.out hbt1) | exact hid (TC.below (TG_144.out.drewN _) hbt1)
        clear TG_144
        have Ft0_154 := by first | exact hid (OF.below Ft0_145.out hbt1) | exact hid (OF.below (Ft0_145.out.drewN _) hbt1)
        clear Ft0_145
        have Ft1_155 := hid hOFt1
        clear hOFt1 hot1 hbt1 hgt1
        go_wp2_with (fail)
        refine (JoinRows_any _ _ _ _ _ _ _ (OF.sl (by first | exact Ft0_154.out | exact Ft0_154.out.drewN _)).1 HZ0.out hbig0 (OF.sl (by first | exact Ft1_155.out | exact Ft1_155.out.drewN _)).1 HZ1.out hbig1).mono ?_
        rw [HBB.out, HLL.out]
        rintro e v156 ⟨xH, rH, rfl, hoH, huH, hbH⟩
        first
          | rw [HRI.out, HCI.out]
          | rw [show (if true = true then (z0.length : Int) else 0) = ri by simpa using HRI.out, show (if true = true then (z1.length : Int) else 0) = ci by simpa using HCI.out]
          | rw [show (if false = true then (z0.length : Int) else 0) = ri by simpa using HRI.out, show (if false = true then (z1.length : Int) else 0) = ci by simpa using HCI.out]
        obtain ⟨pH, cH, rfl⟩ := hoH.form
        have NE_FW_FH := hid (by first | exact apart_lt FW_150.out.1 hoH.1 (Nat.le_refl _) | exact apart_lt (FW_150.out.drewN _).1 hoH.1 (Nat.le_refl _))
        have NE_FH_FW := hid (by first | exact apart_gt FW_150.out.1 hoH.1 (Nat.le_refl _) | exact apart_gt (FW_150.out.drewN _).1 hoH.1 (Nat.le_refl _))
        have NT_FH_TW := hid (by first | exact apartB hoH (TC.lt TW_151.out) | exact apartB hoH (TC.lt (TW_151.out.drewN _)))
        have NE_FG_FH := hid (by first | exact apart_lt FG_152.out.1 hoH.1 (Nat.le_refl _) | exact apart_lt (FG_152.out.drewN _).1 hoH.1 (Nat.le_refl _))
        have NE_FH_FG := hid (by first | exact apart_gt FG_152.out.1 hoH.1 (Nat.le_refl _) | exact apart_gt (FG_152.out.drewN _).1 hoH.1 (Nat.le_refl _))
        have NT_FH_TG := hid (by first | exact apartB hoH (TC.lt TG_153.out) | exact apartB hoH (TC.lt (TG_153.out.drewN _)))
        have NE_Ft0_FH := hid (by first | exact apart_lt Ft0_154.out.1 hoH.1 (Nat.le_refl _) | exact apart_lt (Ft0_154.out.drewN _).1 hoH.1 (Nat.le_refl _))
        have NE_FH_Ft0 := hid (by first | exact apart_gt Ft0_154.out.1 hoH.1 (Nat.le_refl _) | exact apart_gt (Ft0_154.out.drewN _).1 hoH.1 (Nat.le_refl _))
        have NE_Ft1_FH := hid (by first | exact apart_lt Ft1_155.out.1 hoH.1 (Nat.le_refl _) | exact apart_lt (Ft1_155.out.drewN _).1 hoH.1 (Nat.le_refl _))
        have NE_FH_Ft1 := hid (by first | exact apart_gt Ft1_155.out.1 hoH.1 (Nat.le_refl _) | exact apart_gt (Ft1_155.out.drewN _).1 hoH.1 (Nat.le_refl _))
        have HBFH : Hid (w.heap.size ≤ _) := hid (by first | exact (B_149.out).size | exact (below_drewN B_149.out _).size)
        have A0_157 := by first | exact hid (SL.below_all A0_147.out hbH) | exact hid (SL.below_all (A0_147.out.drewN _) hbH)
        clear A0_147
        have A1_158 := by first | exact hid (SL.below_all A1_148.out hbH) | exact hid (SL.below_all (A1_148.out.drewN _) hbH)
        clear A1_148
        have B_159 := by first | exact hid (below_step B_149.out hbH (Nat.le_refl _)) | exact hid (below_step (below_drewN B_149.out _) hbH (Nat.le_refl _))
        clear B_149
        have FW_160 := by first | exact hid (OF.below FW_150.out hbH) | exact hid (OF.below (FW_150.out.drewN _) hbH)
        clear FW_150
        have TW_161 := by first | exact hid (TC.below TW_151.out hbH) | exact hid (TC.below (TW_151.out.drewN _) hbH)
        clear TW_151
        have FG_162 := by first | exact hid (OF.below FG_152.out hbH) | exact hid (OF.below (FG_152.out.drewN _) hbH)
        clear FG_152
        have TG_163 := by first | exact hid (TC.below TG_153.out hbH) | exact hid (TC.below (TG_153.out.drewN _) hbH)
        clear TG_153
        have Ft0_164 := by first | exact hid (OF.below Ft0_154.out hbH) | exact hid (OF.below (Ft0_154.out.drewN _) hbH)
        clear Ft0_154
        have Ft1_165 := by first | exact hid (OF.below Ft1_155.out hbH) | exact hid (OF.below (Ft1_155.out.drewN _) hbH)
        clear Ft1_155
        have FH_166 := hid hoH
        have HRH := hid hoH.2
        have UH := hid huH
        clear hoH hbH huH
        have eHW : us rH = us rW := by first | (rw [UH.out, UW.out]; done) | (have e1 := UW.out; have e2 := UH.out; simp at e1 e2; rw [e1, e2])
        have LHW : Hid (rW.length = rH.length) := by unfold Hid; rw [← us_len rW, ← us_len rH, eHW]
        have hrh : rH.length ≤ 1048576 := by rw [← LHW.out, LGW.out]; exact hrl
        have EHW := hid eHW
        clear eHW
        obtain ⟨TWc0, TWc1, TWc2⟩ := TW_161.out
        have TWlt := TC.lt TW_161.out
        go_wp2_with (fail)
        clear TWc0 TWc1 TWc2 TWlt
        have TH_168 := hid (TC.new v156 ri ci (.slice pH rH.length cH) 27)
        have NT_FW_TH := hid (apartO FW_160.out (Nat.le_refl _))
        have NT_FG_TH := hid (apartO FG_162.out (Nat.le_refl _))
        have NT_FH_TH := hid (apartO FH_166.out (Nat.le_refl _))
        have A0_169 := hid (SL.alloc A0_157.out (.cells #[.int .i64 ri, .int .i64 ci, .slice pH rH.length cH] 27))
        clear A0_157
        have A1_170 := hid (SL.alloc A1_158.out (.cells #[.int .i64 ri, .int .i64 ci, .slice pH rH.length cH] 27))
        clear A1_158
        have B_171 := hid (B_159.out.alloc B_159.out.size (.cells #[.int .i64 ri, .int .i64 ci, .slice pH rH.length cH] 27))
        clear B_159
        have FW_172 := hid (OF.alloc FW_160.out (.cells #[.int .i64 ri, .int .i64 ci, .slice pH rH.length cH] 27))
        clear FW_160
        have TW_173 := hid (TC.alloc TW_161.out (.cells #[.int .i64 ri, .int .i64 ci, .slice pH rH.length cH] 27))
        clear TW_161
        have FG_174 := hid (OF.alloc FG_162.out (.cells #[.int .i64 ri, .int .i64 ci, .slice pH rH.length cH] 27))
        clear FG_162
        have TG_175 := hid (TC.alloc TG_163.out (.cells #[.int .i64 ri, .int .i64 ci, .slice pH rH.length cH] 27))
        clear TG_163
        have FH_176 := hid (OF.alloc FH_166.out (.cells #[.int .i64 ri, .int .i64 ci, .slice pH rH.length cH] 27))
        clear FH_166
        obtain ⟨bH, hbH⟩ : ∃ b, v156.heap.size = b := ⟨_, rfl⟩
        obtain ⟨u167, hu167⟩ : ∃ u, v156.alloc (.cells #[.int .i64 ri, .int .i64 ci, .slice pH rH.length cH] 27) = u := ⟨_, rfl⟩
        rw [hbH, hu167] at TH_168
        rw [hu167] at A0_169 A1_170 B_171 FW_172 TW_173 FG_174 TG_175 FH_176
        rw [hbH] at NT_FW_TH NT_FG_TH NT_FH_TH
        rw [hbH, hu167]
        clear hbH hu167
        refine (eqTable_same ri ci _ _ _ _ _ _ _ (OF.sl (by first | exact FH_176.out | exact FH_176.out.drewN _)).1 (OF.sl (by first | exact FW_172.out | exact FW_172.out.drewN _)).1 HRH.out HRW.out EHW.out (by omega)).mono ?_
        rintro e v177 ⟨rfl, hbe⟩
        have A0_178 := by first | exact hid (SL.below_all A0_169.out hbe) | exact hid (SL.below_all (A0_169.out.drewN _) hbe)
        clear A0_169
        have A1_179 := by first | exact hid (SL.below_all A1_170.out hbe) | exact hid (SL.below_all (A1_170.out.drewN _) hbe)
        clear A1_170
        have B_180 := by first | exact hid (below_step B_171.out hbe (Nat.le_refl _)) | exact hid (below_step (below_drewN B_171.out _) hbe (Nat.le_refl _))
        clear B_171
        have FW_181 := by first | exact hid (OF.below FW_172.out hbe) | exact hid (OF.below (FW_172.out.drewN _) hbe)
        clear FW_172
        have TW_182 := by first | exact hid (TC.below TW_173.out hbe) | exact hid (TC.below (TW_173.out.drewN _) hbe)
        clear TW_173
        have FG_183 := by first | exact hid (OF.below FG_174.out hbe) | exact hid (OF.below (FG_174.out.drewN _) hbe)
        clear FG_174
        have TG_184 := by first | exact hid (TC.below TG_175.out hbe) | exact hid (TC.below (TG_175.out.drewN _) hbe)
        clear TG_175
        have FH_185 := by first | exact hid (OF.below FH_176.out hbe) | exact hid (OF.below (FH_176.out.drewN _) hbe)
        clear FH_176
        have TH_186 := by first | exact hid (TC.below TH_168.out hbe) | exact hid (TC.below (TH_168.out.drewN _) hbe)
        clear TH_168
        clear hbe
        obtain ⟨TGc0, TGc1, TGc2⟩ := TG_184.out
        have TGlt := TC.lt TG_184.out
        go_wp2_with (fail)
        clear TGc0 TGc1 TGc2 TGlt
        refine (heldTable_any _ ri ci _ _ _ _ (by first | exact FG_183.out | exact FG_183.out.drewN _) (by omega) (by omega) (by omega)).mono ?_
        rintro e v187 ⟨rfl, hbh⟩
        have A0_188 := by first | exact hid (SL.below_all A0_178.out hbh) | exact hid (SL.below_all (A0_178.out.drewN _) hbh)
        clear A0_178
        have A1_189 := by first | exact hid (SL.below_all A1_179.out hbh) | exact hid (SL.below_all (A1_179.out.drewN _) hbh)
        clear A1_179
        have B_190 := by first | exact hid (below_step B_180.out hbh (Nat.le_refl _)) | exact hid (below_step (below_drewN B_180.out _) hbh (Nat.le_refl _))
        clear B_180
        have FW_191 := by first | exact hid (OF.below FW_181.out hbh) | exact hid (OF.below (FW_181.out.drewN _) hbh)
        clear FW_181
        have TW_192 := by first | exact hid (TC.below TW_182.out hbh) | exact hid (TC.below (TW_182.out.drewN _) hbh)
        clear TW_182
        have FG_193 := by first | exact hid (OF.below FG_183.out hbh) | exact hid (OF.below (FG_183.out.drewN _) hbh)
        clear FG_183
        have TG_194 := by first | exact hid (TC.below TG_184.out hbh) | exact hid (TC.below (TG_184.out.drewN _) hbh)
        clear TG_184
        have FH_195 := by first | exact hid (OF.below FH_185.out hbh) | exact hid (OF.below (FH_185.out.drewN _) hbh)
        clear FH_185
        have TH_196 := by first | exact hid (TC.below TH_186.out hbh) | exact hid (TC.below (TH_186.out.drewN _) hbh)
        clear TH_186
        clear hbh
        go_wp2_with (fail)
        go_ret
        exact ⟨rfl, by first | exact B_190.out | exact below_drewN B_190.out _⟩
    · go_enter Try.func5, Try.ntmps5
      go_wp2_with (fail)
      go_ret
      exact ⟨rfl, Below.refl _ _⟩
  · go_enter Try.func5, Try.ntmps5
    go_wp2_with (fail)
    go_ret
    exact ⟨rfl, Below.refl _ _⟩
end Go.Proofs.Ytgojfjaballbfaa
