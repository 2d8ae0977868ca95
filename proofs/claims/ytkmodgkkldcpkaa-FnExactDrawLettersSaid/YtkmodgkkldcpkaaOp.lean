/-
  A LAW WHOSE RESULT IS A ROW OF ITS OWN: the walk. Printed by wip/tools/gen_rowlaw.py. Own work.
-/
import Derived.Test.YtkmodgkkldcpkaaOe
namespace Go.Proofs.Ytkmodgkkldcpkaa
open Go.RowKit
set_option maxHeartbeats 1600000 in
theorem FnExactDrawLetters_walk (a0 : Option Addr) (len0 cap0 : Nat) (z0 : List Nat) (a1 : Int) (a2 : Int) (w : World) (w0 : z0.length = len0 ∧ len0 ≤ maxLen ∧ SL (.float .f32) 0 w a0 z0 ∧ ∀ z ∈ z0, z < 4294967296) (_w1 : (Lit.int .i64 a1).wf = true) (_w2 : (Lit.int .i64 a2).wf = true) :
    Calls Try.prog 8 #[.slice a0 len0 cap0, .int .i64 a1, .int .i64 a2] w fun e w' => e = .returned (.bool true) ∧ Below w.heap.size w w' := by
  obtain ⟨rfl, hm0, hs0, hz0⟩ := w0
  have HZ0 := hid hz0
  unfold maxLen at hm0
  have A0_0 := hid hs0
  have LB0 := hid hs0.lt
  clear hs0 hz0
  by_cases hbig0 : z0.length ≤ 1048576
  · skip
    obtain ⟨bb, hbb⟩ : ∃ bb, drB (us z0) a1 a2 = bb := ⟨_, rfl⟩
    obtain ⟨ll, hll⟩ : ∃ ll, drL (us z0) a1 a2 = ll := ⟨_, rfl⟩
    have HLEN : Hid ((if bb then ll else []).length ≤ 1048576) := by
      have h0 := drB_len (us z0) a1 a2
      rw [hbb, hll] at h0
      unfold Hid
      cases bb
      · simp
      · exact h0 rfl
    have HBB := hid hbb
    have HLL := hid hll
    clear hbb hll
    obtain ⟨sd, hsd⟩ : ∃ sd, drS (us z0) a1 a2 = sd := ⟨_, rfl⟩
    have HSD := hid hsd
    clear hsd
    have B_0 : Hid (Below w.heap.size w w) := Below.refl _ _
    go_enter Try.func8, Try.ntmps8
    go_wp2_with (fail)
    refine (toFloat32S_any _ _ _ _ (by first | exact A0_0.out | exact A0_0.out.drewN _) hbig0).mono ?_
    rintro e v1 ⟨⟨gs0, rfl, hgs0, hos0⟩, hbs0⟩
    obtain ⟨bs0, hs0, hszs0⟩ : ∃ b, OF v1 b (.slice (some ⟨gs0, 0, none⟩) z0.length z0.length) z0 ∧ w.heap.size ≤ b := ⟨_, ⟨hos0, HZ0.out⟩, Nat.le_refl _⟩
    have HBs0 : Hid (w.heap.size ≤ bs0) := Nat.le_trans B_0.out.size hszs0
    have A0_1 : Hid (SL (.float .f32) 0 v1 a0 z0) := by first | exact A0_0.out.below_all hbs0 | exact (A0_0.out.drewN _).below_all hbs0
    clear A0_0
    have B_1 : Hid (Below w.heap.size w v1) := by first | exact B_0.out.trans (hbs0.mono B_0.out.size) | exact (below_drewN B_0.out _).trans (hbs0.mono B_0.out.size)
    clear B_0
    have Fs0_1 := hid hs0
    clear hos0 hs0 hbs0 hszs0 hgs0
    go_wp2_with (fail)
    refine (sDrawLetters_any _ _ _ _ _ _ (OF.sl (by first | exact Fs0_1.out | exact Fs0_1.out.drewN _)).1 HZ0.out hbig0).mono ?_
    rw [HBB.out, HLL.out, HSD.out]
    rintro e v2 ⟨xW, rW, rfl, hoW, huW, hbW⟩
    obtain ⟨pW, cW, rfl⟩ := hoW.form
    obtain ⟨bW, hW, hszW⟩ : ∃ b, OI v2 b (.slice pW rW.length cW) rW ∧ v1.heap.size ≤ b := ⟨_, hoW, Nat.le_refl _⟩
    have NE_Fs0_W := hid (apart_lt Fs0_1.out.1 hW hszW)
    have NE_FW_s0 := hid (apart_gt Fs0_1.out.1 hW hszW)
    have HBW : Hid (w.heap.size ≤ bW) := Nat.le_trans B_1.out.size hszW
    have A0_2 : Hid (SL (.float .f32) 0 v2 a0 z0) := by first | exact A0_1.out.below_all hbW | exact (A0_1.out.drewN _).below_all hbW
    clear A0_1
    have Fs0_2 : Hid (OF v2 bs0 (.slice (some ⟨gs0, 0, none⟩) z0.length z0.length) z0) := by first | exact Fs0_1.out.below hbW | exact (Fs0_1.out.drewN _).below hbW
    clear Fs0_1
    have B_2 : Hid (Below w.heap.size w v2) := by first | exact B_1.out.trans (hbW.mono B_1.out.size) | exact (below_drewN B_1.out _).trans (hbW.mono B_1.out.size)
    clear B_1
    have FW_2 := hid hW
    have UW := hid huW
    clear hoW hW hbW hszW huW
    go_wp2_with (fail)
    refine (toFloat32S_any _ _ _ _ (by first | exact A0_2.out | exact A0_2.out.drewN _) hbig0).mono ?_
    rintro e v3 ⟨⟨gx0, rfl, hgx0, hox0⟩, hbx0⟩
    obtain ⟨bx0, hx0, hszx0⟩ : ∃ b, OF v3 b (.slice (some ⟨gx0, 0, none⟩) z0.length z0.length) z0 ∧ v2.heap.size ≤ b := ⟨_, ⟨hox0, HZ0.out⟩, Nat.le_refl _⟩
    have NE_FW_x0 := hid (apart_lt FW_2.out hx0.1 hszx0)
    have NE_Fx0_W := hid (apart_gt FW_2.out hx0.1 hszx0)
    have HBx0 : Hid (w.heap.size ≤ bx0) := Nat.le_trans B_2.out.size hszx0
    have A0_3 : Hid (SL (.float .f32) 0 v3 a0 z0) := by first | exact A0_2.out.below_all hbx0 | exact (A0_2.out.drewN _).below_all hbx0
    clear A0_2
    have FW_3 : Hid (OI v3 bW (.slice pW rW.length cW) rW) := by first | exact FW_2.out.below hbx0 | exact (FW_2.out.drewN _).below hbx0
    clear FW_2
    have B_3 : Hid (Below w.heap.size w v3) := by first | exact B_2.out.trans (hbx0.mono B_2.out.size) | exact (below_drewN B_2.out _).trans (hbx0.mono B_2.out.size)
    clear B_2
    have Fx0_3 := hid hx0
    clear hox0 hx0 hbx0 hszx0 hgx0
    go_wp2_with (fail)
    refine (DrawLetters_any _ _ _ _ _ _ (OF.sl (by first | exact Fx0_3.out | exact Fx0_3.out.drewN _)).1 HZ0.out hbig0).mono ?_
    rw [HBB.out, HLL.out, HSD.out]
    rintro e v4 ⟨xG, rG, rfl, hoG, huG, hbG⟩
    obtain ⟨pG, cG, rfl⟩ := hoG.form
    obtain ⟨bG, hG, hszG⟩ : ∃ b, OI v4 b (.slice pG rG.length cG) rG ∧ v3.heap.size ≤ b := ⟨_, hoG, Nat.le_refl _⟩
    have NE_FW_G := hid (apart_lt FW_3.out hG hszG)
    have NE_FG_W := hid (apart_gt FW_3.out hG hszG)
    have NE_Fx0_G := hid (apart_lt Fx0_3.out.1 hG hszG)
    have NE_FG_x0 := hid (apart_gt Fx0_3.out.1 hG hszG)
    have HBG : Hid (w.heap.size ≤ bG) := Nat.le_trans B_3.out.size hszG
    have A0_4 : Hid (SL (.float .f32) 0 v4 a0 z0) := by first | exact A0_3.out.below_all hbG | exact (A0_3.out.drewN _).below_all hbG
    clear A0_3
    have FW_4 : Hid (OI v4 bW (.slice pW rW.length cW) rW) := by first | exact FW_3.out.below hbG | exact (FW_3.out.drewN _).below hbG
    clear FW_3
    have Fx0_4 : Hid (OF v4 bx0 (.slice (some ⟨gx0, 0, none⟩) z0.length z0.length) z0) := by first | exact Fx0_3.out.below hbG | exact (Fx0_3.out.drewN _).below hbG
    clear Fx0_3
    have B_4 : Hid (Below w.heap.size w v4) := by first | exact B_3.out.trans (hbG.mono B_3.out.size) | exact (below_drewN B_3.out _).trans (hbG.mono B_3.out.size)
    clear B_3
    have FG_4 := hid hG
    have UG := hid huG
    clear hoG hG hbG hszG huG
    have hrl : rG.length ≤ 1048576 := by rw [UG.out]; exact HLEN.out
    obtain rfl : rW = rG := by rw [UG.out, UW.out]
    cases bb
    all_goals
      go_wp2_with (fail)
      refine (eqInt64S_same _ _ _ _ _ _ (OI.sl (by first | exact FG_4.out | exact FG_4.out.drewN _)).1 (OI.sl (by first | exact FW_4.out | exact FW_4.out.drewN _)).1 (by omega)).mono ?_
      rintro e w' ⟨rfl, n1, rfl⟩
      go_wp2_with (fail)
      refine (toFloat32S_any _ _ _ _ (by first | exact A0_4.out | exact A0_4.out.drewN _) hbig0).mono ?_
      rintro e v5 ⟨⟨gy0, rfl, hgy0, hoy0⟩, hby0⟩
      obtain ⟨by0, hy0, hszy0⟩ : ∃ b, OF v5 b (.slice (some ⟨gy0, 0, none⟩) z0.length z0.length) z0 ∧ v4.heap.size ≤ b := ⟨_, ⟨hoy0, HZ0.out⟩, Nat.le_refl _⟩
      have NE_FW_y0 := hid (apart_lt FW_4.out hy0.1 hszy0)
      have NE_Fy0_W := hid (apart_gt FW_4.out hy0.1 hszy0)
      have NE_Fx0_y0 := hid (apart_lt Fx0_4.out.1 hy0.1 hszy0)
      have NE_Fy0_x0 := hid (apart_gt Fx0_4.out.1 hy0.1 hszy0)
      have NE_FG_y0 := hid (apart_lt FG_4.out hy0.1 hszy0)
      have NE_Fy0_G := hid (apart_gt FG_4.out hy0.1 hszy0)
      have HBy0 : Hid (w.heap.size ≤ by0) := Nat.le_trans B_4.out.size hszy0
      have A0_5 : Hid (SL (.float .f32) 0 v5 a0 z0) := by first | exact A0_4.out.below_all hby0 | exact (A0_4.out.drewN _).below_all hby0
      clear A0_4
      have FW_5 : Hid (OI v5 bW (.slice pW rW.length cW) rW) := by first | exact FW_4.out.below hby0 | exact (FW_4.out.drewN _).below hby0
      clear FW_4
      have Fx0_5 : Hid (OF v5 bx0 (.slice (some ⟨gx0, 0, none⟩) z0.length z0.length) z0) := by first | exact Fx0_4.out.below hby0 | exact (Fx0_4.out.drewN _).below hby0
      clear Fx0_4
      have FG_5 : Hid (OI v5 bG (.slice pG rW.length cG) rW) := by first | exact FG_4.out.below hby0 | exact (FG_4.out.drewN _).below hby0
      clear FG_4
      have B_5 : Hid (Below w.heap.size w v5) := by first | exact B_4.out.trans (hby0.mono B_4.out.size) | exact (below_drewN B_4.out _).trans (hby0.mono B_4.out.size)
      clear B_4
      have Fy0_5 := hid hy0
      clear hoy0 hy0 hby0 hszy0 hgy0
      go_wp2_with (fail)
      refine (eqFloat32S_same _ _ _ _ _ _ _ (OF.sl (by first | exact Fx0_5.out | exact Fx0_5.out.drewN _)).1 (OF.sl (by first | exact Fy0_5.out | exact Fy0_5.out.drewN _)).1 HZ0.out HZ0.out rfl (by omega) _ (by first | rfl | exact LGW.out | exact LHW.out)).mono ?_
      rintro e w' ⟨rfl, n2, rfl⟩
      go_wp2_with (fail)
      refine (markFloat32S_any _ _ _ _ _ (by first | exact Fx0_5.out | exact Fx0_5.out.drewN _) (by omega) (by omega) (by omega)).mono ?_
      rintro e v6 ⟨rfl, hMx0, hGx0⟩
      have A0_6 : Hid (SL (.float .f32) 0 v6 a0 z0) := by first | exact A0_5.out.mark LB0.out Fx0_5.out.1 HBx0.out hGx0 | exact (A0_5.out.drewN _).mark LB0.out Fx0_5.out.1 HBx0.out hGx0
      clear A0_5
      have FW_6 : Hid (OI v6 bW (.slice pW rW.length cW) rW) := by first | exact FW_5.out.kept hGx0 NE_FW_x0.out | exact (FW_5.out.drewN _).kept hGx0 NE_FW_x0.out
      clear FW_5
      have FG_6 : Hid (OI v6 bG (.slice pG rW.length cG) rW) := by first | exact FG_5.out.kept hGx0 NE_FG_x0.out | exact (FG_5.out.drewN _).kept hGx0 NE_FG_x0.out
      clear FG_5
      have B_6 : Hid (Below w.heap.size w v6) := by first | exact below_mark B_5.out B_5.out.size Fx0_5.out.1 HBx0.out hGx0 | exact below_mark (below_drewN B_5.out _) B_5.out.size Fx0_5.out.1 HBx0.out hGx0
      clear B_5
      have Fx0_6 := hid hMx0
      clear Fx0_5 hMx0 hGx0
      have hkn : decide ((1 + (z0.length : Int)) < 0) = false := decide_eq_false (by omega)
      go_wp2_with (fail)
      refine (eqInt64S_same _ _ _ _ _ _ (OI.sl (by first | exact FG_6.out | exact FG_6.out.drewN _)).1 (OI.sl (by first | exact FW_6.out | exact FW_6.out.drewN _)).1 (by omega)).mono ?_
      rintro e w' ⟨rfl, n3, rfl⟩
      go_wp2_with (fail)
      refine (markInt64S_any _ _ _ _ _ (by first | exact FG_6.out | exact FG_6.out.drewN _) (by omega) (by omega) (by omega)).mono ?_
      rintro e v7 ⟨rfl, hMG, hGG⟩
      have A0_7 : Hid (SL (.float .f32) 0 v7 a0 z0) := by first | exact A0_6.out.mark LB0.out FG_6.out HBG.out hGG | exact (A0_6.out.drewN _).mark LB0.out FG_6.out HBG.out hGG
      clear A0_6
      have FW_7 : Hid (OI v7 bW (.slice pW rW.length cW) rW) := by first | exact FW_6.out.kept hGG NE_FW_G.out | exact (FW_6.out.drewN _).kept hGG NE_FW_G.out
      clear FW_6
      have B_7 : Hid (Below w.heap.size w v7) := by first | exact below_mark B_6.out B_6.out.size FG_6.out HBG.out hGG | exact below_mark (below_drewN B_6.out _) B_6.out.size FG_6.out HBG.out hGG
      clear B_6
      have FG_7 := hid hMG
      clear FG_6 hMG hGG
      have hqn : decide ((1 + (rW.length : Int)) < 0) = false := decide_eq_false (by omega)
      have hqm : ((1 + (rW.length : Int)) != (1 + (rW.length : Int))) = false := bne_eq_false_iff_eq.2 rfl
      go_wp2_with (fail)
      refine (heldInt64S_any _ _ _ _ _ (by first | exact FG_7.out | exact FG_7.out.drewN _) (by omega) (by omega) (by omega)).mono ?_
      rintro e w' ⟨rfl, n4, rfl⟩
      go_wp2_with (fail)
      refine (toFloat32S_any _ _ _ _ (by first | exact A0_7.out | exact A0_7.out.drewN _) hbig0).mono ?_
      rintro e v8 ⟨⟨gt0, rfl, hgt0, hot0⟩, hbt0⟩
      obtain ⟨bt0, ht0, hszt0⟩ : ∃ b, OF v8 b (.slice (some ⟨gt0, 0, none⟩) z0.length z0.length) z0 ∧ v7.heap.size ≤ b := ⟨_, ⟨hot0, HZ0.out⟩, Nat.le_refl _⟩
      have NE_FW_t0 := hid (apart_lt FW_7.out ht0.1 hszt0)
      have NE_Ft0_W := hid (apart_gt FW_7.out ht0.1 hszt0)
      have NE_FG_t0 := hid (apart_lt FG_7.out ht0.1 hszt0)
      have NE_Ft0_G := hid (apart_gt FG_7.out ht0.1 hszt0)
      have HBt0 : Hid (w.heap.size ≤ bt0) := Nat.le_trans B_7.out.size hszt0
      have A0_8 : Hid (SL (.float .f32) 0 v8 a0 z0) := by first | exact A0_7.out.below_all hbt0 | exact (A0_7.out.drewN _).below_all hbt0
      clear A0_7
      have FW_8 : Hid (OI v8 bW (.slice pW rW.length cW) rW) := by first | exact FW_7.out.below hbt0 | exact (FW_7.out.drewN _).below hbt0
      clear FW_7
      have FG_8 : Hid (OI v8 bG (.slice pG rW.length cG) (marksI 1 rW.length)) := by first | exact FG_7.out.below hbt0 | exact (FG_7.out.drewN _).below hbt0
      clear FG_7
      have B_8 : Hid (Below w.heap.size w v8) := by first | exact B_7.out.trans (hbt0.mono B_7.out.size) | exact (below_drewN B_7.out _).trans (hbt0.mono B_7.out.size)
      clear B_7
      have Ft0_8 := hid ht0
      clear hot0 ht0 hbt0 hszt0 hgt0
      go_wp2_with (fail)
      refine (DrawLetters_any _ _ _ _ _ _ (OF.sl (by first | exact Ft0_8.out | exact Ft0_8.out.drewN _)).1 HZ0.out hbig0).mono ?_
      rw [HBB.out, HLL.out, HSD.out]
      rintro e v9 ⟨xH, rH, rfl, hoH, huH, hbH⟩
      obtain ⟨pH, cH, rfl⟩ := hoH.form
      obtain ⟨bH, hH, hszH⟩ : ∃ b, OI v9 b (.slice pH rH.length cH) rH ∧ v8.heap.size ≤ b := ⟨_, hoH, Nat.le_refl _⟩
      have NE_FW_H := hid (apart_lt FW_8.out hH hszH)
      have NE_FH_W := hid (apart_gt FW_8.out hH hszH)
      have NE_FG_H := hid (apart_lt FG_8.out hH hszH)
      have NE_FH_G := hid (apart_gt FG_8.out hH hszH)
      have NE_Ft0_H := hid (apart_lt Ft0_8.out.1 hH hszH)
      have NE_FH_t0 := hid (apart_gt Ft0_8.out.1 hH hszH)
      have HBH : Hid (w.heap.size ≤ bH) := Nat.le_trans B_8.out.size hszH
      have A0_9 : Hid (SL (.float .f32) 0 v9 a0 z0) := by first | exact A0_8.out.below_all hbH | exact (A0_8.out.drewN _).below_all hbH
      clear A0_8
      have FW_9 : Hid (OI v9 bW (.slice pW rW.length cW) rW) := by first | exact FW_8.out.below hbH | exact (FW_8.out.drewN _).below hbH
      clear FW_8
      have FG_9 : Hid (OI v9 bG (.slice pG rW.length cG) (marksI 1 rW.length)) := by first | exact FG_8.out.below hbH | exact (FG_8.out.drewN _).below hbH
      clear FG_8
      have Ft0_9 : Hid (OF v9 bt0 (.slice (some ⟨gt0, 0, none⟩) z0.length z0.length) z0) := by first | exact Ft0_8.out.below hbH | exact (Ft0_8.out.drewN _).below hbH
      clear Ft0_8
      have B_9 : Hid (Below w.heap.size w v9) := by first | exact B_8.out.trans (hbH.mono B_8.out.size) | exact (below_drewN B_8.out _).trans (hbH.mono B_8.out.size)
      clear B_8
      have FH_9 := hid hH
      have UH := hid huH
      clear hoH hH hbH hszH huH
      obtain rfl : rW = rH := by first | (rw [UH.out, UW.out]; done) | (have e1 := UW.out; have e2 := UH.out; simp at e1 e2; rw [e1, e2])
      go_wp2_with (fail)
      refine (eqInt64S_same _ _ _ _ _ _ (OI.sl (by first | exact FH_9.out | exact FH_9.out.drewN _)).1 (OI.sl (by first | exact FW_9.out | exact FW_9.out.drewN _)).1 (by omega)).mono ?_
      rintro e w' ⟨rfl, n5, rfl⟩
      go_wp2_with (fail)
      refine (heldInt64S_any _ _ _ _ _ (by first | exact FG_9.out | exact FG_9.out.drewN _) (by omega) (by omega) (by omega)).mono ?_
      rintro e w' ⟨rfl, n6, rfl⟩
      go_wp2_with (fail)
      go_ret
      exact ⟨rfl, by first | exact B_9.out | exact below_drewN B_9.out _⟩
  · go_enter Try.func8, Try.ntmps8
    go_wp2_with (fail)
    go_ret
    exact ⟨rfl, Below.refl _ _⟩
end Go.Proofs.Ytkmodgkkldcpkaa
