/-
  A LAW WHOSE RESULT IS A ROW OF ITS OWN: the walk. Printed by wip/tools/gen_rowlaw.py. Own work.
-/
import Derived.Test.YtkmodgkkldcpkaaOq
namespace Go.Proofs.Ytkmodgkkldcpkaa
open Go.RowKit
set_option maxHeartbeats 1600000 in
theorem FnExactEvenRow_walk (a0 : Int) (w : World) (_w0 : (Lit.int .i64 a0).wf = true) :
    Calls Try.prog 7 #[.int .i64 a0] w fun e w' => e = .returned (.bool true) ∧ Below w.heap.size w w' := by
  obtain ⟨bb, hbb⟩ : ∃ bb, evB a0 = bb := ⟨_, rfl⟩
  obtain ⟨ll, hll⟩ : ∃ ll, evL a0 = ll := ⟨_, rfl⟩
  have HLEN : Hid ((if bb then ll else []).length ≤ 1048576) := by
    have h0 := evB_len a0
    rw [hbb, hll] at h0
    unfold Hid
    cases bb
    · simp
    · exact h0 rfl
  have HBB := hid hbb
  have HLL := hid hll
  clear hbb hll
  have B_0 : Hid (Below w.heap.size w w) := Below.refl _ _
  go_enter Try.func7, Try.ntmps7
  go_wp2_with (fail)
  refine (sEvenRow_any _ _ ).mono ?_
  rw [HBB.out, HLL.out]
  rintro e v1 ⟨xW, rW, rfl, hoW, huW, hbW⟩
  obtain ⟨pW, cW, rfl⟩ := hoW.form
  obtain ⟨bW, hW, hszW⟩ : ∃ b, OF v1 b (.slice pW rW.length cW) rW ∧ w.heap.size ≤ b := ⟨_, hoW, Nat.le_refl _⟩
  have HBW : Hid (w.heap.size ≤ bW) := Nat.le_trans B_0.out.size hszW
  have B_1 : Hid (Below w.heap.size w v1) := by first | exact B_0.out.trans (hbW.mono B_0.out.size) | exact (below_drewN B_0.out _).trans (hbW.mono B_0.out.size)
  clear B_0
  have FW_1 := hid hW
  have UW := hid huW
  clear hoW hW hbW hszW huW
  have HRW := hid FW_1.out.2
  go_wp2_with (fail)
  refine (EvenRow_any _ _ ).mono ?_
  rw [HBB.out, HLL.out]
  rintro e v2 ⟨xG, rG, rfl, hoG, huG, hbG⟩
  obtain ⟨pG, cG, rfl⟩ := hoG.form
  obtain ⟨bG, hG, hszG⟩ : ∃ b, OF v2 b (.slice pG rG.length cG) rG ∧ v1.heap.size ≤ b := ⟨_, hoG, Nat.le_refl _⟩
  have NE_FW_G := hid (apart_lt FW_1.out.1 hG.1 hszG)
  have NE_FG_W := hid (apart_gt FW_1.out.1 hG.1 hszG)
  have HBG : Hid (w.heap.size ≤ bG) := Nat.le_trans B_1.out.size hszG
  have FW_2 : Hid (OF v2 bW (.slice pW rW.length cW) rW) := by first | exact FW_1.out.below hbG | exact (FW_1.out.drewN _).below hbG
  clear FW_1
  have B_2 : Hid (Below w.heap.size w v2) := by first | exact B_1.out.trans (hbG.mono B_1.out.size) | exact (below_drewN B_1.out _).trans (hbG.mono B_1.out.size)
  clear B_1
  have FG_2 := hid hG
  have UG := hid huG
  clear hoG hG hbG hszG huG
  have HRG := hid FG_2.out.2
  have LGW : Hid (rW.length = rG.length) := by unfold Hid; rw [← us_len rW, ← us_len rG, UW.out, UG.out]
  have hrl : rG.length ≤ 1048576 := by rw [← us_len rG, UG.out]; exact HLEN.out
  cases bb
  all_goals
    go_wp2_with (fail)
    refine (eqFloat32S_same _ _ _ _ _ _ _ (OF.sl (by first | exact FG_2.out | exact FG_2.out.drewN _)).1 (OF.sl (by first | exact FW_2.out | exact FW_2.out.drewN _)).1 HRG.out HRW.out (by rw [UG.out, UW.out]) (by omega) _ (by first | rfl | exact LGW.out | exact LHW.out)).mono ?_
    rintro e w' ⟨rfl, n1, rfl⟩
    go_wp2_with (fail)
    refine (markFloat32S_any _ _ _ _ _ (by first | exact FG_2.out | exact FG_2.out.drewN _) (by omega) (by omega) (by omega)).mono ?_
    rintro e v3 ⟨rfl, hMG, hGG⟩
    have FW_3 : Hid (OF v3 bW (.slice pW rW.length cW) rW) := by first | exact FW_2.out.kept hGG NE_FW_G.out | exact (FW_2.out.drewN _).kept hGG NE_FW_G.out
    clear FW_2
    have B_3 : Hid (Below w.heap.size w v3) := by first | exact below_mark B_2.out B_2.out.size FG_2.out.1 HBG.out hGG | exact below_mark (below_drewN B_2.out _) B_2.out.size FG_2.out.1 HBG.out hGG
    clear B_2
    have FG_3 := hid hMG
    clear FG_2 hMG hGG
    have hqn : decide ((1 + (rG.length : Int)) < 0) = false := decide_eq_false (by omega)
    have hqm : ((1 + (rG.length : Int)) != (1 + (rG.length : Int))) = false := bne_eq_false_iff_eq.2 rfl
    go_wp2_with (fail)
    refine (heldFloat32S_any _ _ _ _ _ (by first | exact FG_3.out | exact FG_3.out.drewN _) (by omega) (by omega) (by omega)).mono ?_
    rintro e w' ⟨rfl, n2, rfl⟩
    go_wp2_with (fail)
    refine (EvenRow_any _ _ ).mono ?_
    rw [HBB.out, HLL.out]
    rintro e v4 ⟨xH, rH, rfl, hoH, huH, hbH⟩
    obtain ⟨pH, cH, rfl⟩ := hoH.form
    obtain ⟨bH, hH, hszH⟩ : ∃ b, OF v4 b (.slice pH rH.length cH) rH ∧ v3.heap.size ≤ b := ⟨_, hoH, Nat.le_refl _⟩
    have NE_FW_H := hid (apart_lt FW_3.out.1 hH.1 hszH)
    have NE_FH_W := hid (apart_gt FW_3.out.1 hH.1 hszH)
    have NE_FG_H := hid (apart_lt FG_3.out.1 hH.1 hszH)
    have NE_FH_G := hid (apart_gt FG_3.out.1 hH.1 hszH)
    have HBH : Hid (w.heap.size ≤ bH) := Nat.le_trans B_3.out.size hszH
    have FW_4 : Hid (OF v4 bW (.slice pW rW.length cW) rW) := by first | exact FW_3.out.below hbH | exact (FW_3.out.drewN _).below hbH
    clear FW_3
    have FG_4 : Hid (OF v4 bG (.slice pG rG.length cG) (marksF 1 rG.length)) := by first | exact FG_3.out.below hbH | exact (FG_3.out.drewN _).below hbH
    clear FG_3
    have B_4 : Hid (Below w.heap.size w v4) := by first | exact B_3.out.trans (hbH.mono B_3.out.size) | exact (below_drewN B_3.out _).trans (hbH.mono B_3.out.size)
    clear B_3
    have FH_4 := hid hH
    have UH := hid huH
    clear hoH hH hbH hszH huH
    have HRH := hid FH_4.out.2
    have eHW : us rH = us rW := by first | (rw [UH.out, UW.out]; done) | (have e1 := UW.out; have e2 := UH.out; simp at e1 e2; rw [e1, e2])
    have LHW : Hid (rW.length = rH.length) := by unfold Hid; rw [← us_len rW, ← us_len rH, eHW]
    have hrh : rH.length ≤ 1048576 := by rw [← LHW.out, LGW.out]; exact hrl
    go_wp2_with (fail)
    refine (eqFloat32S_same _ _ _ _ _ _ _ (OF.sl (by first | exact FH_4.out | exact FH_4.out.drewN _)).1 (OF.sl (by first | exact FW_4.out | exact FW_4.out.drewN _)).1 HRH.out HRW.out eHW (by omega) _ (by first | rfl | exact LGW.out | exact LHW.out)).mono ?_
    rintro e w' ⟨rfl, n3, rfl⟩
    go_wp2_with (fail)
    refine (heldFloat32S_any _ _ _ _ _ (by first | exact FG_4.out | exact FG_4.out.drewN _) (by omega) (by omega) (by omega)).mono ?_
    rintro e w' ⟨rfl, n4, rfl⟩
    go_wp2_with (fail)
    go_ret
    exact ⟨rfl, by first | exact B_4.out | exact below_drewN B_4.out _⟩
end Go.Proofs.Ytkmodgkkldcpkaa
