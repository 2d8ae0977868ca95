/-
  ROWS OF COUNTS. Printed by wip/tools/gen_own.py c. Own work; no condition beyond what each theorem names.
-/
import Derived.Test.YtkmodgkkldcpkaaOb
namespace Go.Proofs.Ytkmodgkkldcpkaa
open Go.RowKit
attribute [local go_sem] run_store_float opS fineS givesS


/-! ### Counts -/
def cntB (zs : List Int) : Bool := allIn zs 0 1000000 && decide (1 ≤ zs.length ∧ zs.length ≤ 32)
def cntS (zs : List Int) : Int := if allIn zs 0 1000000 then tot zs else 0
theorem cnt_mem {zs : List Int} (h : allIn zs 0 1000000 = true) : ∀ z ∈ zs, 0 ≤ z ∧ z ≤ 1000000 := by
  intro z hz
  unfold allIn at h
  have := List.all_eq_true.1 h z hz
  simpa using this
theorem cnt_bd {zs : List Int} (h : cntB zs = true) : cntS zs = tot zs ∧ 0 ≤ tot zs ∧ tot zs ≤ 32000000 ∧ 1 ≤ zs.length ∧ zs.length ≤ 32 ∧ allIn zs 0 1000000 = true := by
  unfold cntB at h
  obtain ⟨h1, h2⟩ := Bool.and_eq_true_iff.1 h
  have h2 := of_decide_eq_true h2
  have h3 := tot_bd 1000000 zs (cnt_mem h1) zs.length (Nat.le_refl _)
  rw [List.take_length] at h3
  refine ⟨by unfold cntS; rw [if_pos h1], h3.1, ?_, h2.1, h2.2, h1⟩
  have : (1000000 : Int) * zs.length ≤ 1000000 * 32 := by omega
  omega

set_option maxHeartbeats 800000 in
theorem countSum_any (p : Option Addr) (c1 : Nat) (zs : List Int) (w : World) (hs : SL (.int .i64) 0 w p zs) (hm : zs.length ≤ 1048576) :
    Calls Try.prog 79 #[.slice p zs.length c1] w fun e w' => e = .returned (.tuple #[.int .i64 (cntS zs), .bool (cntB zs)]) ∧ Dr w w' := by
  have HS := hid hs
  clear hs
  go_enter Try.func79, Try.ntmps79
  go_wp2
  go_loopw [4, 9] (fun sm i wr => ∃ (k : Nat) (s : Int), k ≤ zs.length ∧ i = .int .i64 k ∧ sm = .int .i64 s ∧ 0 ≤ s ∧ s ≤ 1000000 * k ∧ Hid (s = tot (zs.take k)) ∧ Hid (∀ j, j < k → (decide (0 ≤ zs.getD j 0) && decide (zs.getD j 0 ≤ 1000000)) = true) ∧ ∃ n, wr = w.drewN n) (fun _ i _ => zs.length - (intOf i).toNat)
  case atStart => exact ⟨0, 0, Nat.zero_le _, rfl, rfl, by omega, by omega, rfl, fun j hj => absurd hj (Nat.not_lt_zero _), 0, rfl⟩
  case round =>
    obtain ⟨k, s, hk, rfl, rfl, hs0, hs1, HT, HA, n, rfl⟩ := hrel
    by_cases hlt : k < zs.length
    · obtain ⟨b, off, rfl, hc⟩ := HS.out k hlt
      have hI : (k : Int) < (zs.length : Int) := by omega
      have HB := hid (fun h => allIn_false (zs := zs) (lo := 0) (hi := 1000000) hlt h)
      have HN : Hid ((decide (0 ≤ zs.getD k 0) && decide (zs.getD k 0 ≤ 1000000)) = true → ∀ j, j < k + 1 → (decide (0 ≤ zs.getD j 0) && decide (zs.getD j 0 ≤ 1000000)) = true) := fun hg j hj => by
        by_cases e : j = k
        · subst e; exact hg
        · exact HA.out j (by omega)
      have HTT := hid (tot_succ zs k hlt)
      generalize hz : zs.getD k 0 = z at *
      clear hz
      cases hb : (decide (0 ≤ z) && decide (z ≤ 1000000))
      · have HBB := hid (HB.out hb)
        have HV : Hid (cntS zs = 0 ∧ cntB zs = false) := by unfold Hid cntS cntB; rw [HBB.out]; exact ⟨rfl, rfl⟩
        have hbb := hid hb
        clear HB HN HTT hb
        go_wp2_with (go_at_call 58; refine (within_any _ _ _ _).mono ?_; rw [hbb.out]; rintro e w' ⟨rfl, rfl⟩)
        go_ret2
        exact ⟨by rw [HV.out.1, HV.out.2]; rfl, _, rfl⟩
      · have HNN := hid (HN.out hb)
        have hz2 : 0 ≤ z ∧ z ≤ 1000000 := by simpa using hb
        obtain ⟨hza, hzb⟩ := hz2
        have hbb := hid hb
        clear HB HN hb
        go_wp2_with (go_at_call 58; refine (within_any _ _ _ _).mono ?_; rw [hbb.out]; rintro e w' ⟨rfl, rfl⟩)
        go_roundw
        case rel => exact ⟨k + 1, s + z, by omega, by go_num, by go_num, by omega, by omega, by unfold Hid; rw [HTT.out, ← HT.out], HNN, _, rfl⟩
        case measure => simp [intOf]; omega
    · have hkk : k = zs.length := by omega
      have HAL := hid (allIn_true (zs := zs) (lo := 0) (hi := 1000000) (fun j hj => HA.out j (by omega)))
      have HV : Hid (cntS zs = s) := by unfold Hid cntS; rw [if_pos HAL.out, HT.out, hkk, List.take_length]
      by_cases h1 : 1 ≤ zs.length
      · by_cases h2 : zs.length ≤ 32
        · have HC : Hid (cntB zs = true) := by unfold Hid cntB; rw [HAL.out, decide_eq_true ⟨h1, h2⟩]; rfl
          have b1 : decide ((1 : Int) ≤ zs.length) = true := decide_eq_true (by omega)
          have b2 : decide ((zs.length : Int) ≤ 32) = true := decide_eq_true (by omega)
          clear HT
          go_wp2
          go_ret2
          exact ⟨by rw [HV.out, HC.out]; simp, _, rfl⟩
        · have HC : Hid (cntB zs = false) := by unfold Hid cntB; rw [decide_eq_false (fun h => h2 h.2), Bool.and_false]
          have b1 : decide ((1 : Int) ≤ zs.length) = true := decide_eq_true (by omega)
          have b2 : decide ((zs.length : Int) ≤ 32) = false := decide_eq_false (by omega)
          clear HT
          go_wp2
          go_ret2
          exact ⟨by rw [HV.out, HC.out]; simp, _, rfl⟩
      · have HC : Hid (cntB zs = false) := by unfold Hid cntB; rw [decide_eq_false (fun h => h1 h.1), Bool.and_false]
        have b1 : decide ((1 : Int) ≤ zs.length) = false := decide_eq_false (by omega)
        clear HT
        go_wp2
        go_ret2
        exact ⟨by rw [HV.out, HC.out]; simp, _, rfl⟩
set_option maxHeartbeats 800000 in
theorem l02Counts_any (p : Option Addr) (c1 : Nat) (zs : List Int) (w : World) (hs : SL (.int .i64) 0 w p zs) (hm : zs.length ≤ 1048576) :
    Calls Try.prog 77 #[.slice p zs.length c1] w fun e w' => e = .returned (.bool (cntB zs)) ∧ Dr w w' := by
  have HS := hid hs
  clear hs
  go_enter Try.func77, Try.ntmps77
  go_wp2
  go_loopw [3] (fun i wr => ∃ (k : Nat), k ≤ zs.length ∧ i = .int .i64 k ∧ Hid (∀ j, j < k → (decide (0 ≤ zs.getD j 0) && decide (zs.getD j 0 ≤ 1000000)) = true) ∧ ∃ n, wr = w.drewN n) (fun i _ => zs.length - (intOf i).toNat)
  case atStart => exact ⟨0, Nat.zero_le _, rfl, fun j hj => absurd hj (Nat.not_lt_zero _), 0, rfl⟩
  case round =>
    obtain ⟨k, hk, rfl, HA, n, rfl⟩ := hrel
    by_cases hlt : k < zs.length
    · obtain ⟨b, off, rfl, hc⟩ := HS.out k hlt
      have hI : (k : Int) < (zs.length : Int) := by omega
      have HB := hid (fun h => allIn_false (zs := zs) (lo := 0) (hi := 1000000) hlt h)
      have HN : Hid ((decide (0 ≤ zs.getD k 0) && decide (zs.getD k 0 ≤ 1000000)) = true → ∀ j, j < k + 1 → (decide (0 ≤ zs.getD j 0) && decide (zs.getD j 0 ≤ 1000000)) = true) := fun hg j hj => by
        by_cases e : j = k
        · subst e; exact hg
        · exact HA.out j (by omega)
      generalize hz : zs.getD k 0 = z at *
      clear hz
      cases hb : (decide (0 ≤ z) && decide (z ≤ 1000000))
      · have HBB := hid (HB.out hb)
        have HV : Hid (cntB zs = false) := by unfold Hid cntB; rw [HBB.out]; rfl
        have hbb := hid hb
        clear HB HN hb
        go_wp2_with (go_at_call 72; refine (l00In_any _ _ _ _).mono ?_; rw [hbb.out]; rintro e w' ⟨rfl, rfl⟩)
        go_ret
        exact ⟨by rw [HV.out]; rfl, _, rfl⟩
      · have HNN := hid (HN.out hb)
        have hbb := hid hb
        clear HB HN hb
        go_wp2_with (go_at_call 72; refine (l00In_any _ _ _ _).mono ?_; rw [hbb.out]; rintro e w' ⟨rfl, rfl⟩)
        go_roundw
        case rel => exact ⟨k + 1, by omega, by go_num, HNN, _, rfl⟩
        case measure => simp [intOf]; omega
    · have HAL := hid (allIn_true (zs := zs) (lo := 0) (hi := 1000000) (fun j hj => HA.out j (by omega)))
      by_cases h1 : 1 ≤ zs.length
      · by_cases h2 : zs.length ≤ 32
        · have HC : Hid (cntB zs = true) := by unfold Hid cntB; rw [HAL.out, decide_eq_true ⟨h1, h2⟩]; rfl
          have b1 : decide ((1 : Int) ≤ zs.length) = true := decide_eq_true (by omega)
          have b2 : decide ((zs.length : Int) ≤ 32) = true := decide_eq_true (by omega)
          go_wp2
          go_ret
          exact ⟨by rw [HC.out]; simp, _, rfl⟩
        · have HC : Hid (cntB zs = false) := by unfold Hid cntB; rw [decide_eq_false (fun h => h2 h.2), Bool.and_false]
          have b1 : decide ((1 : Int) ≤ zs.length) = true := decide_eq_true (by omega)
          have b2 : decide ((zs.length : Int) ≤ 32) = false := decide_eq_false (by omega)
          go_wp2
          go_ret
          exact ⟨by rw [HC.out]; simp, _, rfl⟩
      · have HC : Hid (cntB zs = false) := by unfold Hid cntB; rw [decide_eq_false (fun h => h1 h.1), Bool.and_false]
        have b1 : decide ((1 : Int) ≤ zs.length) = false := decide_eq_false (by omega)
        go_wp2
        go_ret
        exact ⟨by rw [HC.out]; simp, _, rfl⟩
/-! ### Rows of counts -/
def rcE (zs : List Int) (j : Nat) : Nat := fbin .quo .f32 (floatOfInt .f32 (zs.getD j 0)) (floatOfInt .f32 (tot zs))
def rcL (zs : List Int) : List Nat := RL (rcE zs) zs.length
def rcC (zs : List Int) : Bool := cntB zs && decide (tot zs ≠ 0)
def rcB (zs : List Int) : Bool := rcC zs && isRowB (rcL zs)
theorem rcB_len (zs : List Int) : rcB zs = true → (rcL zs).length ≤ 1048576 := fun h => Nat.le_trans (row_len (Bool.and_eq_true_iff.1 h).2).2 (by decide)


theorem OF_made' {w : World} {base : Nat} (h : w.heap.size = base) : OF (w.alloc (.cells #[] 32)) base (.slice (some ⟨base, 0, none⟩) 0 0) [] := by
  subst h; exact OF_made w _ (Nat.le_refl _)

set_option maxHeartbeats 1600000 in
theorem RowOfCounts_any (p : Option Addr) (c1 : Nat) (zs : List Int) (w : World) (hs : SL (.int .i64) 0 w p zs) (hm : zs.length ≤ 1048576) :
    Calls Try.prog 41 #[.slice p zs.length c1] w (RowPost w w.heap.size (rcB zs) (rcL zs)) := by
  obtain ⟨i0, hi, hz0, hz1, hz2x⟩ := info_parts info_f32
  have HB0 : Hid (rcB zs = ((cntB zs && decide (tot zs ≠ 0)) && isRowB (rcL zs))) := rfl
  have HA := hid (countSum_any p c1 zs w hs hm)
  cases hc : cntB zs
  · have HB : Hid (rcB zs = false) := by unfold Hid; rw [HB0.out, hc]; rfl
    rw [hc] at HA
    clear hs hc HB0
    go_enter Try.func41, Try.ntmps41
    go_wp2_with (fail)
    refine HA.out.mono ?_
    rintro e w' ⟨rfl, n, rfl⟩
    go_wp2_with (fail)
    go_ret2
    exact ⟨_, [], by rw [HB.out]; rfl, OF_nil _ _, by rw [HB.out]; rfl, below_drewN (Below.refl _ _) _⟩
  · obtain ⟨q1, q2, q3, q4, q5, q6⟩ := cnt_bd hc
    rw [q1] at HA
    have HL32 := hid q5
    have HS := hid hs
    rw [hc] at HA
    by_cases ht : tot zs = 0
    · have HB : Hid (rcB zs = false) := by unfold Hid; rw [HB0.out, decide_eq_false (fun h => h ht), Bool.and_false, Bool.false_and]
      have hbt : (tot zs == 0) = true := beq_iff_eq.2 ht
      clear hs hc HB0
      go_enter Try.func41, Try.ntmps41
      go_wp2_with (fail)
      refine HA.out.mono ?_
      rintro e w' ⟨rfl, n, rfl⟩
      go_wp2_with (fail)
      go_ret2
      exact ⟨_, [], by rw [HB.out]; rfl, OF_nil _ _, by rw [HB.out]; rfl, below_drewN (Below.refl _ _) _⟩
    · have HB : Hid (rcB zs = isRowB (rcL zs)) := by unfold Hid; rw [HB0.out, decide_eq_true ht, hc]; rfl
      have hbt : (tot zs == 0) = false := beq_eq_false_iff_ne.2 ht
      have HEV : Hid (∀ k, rcE zs k = fbin .quo .f32 (floatOfInt .f32 (zs.getD k 0)) (floatOfInt .f32 (tot zs))) := fun _ => rfl
      obtain ⟨base, hbase⟩ : ∃ base, w.heap.size = base := ⟨_, rfl⟩
      generalize tot zs = T at *
      clear hs hc HB0 q1
      go_enter Try.func41, Try.ntmps41
      go_wp2_with (fail)
      refine HA.out.mono ?_
      rintro e w' ⟨rfl, n, rfl⟩
      go_wp2_with (first | (refine wpList_fofint rfl _ _ _ rfl _ _ rfl (Option.isSome_iff_exists.2 ⟨_, (by with_reducible exact Try.underlying2)⟩) (by with_reducible exact Try.underlying58) ?_; intro _) | (refine wpList_fofint rfl _ _ _ rfl _ _ rfl (Option.isSome_iff_exists.2 ⟨_, (by with_reducible exact Try.underlying2)⟩) (by with_reducible exact Try.underlying32) ?_; intro _) | (refine wpList_fofint rfl _ _ _ rfl _ _ rfl (Option.isSome_iff_exists.2 ⟨_, (by with_reducible exact Try.underlying3)⟩) (by with_reducible exact Try.underlying58) ?_; intro _) | (refine wpList_fofint rfl _ _ _ rfl _ _ rfl (Option.isSome_iff_exists.2 ⟨_, (by with_reducible exact Try.underlying3)⟩) (by with_reducible exact Try.underlying32) ?_; intro _))
      go_loopw [6, 23] (fun o i wr => ∃ (k : Nat) (rs : List Nat), k ≤ zs.length ∧ i = .int .i64 k ∧ Hid (OF wr base o rs) ∧ Hid (us rs = RL (rcE zs) k) ∧ Hid (Below base w wr)) (fun _ i _ => zs.length - (intOf i).toNat)
      case atStart => exact ⟨0, [], Nat.zero_le _, rfl, by unfold Hid; exact OF_made' hbase, rfl, by unfold Hid; exact (below_drewN (Below.refl base w) _).alloc (Nat.le_of_eq hbase.symm) _⟩
      case round =>
        obtain ⟨k, rs, hk, rfl, HO1, HU1, HB1⟩ := hrel
        by_cases hlt : k < zs.length
        · obtain ⟨b, off, rfl, hc⟩ := HS.out k hlt
          have hbl := World.block_lt_of_cell? w _ hc
          have hc1 : wr.cell? ⟨b, off + k, none⟩ = some (.int .i64 (zs.getD k 0)) := by rw [HB1.out.cell (p := ⟨b, off + k, none⟩) (by omega)]; exact hc
          have hI : (k : Int) < (zs.length : Int) := by omega
          have hrl : rs.length ≤ 32 := by have := us_len_of HU1.out; rw [RL_len] at this; have := HL32.out; omega
          have HE := hid (HEV.out k)
          have HSU := hid (fun r (hr : Fl .f32 r ((rcE zs) k)) => RL_succ HU1.out hr)
          have hws : base ≤ wr.heap.size := by have := HB1.out.size; omega
          rw [HE.out] at HSU
          clear hc hbl HE
          generalize zs.getD k 0 = z at *
          go_wp2_with (first | (at_builtin; refine Stop.out ?_) | (refine wpList_fofint rfl _ _ _ rfl _ _ rfl (Option.isSome_iff_exists.2 ⟨_, (by with_reducible exact Try.underlying2)⟩) (by with_reducible exact Try.underlying58) ?_; intro _) | (refine wpList_fofint rfl _ _ _ rfl _ _ rfl (Option.isSome_iff_exists.2 ⟨_, (by with_reducible exact Try.underlying2)⟩) (by with_reducible exact Try.underlying32) ?_; intro _) | (refine wpList_fofint rfl _ _ _ rfl _ _ rfl (Option.isSome_iff_exists.2 ⟨_, (by with_reducible exact Try.underlying3)⟩) (by with_reducible exact Try.underlying58) ?_; intro _) | (refine wpList_fofint rfl _ _ _ rfl _ _ rfl (Option.isSome_iff_exists.2 ⟨_, (by with_reducible exact Try.underlying3)⟩) (by with_reducible exact Try.underlying32) ?_; intro _) | (refine wpList_farith rfl _ _ _ _ _ rfl _ _ _ rfl rfl (by decide) (by assumption) (by assumption) ?_; intro _ _ _))
          refine ⟨?_⟩
          refine wpList_append_own _ rfl _ _ 22 rfl base 32 i0 (.float .f32 0) 1 4 Try.underlying22 hi hz0 hz1 hz2x rfl (by decide) _ _ _ rfl ((HO1.out.drewN _).1.alloc _) ⟨_, 0, none⟩ 1 1 [.float .f32 _] rfl rfl (cell_one_new _ _ _) ?c2 ?c3 ?c4 ?c5 ?_
          case c2 => intro u hu; simp at hu; subst hu; rfl
          case c3 => skip; unfold maxLen; omega
          case c4 => skip; omega
          case c5 => have := HB1.out.size; simp; omega
          intro v' w1 hown' hgrow _
          have HX := hid (HSU.out _ (by assumption))
          have HR := hid (OF_app (HO1.out) (Fl.lt (by assumption)) hown')
          have HG := hid (below_app (w2 := (wr.drewN _).alloc _) ((below_drewN HB1.out _).alloc hws _) ⟨(HO1.out.drewN _).1.alloc _, HO1.out.2⟩ (by simp; omega) hgrow)
          clear hown' hgrow HSU
          go_wp2
          go_roundw
          case rel => exact ⟨k + 1, _, by omega, by go_num, HR, HX, HG⟩
          case measure => simp [intOf]; omega
        · have HK := hid (show k = zs.length by omega)
          have HUU : Hid (us rs = rcL zs) := by have h := HU1.out; rw [HK.out] at h; exact h
          have hlen : rs.length ≤ 1048576 := by have := us_len_of HUU.out; rw [show (rcL zs).length = zs.length from RL_len _ _] at this; have := HL32.out; omega
          have HRR := hid (asRow_any base _ rs w wr HO1.out hlen HB1.out)
          rw [HUU.out] at HRR
          go_wp2_with (fail)
          refine HRR.out.mono ?_
          rintro e w2 ⟨v2, rs2, rfl, hO2, hU2, hB2⟩
          go_wp2_with (fail)
          go_ret2
          refine ⟨v2, rs2, by rw [HB.out]; rfl, ?_, by rw [HB.out]; exact hU2, ?_⟩
          · rw [hbase]; exact hO2
          · rw [hbase]; exact hB2
set_option maxHeartbeats 1600000 in
theorem sRowOfCounts_any (p : Option Addr) (c1 : Nat) (zs : List Int) (w : World) (hs : SL (.int .i64) 0 w p zs) (hm : zs.length ≤ 1048576) :
    Calls Try.prog 39 #[.slice p zs.length c1] w (RowPost w w.heap.size (rcB zs) (rcL zs)) := by
  obtain ⟨i0, hi, hz0, hz1, hz2x⟩ := info_parts info_f32
  have HB0 : Hid (rcB zs = ((cntB zs && decide (tot zs ≠ 0)) && isRowB (rcL zs))) := rfl
  have HA := hid (l02Counts_any p c1 zs w hs hm)
  cases hc : cntB zs
  · have HB : Hid (rcB zs = false) := by unfold Hid; rw [HB0.out, hc]; rfl
    rw [hc] at HA
    clear hs hc HB0
    go_enter Try.func39, Try.ntmps39
    go_wp2_with (fail)
    refine HA.out.mono ?_
    rintro e w' ⟨rfl, n, rfl⟩
    go_wp2_with (fail)
    go_ret2
    exact ⟨_, [], by rw [HB.out]; rfl, OF_nil _ _, by rw [HB.out]; rfl, below_drewN (Below.refl _ _) _⟩
  · obtain ⟨q1, q2, q3, q4, q5, q6⟩ := cnt_bd hc
    have HT := hid (fun n => l02Total_any p c1 zs (w.drewN n) (hs.drewN n) hm (cnt_mem q6))
    have HL32 := hid q5
    have HS := hid hs
    rw [hc] at HA
    by_cases ht : tot zs = 0
    · have HB : Hid (rcB zs = false) := by unfold Hid; rw [HB0.out, decide_eq_false (fun h => h ht), Bool.and_false, Bool.false_and]
      have hbt : (tot zs == 0) = true := beq_iff_eq.2 ht
      clear hs hc HB0
      go_enter Try.func39, Try.ntmps39
      go_wp2_with (fail)
      refine HA.out.mono ?_
      rintro e w' ⟨rfl, n, rfl⟩
      go_wp2_with (fail)
      refine (HT.out _).mono ?_
      rintro e w' ⟨rfl, rfl⟩
      go_wp2_with (fail)
      go_ret2
      exact ⟨_, [], by rw [HB.out]; rfl, OF_nil _ _, by rw [HB.out]; rfl, below_drewN (Below.refl _ _) _⟩
    · have HB : Hid (rcB zs = isRowB (rcL zs)) := by unfold Hid; rw [HB0.out, decide_eq_true ht, hc]; rfl
      have hbt : (tot zs == 0) = false := beq_eq_false_iff_ne.2 ht
      have HEV : Hid (∀ k, rcE zs k = fbin .quo .f32 (floatOfInt .f32 (zs.getD k 0)) (floatOfInt .f32 (tot zs))) := fun _ => rfl
      obtain ⟨base, hbase⟩ : ∃ base, w.heap.size = base := ⟨_, rfl⟩
      generalize tot zs = T at *
      clear hs hc HB0 q1
      go_enter Try.func39, Try.ntmps39
      go_wp2_with (fail)
      refine HA.out.mono ?_
      rintro e w' ⟨rfl, n, rfl⟩
      go_wp2_with (fail)
      refine (HT.out _).mono ?_
      rintro e w' ⟨rfl, rfl⟩
      go_wp2_with (fail)
      refine (HT.out _).mono ?_
      rintro e w' ⟨rfl, rfl⟩
      go_wp2_with (first | (refine wpList_fofint rfl _ _ _ rfl _ _ rfl (Option.isSome_iff_exists.2 ⟨_, (by with_reducible exact Try.underlying2)⟩) (by with_reducible exact Try.underlying58) ?_; intro _) | (refine wpList_fofint rfl _ _ _ rfl _ _ rfl (Option.isSome_iff_exists.2 ⟨_, (by with_reducible exact Try.underlying2)⟩) (by with_reducible exact Try.underlying32) ?_; intro _) | (refine wpList_fofint rfl _ _ _ rfl _ _ rfl (Option.isSome_iff_exists.2 ⟨_, (by with_reducible exact Try.underlying3)⟩) (by with_reducible exact Try.underlying58) ?_; intro _) | (refine wpList_fofint rfl _ _ _ rfl _ _ rfl (Option.isSome_iff_exists.2 ⟨_, (by with_reducible exact Try.underlying3)⟩) (by with_reducible exact Try.underlying32) ?_; intro _))
      go_loopw [5, 6] (fun o i wr => ∃ (k : Nat) (rs : List Nat), k ≤ zs.length ∧ i = .int .i64 k ∧ Hid (OF wr base o rs) ∧ Hid (us rs = RL (rcE zs) k) ∧ Hid (Below base w wr)) (fun _ i _ => zs.length - (intOf i).toNat)
      case atStart => exact ⟨0, [], Nat.zero_le _, rfl, by unfold Hid; exact OF_made' hbase, rfl, by unfold Hid; exact (below_drewN (Below.refl base w) _).alloc (Nat.le_of_eq hbase.symm) _⟩
      case round =>
        obtain ⟨k, rs, hk, rfl, HO1, HU1, HB1⟩ := hrel
        by_cases hlt : k < zs.length
        · obtain ⟨b, off, rfl, hc⟩ := HS.out k hlt
          have hbl := World.block_lt_of_cell? w _ hc
          have hc1 : wr.cell? ⟨b, off + k, none⟩ = some (.int .i64 (zs.getD k 0)) := by rw [HB1.out.cell (p := ⟨b, off + k, none⟩) (by omega)]; exact hc
          have hI : (k : Int) < (zs.length : Int) := by omega
          have hrl : rs.length ≤ 32 := by have := us_len_of HU1.out; rw [RL_len] at this; have := HL32.out; omega
          have HE := hid (HEV.out k)
          have HSU := hid (fun r (hr : Fl .f32 r ((rcE zs) k)) => RL_succ HU1.out hr)
          have hws : base ≤ wr.heap.size := by have := HB1.out.size; omega
          rw [HE.out] at HSU
          clear hc hbl HE
          generalize zs.getD k 0 = z at *
          go_wp2_with (first | (at_builtin; refine Stop.out ?_) | (refine wpList_fofint rfl _ _ _ rfl _ _ rfl (Option.isSome_iff_exists.2 ⟨_, (by with_reducible exact Try.underlying2)⟩) (by with_reducible exact Try.underlying58) ?_; intro _) | (refine wpList_fofint rfl _ _ _ rfl _ _ rfl (Option.isSome_iff_exists.2 ⟨_, (by with_reducible exact Try.underlying2)⟩) (by with_reducible exact Try.underlying32) ?_; intro _) | (refine wpList_fofint rfl _ _ _ rfl _ _ rfl (Option.isSome_iff_exists.2 ⟨_, (by with_reducible exact Try.underlying3)⟩) (by with_reducible exact Try.underlying58) ?_; intro _) | (refine wpList_fofint rfl _ _ _ rfl _ _ rfl (Option.isSome_iff_exists.2 ⟨_, (by with_reducible exact Try.underlying3)⟩) (by with_reducible exact Try.underlying32) ?_; intro _) | (refine wpList_farith rfl _ _ _ _ _ rfl _ _ _ rfl rfl (by decide) (by assumption) (by assumption) ?_; intro _ _ _))
          refine ⟨?_⟩
          refine wpList_append_own _ rfl _ _ 22 rfl base 32 i0 (.float .f32 0) 1 4 Try.underlying22 hi hz0 hz1 hz2x rfl (by decide) _ _ _ rfl ((HO1.out.drewN _).1.alloc _) ⟨_, 0, none⟩ 1 1 [.float .f32 _] rfl rfl (cell_one_new _ _ _) ?c2 ?c3 ?c4 ?c5 ?_
          case c2 => intro u hu; simp at hu; subst hu; rfl
          case c3 => skip; unfold maxLen; omega
          case c4 => skip; omega
          case c5 => have := HB1.out.size; simp; omega
          intro v' w1 hown' hgrow _
          have HX := hid (HSU.out _ (by assumption))
          have HR := hid (OF_app (HO1.out) (Fl.lt (by assumption)) hown')
          have HG := hid (below_app (w2 := (wr.drewN _).alloc _) ((below_drewN HB1.out _).alloc hws _) ⟨(HO1.out.drewN _).1.alloc _, HO1.out.2⟩ (by simp; omega) hgrow)
          clear hown' hgrow HSU
          go_wp2
          go_roundw
          case rel => exact ⟨k + 1, _, by omega, by go_num, HR, HX, HG⟩
          case measure => simp [intOf]; omega
        · have HK := hid (show k = zs.length by omega)
          have HUU : Hid (us rs = rcL zs) := by have h := HU1.out; rw [HK.out] at h; exact h
          have hlen : rs.length ≤ 1048576 := by have := us_len_of HUU.out; rw [show (rcL zs).length = zs.length from RL_len _ _] at this; have := HL32.out; omega
          have HRR := hid (l02Give_any base _ rs w wr HO1.out hlen HB1.out)
          rw [HUU.out] at HRR
          go_wp2_with (fail)
          refine HRR.out.mono ?_
          rintro e w2 ⟨v2, rs2, rfl, hO2, hU2, hB2⟩
          go_wp2_with (fail)
          go_ret2
          refine ⟨v2, rs2, by rw [HB.out]; rfl, ?_, by rw [HB.out]; exact hU2, ?_⟩
          · rw [hbase]; exact hO2
          · rw [hbase]; exact hB2
end Go.Proofs.Ytkmodgkkldcpkaa
