/-
  SLICES of integers: equality, sums, words of a type.
  Own work; no condition beyond what each theorem names.
-/
import Derived.Test.YtkmodgkkldcpkaaSa
import Derived.Test.YtkmodgkkldcpkaaWd
import Derived.BigQuiet
import Derived.Deep.QuietTactic
namespace Go.Proofs.Ytkmodgkkldcpkaa
open Go.RowKit

set_option maxHeartbeats 400000 in
theorem eqInt64S_same (p q : Option Addr) (c1 c2 : Nat) (zs : List Int) (w : World) (hp : SL (.int .i64) 0 w p zs) (hq : SL (.int .i64) 0 w q zs) (hm : zs.length ≤ 9223372036854775807) :
    Calls Try.prog 36 #[.slice p zs.length c1, .slice q zs.length c2] w fun e w' => e = .returned (.bool true) ∧ Dr w w' := by
  have HP := hid hp
  have HQ := hid hq
  clear hp hq
  go_enter Try.func36, Try.ntmps36
  go_wp2
  go_loopw [5] (fun i wr => ∃ k : Nat, k ≤ zs.length ∧ i = .int .i64 k ∧ ∃ n, wr = w.drewN n) (fun i _ => zs.length - (intOf i).toNat)
  case atStart => exact ⟨0, Nat.zero_le _, rfl, 0, rfl⟩
  case round =>
    obtain ⟨k, hk, rfl, n, rfl⟩ := hrel
    by_cases hlt : k < zs.length
    · obtain ⟨b, off, rfl, hc⟩ := HP.out k hlt
      obtain ⟨b2, off2, rfl, hc2⟩ := HQ.out k hlt
      have hI : (k : Int) < (zs.length : Int) := by omega
      go_wp2
      go_quiet (fail)
      go_wp2
      go_roundw
      case rel => exact ⟨k + 1, by omega, by go_num, _, rfl⟩
      case measure => simp [intOf]; omega
    · go_wp2
      go_ret
      exact ⟨rfl, _, rfl⟩
def tot (zs : List Int) : Int := zs.foldl (· + ·) 0
theorem tot_succ (zs : List Int) (k : Nat) (h : k < zs.length) : tot (zs.take (k + 1)) = tot (zs.take k) + zs.getD k 0 := by
  unfold tot
  rw [List.take_succ_eq_append_getElem h, List.foldl_append]
  simp [List.getD, h]
theorem tot_bd (B : Int) (zs : List Int) (hz : ∀ z ∈ zs, 0 ≤ z ∧ z ≤ B) (k : Nat) (hk : k ≤ zs.length) : 0 ≤ tot (zs.take k) ∧ tot (zs.take k) ≤ B * k := by
  induction k with
  | zero => simp [tot]
  | succ k ih =>
    have h1 := ih (by omega)
    have h2 := hz (zs.getD k 0) (by simp [List.getD, show k < zs.length by omega])
    rw [tot_succ zs k (by omega)]
    have : B * ((k + 1 : Nat) : Int) = B * k + B := by rw [Int.natCast_add, Int.mul_add]; simp
    omega
set_option maxHeartbeats 400000 in
theorem l02Total_any (p : Option Addr) (cap : Nat) (zs : List Int) (w : World) (hs : SL (.int .i64) 0 w p zs) (hm : zs.length ≤ 1048576) (hz : ∀ z ∈ zs, 0 ≤ z ∧ z ≤ 1000000) :
    Calls Try.prog 78 #[.slice p zs.length cap] w fun e w' => e = .returned (.int .i64 (tot zs)) ∧ w = w' := by
  have HS := hid hs
  have HZ := hid hz
  clear hs hz
  go_enter Try.func78, Try.ntmps78
  go_wp2
  go_loop [3, 4] (fun s i => ∃ k : Nat, ∃ z : Int, k ≤ zs.length ∧ i = .int .i64 k ∧ s = .int .i64 z ∧ z = tot (zs.take k)) (fun _ i => zs.length - (intOf i).toNat)
  case atStart => exact ⟨0, 0, Nat.zero_le _, rfl, rfl, rfl⟩
  case round =>
    obtain ⟨k, z, hk, rfl, rfl, hz⟩ := hrel
    have hb := tot_bd 1000000 zs HZ.out k hk
    rw [← hz] at hb
    obtain ⟨hb0, hb1⟩ := hb
    have HZ2 := hid hz
    clear hz
    by_cases hlt : k < zs.length
    · obtain ⟨b, off, rfl, hc⟩ := HS.out k hlt
      have HT := hid (tot_succ zs k hlt)
      have hg := HZ.out (zs.getD k 0) (by simp [List.getD, hlt])
      generalize zs.getD k 0 = x at *
      obtain ⟨hg0, hg1⟩ := hg
      go_wp2
      go_round
      case rel => exact ⟨k + 1, _, by omega, by go_num, rfl, by rw [HT.out, ← HZ2.out]⟩
      case measure => simp [intOf]; omega
    · go_wp2
      go_ret
      have hk2 : k = zs.length := by omega
      exact ⟨by rw [show tot zs = z by rw [HZ2.out, hk2, List.take_length]]; rfl, rfl⟩

/-! ### types -/

def typP (zs : List Int) : Prop := (∀ z ∈ zs, 0 ≤ z ∧ z ≤ 20) ∧ 1 ≤ zs.length ∧ zs.length ≤ 8 ∧ tot zs ≤ 20
noncomputable def typB (zs : List Int) : Bool := @decide (typP zs) (Classical.propDecidable _)
theorem typB_t {zs : List Int} (h : typP zs) : typB zs = true := @decide_eq_true _ (Classical.propDecidable _) h
theorem typB_f {zs : List Int} (h : ¬ typP zs) : typB zs = false := @decide_eq_false _ (Classical.propDecidable _) h

/-- Words and letters after some counts. -/
def wdS (zs : List Int) : Int × Int := zs.foldl (fun s c => (wrap64 (s.1 * chooseV (s.2 + c) c), s.2 + c)) (1, 0)
def wd (zs : List Int) : Int := (wdS zs).1
theorem wdS_succ (zs : List Int) (k : Nat) (h : k < zs.length) : wdS (zs.take (k + 1)) = (wrap64 (wd (zs.take k) * chooseV ((wdS (zs.take k)).2 + zs.getD k 0) (zs.getD k 0)), (wdS (zs.take k)).2 + zs.getD k 0) := by
  unfold wd wdS
  rw [List.take_succ_eq_append_getElem h, List.foldl_append]
  simp [List.getD, h]
theorem wdS_tot (zs : List Int) : ∀ k, k ≤ zs.length → (wdS (zs.take k)).2 = tot (zs.take k)
  | 0, _ => rfl
  | k + 1, h => by rw [wdS_succ zs k (by omega), tot_succ zs k (by omega), wdS_tot zs k (by omega)]
theorem wd_succ (zs : List Int) (k : Nat) (h : k < zs.length) : wd (zs.take (k + 1)) = wrap64 (wd (zs.take k) * chooseV (tot (zs.take k) + zs.getD k 0) (zs.getD k 0)) := by
  rw [← wdS_tot zs k (by omega)]
  show (wdS _).1 = _
  rw [wdS_succ zs k h]

theorem tot_mono (zs : List Int) (hz : ∀ z ∈ zs, 0 ≤ z) : ∀ j k, k + j ≤ zs.length → tot (zs.take k) ≤ tot (zs.take (k + j))
  | 0, k, _ => by simp
  | j + 1, k, h => by
    have h1 := tot_mono zs hz j k (by omega)
    have h2 := hz (zs.getD (k + j) 0) (by simp [List.getD, show k + j < zs.length by omega])
    have h3 := tot_succ zs (k + j) (by omega)
    rw [show k + (j + 1) = k + j + 1 by omega, h3]; omega
theorem tot_le (zs : List Int) (hz : ∀ z ∈ zs, 0 ≤ z) (k : Nat) (hk : k ≤ zs.length) : tot (zs.take k) ≤ tot zs := by
  have := tot_mono zs hz (zs.length - k) k (by omega)
  rwa [show k + (zs.length - k) = zs.length by omega, List.take_length] at this

set_option maxHeartbeats 800000 in
theorem l02Type_any (p : Option Addr) (cap : Nat) (zs : List Int) (w : World) (hs : SL (.int .i64) 0 w p zs) (hm : zs.length ≤ 1048576) :
    Calls Try.prog 83 #[.slice p zs.length cap] w fun e w' => e = .returned (.bool (typB zs)) ∧ Dr w w' := by
  have HS := hid hs
  clear hs
  go_enter Try.func83, Try.ntmps83
  go_wp2
  go_loopw [3] (fun i wr => ∃ k : Nat, k ≤ zs.length ∧ i = .int .i64 k ∧ Hid (∀ j, j < k → 0 ≤ zs.getD j 0 ∧ zs.getD j 0 ≤ 20) ∧ ∃ n, wr = w.drewN n) (fun i _ => zs.length - (intOf i).toNat)
  case atStart => exact ⟨0, Nat.zero_le _, rfl, fun j hj => absurd hj (Nat.not_lt_zero _), 0, rfl⟩
  case round =>
    obtain ⟨k, hk, rfl, HA, n, rfl⟩ := hrel
    by_cases hlt : k < zs.length
    · obtain ⟨b, off, rfl, hc⟩ := HS.out k hlt
      have hI : (k : Int) < (zs.length : Int) := by omega
      have hmem : zs.getD k 0 ∈ zs := by simp [List.getD, hlt]
      by_cases hx : 0 ≤ zs.getD k 0 ∧ zs.getD k 0 ≤ 20
      · have hall : ∀ j, j < k + 1 → 0 ≤ zs.getD j 0 ∧ zs.getD j 0 ≤ 20 := fun j hj => by
          by_cases e : j = k
          · subst e; exact hx
          · exact HA.out j (by omega)
        have HALL := hid hall
        clear hall
        have hb : (decide (0 ≤ zs.getD k 0) && decide (zs.getD k 0 ≤ 20)) = true := by rw [decide_eq_true hx.1, decide_eq_true hx.2]; rfl
        clear hx hmem
        generalize zs.getD k 0 = x at hc hb
        have HBB := hid hb
        clear hb
        go_wp2_with (go_at_call 72; refine (l00In_any _ _ _ _).mono ?_; rw [HBB.out]; rintro e w' ⟨rfl, rfl⟩)
        go_roundw
        case rel => exact ⟨k + 1, by omega, by go_num, HALL, _, rfl⟩
        case measure => simp [intOf]; omega
      · have hnp : typB zs = false := typB_f (fun hp => hx (hp.1 _ hmem))
        have HN := hid hnp
        have hb : (decide (0 ≤ zs.getD k 0) && decide (zs.getD k 0 ≤ 20)) = false := by rw [Bool.and_eq_false_iff]; simp only [decide_eq_false_iff_not]; omega
        clear hnp hx hmem
        generalize zs.getD k 0 = x at hc hb
        have HBB := hid hb
        clear hb
        go_wp2_with (go_at_call 72; refine (l00In_any _ _ _ _).mono ?_; rw [HBB.out]; rintro e w' ⟨rfl, rfl⟩)
        go_ret
        exact ⟨by rw [HN.out]; rfl, _, rfl⟩
    · have hk2 : k = zs.length := by omega
      have hall : ∀ z ∈ zs, 0 ≤ z ∧ z ≤ 20 := fun z hz => by
        obtain ⟨j, hj, e⟩ := List.getElem_of_mem hz
        have := HA.out j (by omega)
        rw [show zs.getD j 0 = zs[j] by simp [List.getD, hj], e] at this
        exact this
      have HALL := hid hall
      have hsl : SL (.int .i64) 0 (w.drewN n) p zs := HS.out
      have HS2 := hid hsl
      clear hall hk2 hsl
      by_cases h1 : 1 ≤ zs.length
      · have b1 : decide ((1 : Int) ≤ zs.length) = true := decide_eq_true (by omega)
        by_cases h2 : zs.length ≤ 8
        · have b2 : decide ((zs.length : Int) ≤ 8) = true := decide_eq_true (by omega)
          have hv : typB zs = decide (tot zs ≤ 20) := by
            by_cases h3 : tot zs ≤ 20
            · rw [decide_eq_true h3]; exact typB_t ⟨HALL.out, h1, h2, h3⟩
            · rw [decide_eq_false h3]; exact typB_f (fun hp => h3 hp.2.2.2)
          have HV := hid hv
          clear hv
          go_wp2_with (go_at_call 78; refine (l02Total_any _ _ _ _ HS2.out hm (fun z hz => ⟨(HALL.out z hz).1, by have := (HALL.out z hz).2; omega⟩)).mono ?_; rintro e w' ⟨rfl, rfl⟩)
          go_ret
          exact ⟨by rw [HV.out]; rfl, _, rfl⟩
        · have b2 : decide ((zs.length : Int) ≤ 8) = false := decide_eq_false (by omega)
          have hnp : typB zs = false := typB_f (fun hp => h2 hp.2.2.1)
          have HN := hid hnp
          clear hnp
          go_wp2_with (fail)
          go_ret
          exact ⟨by rw [HN.out]; rfl, _, rfl⟩
      · have b1 : decide ((1 : Int) ≤ zs.length) = false := decide_eq_false (by omega)
        have hnp : typB zs = false := typB_f (fun hp => h1 hp.2.1)
        have HN := hid hnp
        clear hnp
        go_wp2_with (fail)
        go_ret
        exact ⟨by rw [HN.out]; rfl, _, rfl⟩

set_option maxHeartbeats 800000 in
theorem l02Words_any (p : Option Addr) (cap : Nat) (zs : List Int) (w : World) (hs : SL (.int .i64) 0 w p zs) (hp : typP zs) :
    Calls Try.prog 84 #[.slice p zs.length cap] w fun e w' => e = .returned (.int .i64 (wd zs)) ∧ Dr w w' := by
  have HS := hid hs
  have HP := hid hp
  have hlen : zs.length ≤ 8 := hp.2.2.1
  clear hs hp
  go_enter Try.func84, Try.ntmps84
  go_wp2
  go_loopw [3, 4, 5] (fun o s i wr => ∃ k : Nat, ∃ z t : Int, k ≤ zs.length ∧ i = .int .i64 k ∧ o = .int .i64 z ∧ s = .int .i64 t ∧ Hid (z = wd (zs.take k)) ∧ Hid (t = tot (zs.take k)) ∧ ∃ n, wr = w.drewN n) (fun _ _ i _ => zs.length - (intOf i).toNat)
  case atStart => exact ⟨0, 1, 0, Nat.zero_le _, rfl, rfl, rfl, rfl, rfl, 0, rfl⟩
  case round =>
    obtain ⟨k, z, t, hk, rfl, rfl, rfl, HZ, HT, n, rfl⟩ := hrel
    by_cases hlt : k < zs.length
    · obtain ⟨b, off, rfl, hc⟩ := HS.out k hlt
      have hI : (k : Int) < (zs.length : Int) := by omega
      have hx := HP.out.1 (zs.getD k 0) (by simp [List.getD, hlt])
      have ht0 := tot_bd 20 zs HP.out.1 k hk
      have hts := tot_le zs (fun z hz => (HP.out.1 z hz).1) (k + 1) hlt
      rw [tot_succ zs k hlt, ← HT.out] at hts
      rw [← HT.out] at ht0
      have hte := HP.out.2.2.2
      have HW := hid (wd_succ zs k hlt)
      have HT2 := hid (tot_succ zs k hlt)
      have hb1 : 0 ≤ t := ht0.1
      have hb2 : t + zs.getD k 0 ≤ 20 := by omega
      obtain ⟨hx0, hx1⟩ := hx
      clear ht0 hts hte
      generalize zs.getD k 0 = x at *
      go_wp2_with (go_at_call 101; refine (l02Choose_any _ _ _ (by omega) (by omega) (by omega)).mono ?_; rintro e w' ⟨rfl, rfl⟩)
      go_roundw
      case rel => exact ⟨k + 1, _, _, by omega, by go_num, rfl, rfl, by unfold Hid; rw [HW.out, ← HZ.out, ← HT.out], by unfold Hid; rw [HT2.out, ← HT.out], _, rfl⟩
      case measure => simp [intOf]; omega
    · go_wp2
      go_ret
      have hk2 : k = zs.length := by omega
      exact ⟨by rw [show wd zs = z by rw [HZ.out, hk2, List.take_length]]; rfl, _, rfl⟩

noncomputable def wordsV (zs : List Int) : Int := if typB zs then wd zs else 0
def allIn (zs : List Int) (lo hi : Int) : Bool := zs.all fun z => decide (lo ≤ z) && decide (z ≤ hi)
theorem allIn_false {zs : List Int} {lo hi : Int} {k : Nat} (hlt : k < zs.length) (h : (decide (lo ≤ zs.getD k 0) && decide (zs.getD k 0 ≤ hi)) = false) : allIn zs lo hi = false := by
  unfold allIn
  rw [List.all_eq_false]
  exact ⟨zs.getD k 0, by simp [List.getD, hlt], by rw [h]; decide⟩
theorem allIn_true {zs : List Int} {lo hi : Int} (h : ∀ j, j < zs.length → (decide (lo ≤ zs.getD j 0) && decide (zs.getD j 0 ≤ hi)) = true) : allIn zs lo hi = true := by
  unfold allIn
  rw [List.all_eq_true]
  intro z hz
  obtain ⟨j, hj, e⟩ := List.getElem_of_mem hz
  have := h j hj
  rwa [show zs.getD j 0 = zs[j] by simp [List.getD, hj], e] at this
set_option maxHeartbeats 400000 in
theorem areWithin_any (p : Option Addr) (cap : Nat) (zs : List Int) (lo hi : Int) (w : World) (hs : SL (.int .i64) 0 w p zs) (hm : zs.length ≤ 1048576) :
    Calls Try.prog 102 #[.slice p zs.length cap, .int .i64 lo, .int .i64 hi] w fun e w' => e = .returned (.bool (allIn zs lo hi)) ∧ w = w' := by
  have HS := hid hs
  clear hs
  go_enter Try.func102, Try.ntmps102
  go_wp2
  go_loop [11] (fun i => ∃ k : Nat, k ≤ zs.length ∧ i = .int .i64 k ∧ Hid (∀ j, j < k → (decide (lo ≤ zs.getD j 0) && decide (zs.getD j 0 ≤ hi)) = true)) (fun i => zs.length - (intOf i).toNat)
  case atStart => exact ⟨0, Nat.zero_le _, rfl, fun j hj => absurd hj (Nat.not_lt_zero _)⟩
  case round =>
    obtain ⟨k, hk, rfl, HA⟩ := hrel
    by_cases hlt : k < zs.length
    · obtain ⟨b, off, rfl, hc⟩ := HS.out k hlt
      have hI : (k : Int) < (zs.length : Int) := by omega
      cases hb : (decide (lo ≤ zs.getD k 0) && decide (zs.getD k 0 ≤ hi))
      · have HN := hid (allIn_false hlt hb)
        generalize zs.getD k 0 = x at hc hb
        have HBB := hid hb
        clear hb
        go_wp2_with (go_at_call 58; refine (within_any _ _ _ _).mono ?_; rw [HBB.out]; rintro e w' ⟨rfl, rfl⟩)
        go_ret
        exact ⟨by rw [HN.out]; rfl, rfl⟩
      · have hall : ∀ j, j < k + 1 → (decide (lo ≤ zs.getD j 0) && decide (zs.getD j 0 ≤ hi)) = true := fun j hj => by
          by_cases e : j = k
          · subst e; exact hb
          · exact HA.out j (by omega)
        have HALL := hid hall
        clear hall
        generalize zs.getD k 0 = x at hc hb
        have HBB := hid hb
        clear hb
        go_wp2_with (go_at_call 58; refine (within_any _ _ _ _).mono ?_; rw [HBB.out]; rintro e w' ⟨rfl, rfl⟩)
        go_round
        case rel => exact ⟨k + 1, by omega, by go_num, HALL⟩
        case measure => simp [intOf]; omega
    · have hk2 : k = zs.length := by omega
      have HN : Hid (allIn zs lo hi = true) := allIn_true (fun j hj => HA.out j (by omega))
      clear hk2
      go_wp2
      go_ret
      exact ⟨by rw [HN.out]; rfl, rfl⟩
set_option maxHeartbeats 400000 in
theorem WordsOfType_any (p : Option Addr) (cap : Nat) (zs : List Int) (w : World) (hs : SL (.int .i64) 0 w p zs) (hm : zs.length ≤ 1048576) (h1 : 1 ≤ zs.length) (h2 : zs.length ≤ 8) (ha : allIn zs 0 20 = true) :
    Calls Try.prog 86 #[.slice p zs.length cap] w fun e w' => e = .returned (.tuple #[.int .i64 (wordsV zs), .bool (typB zs)]) ∧ Dr w w' := by
  have HS := hid hs
  have hc := areWithin_any p cap zs 0 20 w hs hm
  rw [ha] at hc
  have HC := hid hc
  clear hs hc
  have hall : ∀ z ∈ zs, 0 ≤ z ∧ z ≤ 20 := fun z hz => by
    have := List.all_eq_true.1 ha z hz
    simp at this
    exact this
  have HALL := hid hall
  clear ha hall
  have b1 : decide ((zs.length : Int) < 1) = false := decide_eq_false (by omega)
  have b2 : decide ((8 : Int) < zs.length) = false := decide_eq_false (by omega)
  go_enter Try.func86, Try.ntmps86
  go_wp2_with (first | (go_at_call 102; refine HC.out.mono ?_; rintro e w' ⟨rfl, rfl⟩))
  clear b1 b2
  go_loopw [4, 5, 23] (fun o s i wr => ∃ k : Nat, ∃ z t : Int, k ≤ zs.length ∧ i = .int .i64 k ∧ o = .int .i64 z ∧ s = .int .i64 t ∧ Hid (z = wd (zs.take k)) ∧ Hid (t = tot (zs.take k)) ∧ Hid (t ≤ 20) ∧ ∃ n, wr = w.drewN n) (fun _ _ i _ => zs.length - (intOf i).toNat)
  case atStart => exact ⟨0, 1, 0, Nat.zero_le _, rfl, rfl, rfl, rfl, rfl, (by unfold Hid; decide), 0, rfl⟩
  case round =>
    obtain ⟨k, z, t, hk, rfl, rfl, rfl, HZ, HT, HT20, n, rfl⟩ := hrel
    by_cases hlt : k < zs.length
    · obtain ⟨b, off, rfl, hc⟩ := HS.out k hlt
      have hI : (k : Int) < (zs.length : Int) := by omega
      have hx := HALL.out (zs.getD k 0) (by simp [List.getD, hlt])
      have ht0 := tot_bd 20 zs HALL.out k hk
      have hts := tot_le zs (fun z hz => (HALL.out z hz).1) (k + 1) hlt
      rw [tot_succ zs k hlt, ← HT.out] at hts
      rw [← HT.out] at ht0
      have HW := hid (wd_succ zs k hlt)
      have HT2 := hid (tot_succ zs k hlt)
      have hb1 : 0 ≤ t := ht0.1
      have ht20 := HT20.out
      obtain ⟨hx0, hx1⟩ := hx
      have HTS := hid hts
      clear ht0 hts
      by_cases hgt : t + zs.getD k 0 ≤ 20
      · generalize zs.getD k 0 = x at *
        go_wp2_with (go_at_call 103; refine (choose_any _ _ _ (by omega) (by omega) (by omega)).mono ?_; rintro e w' ⟨rfl, rfl⟩)
        go_roundw
        case rel => exact ⟨k + 1, _, _, by omega, by go_num, rfl, rfl, by unfold Hid; rw [HW.out, ← HZ.out, ← HT.out], by unfold Hid; rw [HT2.out, ← HT.out], hgt, _, rfl⟩
        case measure => simp [intOf]; omega
      · have HN : Hid (typB zs = false) := typB_f (fun hp => hgt (by have := hp.2.2.2; have := HTS.out; omega))
        have HV : Hid (wordsV zs = 0) := by unfold wordsV Hid; rw [HN.out]; rfl
        generalize zs.getD k 0 = x at *
        go_wp2_with (fail)
        go_ret2
        exact ⟨by rw [HV.out, HN.out]; rfl, _, rfl⟩
    · have hk2 : k = zs.length := by omega
      have HK := hid hk2
      clear hk2
      have hte : tot zs ≤ 20 := by have := HT20.out; rw [HT.out, HK.out, List.take_length] at this; exact this
      have HN : Hid (typB zs = true) := typB_t ⟨HALL.out, h1, h2, hte⟩
      have HV : Hid (wordsV zs = z) := by unfold wordsV Hid; rw [HN.out, HZ.out, HK.out, List.take_length]; rfl
      clear hte
      go_wp2
      go_ret2
      exact ⟨by rw [HV.out, HN.out]; rfl, _, rfl⟩
theorem typ_none {zs : List Int} (h : zs.length < 1 ∨ 8 < zs.length ∨ allIn zs 0 20 = false) : typB zs = false ∧ wordsV zs = 0 := by
  have hn : typB zs = false := typB_f (fun hp => by
    rcases h with h | h | h
    · have := hp.2.1; omega
    · have := hp.2.2.1; omega
    · unfold allIn at h
      rw [List.all_eq_false] at h
      obtain ⟨z, hz, hb⟩ := h
      have := hp.1 z hz
      apply hb; simp [this.1, this.2])
  exact ⟨hn, by unfold wordsV; rw [hn]; rfl⟩
set_option maxHeartbeats 400000 in
theorem WordsOfType_all (p : Option Addr) (cap : Nat) (zs : List Int) (w : World) (hs : SL (.int .i64) 0 w p zs) (hm : zs.length ≤ 1048576) :
    Calls Try.prog 86 #[.slice p zs.length cap] w fun e w' => e = .returned (.tuple #[.int .i64 (wordsV zs), .bool (typB zs)]) ∧ Dr w w' := by
  by_cases h1 : 1 ≤ zs.length
  · by_cases h2 : zs.length ≤ 8
    · cases ha : allIn zs 0 20
      · have hc := areWithin_any p cap zs 0 20 w hs hm
        rw [ha] at hc
        have HC := hid hc
        have HN := hid (typ_none (.inr (.inr ha)))
        clear hs hc ha
        have b1 : decide ((zs.length : Int) < 1) = false := decide_eq_false (by omega)
        have b2 : decide ((8 : Int) < zs.length) = false := decide_eq_false (by omega)
        go_enter Try.func86, Try.ntmps86
        go_wp2_with (first | (go_at_call 102; refine HC.out.mono ?_; rintro e w' ⟨rfl, rfl⟩))
        go_ret2
        exact ⟨by rw [HN.out.1, HN.out.2]; rfl, 0, rfl⟩
      · exact WordsOfType_any p cap zs w hs hm h1 h2 ha
    · have HN := hid (typ_none (zs := zs) (.inr (.inl (by omega))))
      clear hs
      have b1 : decide ((zs.length : Int) < 1) = false := decide_eq_false (by omega)
      have b2 : decide ((8 : Int) < zs.length) = true := decide_eq_true (by omega)
      go_enter Try.func86, Try.ntmps86
      go_wp2_with (fail)
      go_ret2
      exact ⟨by rw [HN.out.1, HN.out.2]; rfl, 0, rfl⟩
  · have HN := hid (typ_none (zs := zs) (.inl (by omega)))
    clear hs
    have b1 : decide ((zs.length : Int) < 1) = true := decide_eq_true (by omega)
    go_enter Try.func86, Try.ntmps86
    go_wp2_with (fail)
    go_ret2
    exact ⟨by rw [HN.out.1, HN.out.2]; rfl, 0, rfl⟩
end Go.Proofs.Ytkmodgkkldcpkaa
