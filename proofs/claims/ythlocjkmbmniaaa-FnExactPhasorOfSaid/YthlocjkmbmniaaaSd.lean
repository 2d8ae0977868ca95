/-
  SLICES of 32-bit numbers: sums, products.
  Own work; no condition beyond what each theorem names.
-/
import Derived.Test.YthlocjkmbmniaaaSc
namespace Go.Proofs.Ythlocjkmbmniaaa
open Go.RowKit
attribute [local go_sem] opS fineS givesS

/-- A sum from left to right. -/
def sumF (l : List Nat) : Nat := l.foldl (fbin .add .f32) 0
theorem sumF_succ (l : List Nat) (k : Nat) (h : k < l.length) : sumF (l.take (k + 1)) = fbin .add .f32 (sumF (l.take k)) (l.getD k 0) := by
  unfold sumF
  rw [List.take_succ_eq_append_getElem h, List.foldl_append]
  simp [List.getD, h]
/-- A sum of products. -/
def dotF (a b : List Nat) : Nat := (a.zip b).foldl (fun s x => fbin .add .f32 s (fbin .mul .f32 x.1 x.2)) 0
theorem dotF_succ (a b : List Nat) (k : Nat) (h : k < a.length) (hb : a.length = b.length) :
    ((a.zip b).take (k + 1)).foldl (fun s x => fbin .add .f32 s (fbin .mul .f32 x.1 x.2)) 0 = fbin .add .f32 (((a.zip b).take k).foldl (fun s x => fbin .add .f32 s (fbin .mul .f32 x.1 x.2)) 0) (fbin .mul .f32 (a.getD k 0) (b.getD k 0)) := by
  have hl : k < (a.zip b).length := by simp; omega
  rw [List.take_succ_eq_append_getElem hl, List.foldl_append]
  simp [List.getD, h, show k < b.length by omega]

theorem dotF_take_succ (a b : List Nat) (k : Nat) (h : k < a.length) (hb : a.length = b.length) :
    dotF (a.take (k + 1)) (b.take (k + 1)) = fbin .add .f32 (dotF (a.take k) (b.take k)) (fbin .mul .f32 (a.getD k 0) (b.getD k 0)) := by
  have := dotF_succ a b k h hb
  unfold dotF
  simp only [List.zip_eq_zipWith, ← List.take_zipWith] at this ⊢
  exact this
set_option maxHeartbeats 400000 in
theorem l01Sum_any (p : Option Addr) (cap : Nat) (zs : List Nat) (w : World) (hs : SL (.float .f32) 0 w p zs) (hz : ∀ z ∈ zs, z < 4294967296) (hm : zs.length ≤ 1048576) :
    Calls Try.prog 45 #[.slice p zs.length cap] w fun e w' => (∃ r, e = .returned (.float .f32 r) ∧ Fl .f32 r (sumF (us zs))) ∧ Dr w w' := by
  have HS := hid hs
  have HZ := hid hz
  clear hs hz
  go_enter Try.func45, Try.ntmps45
  go_wp2
  go_loopw [3, 4] (fun s i wr => ∃ k r : Nat, k ≤ zs.length ∧ i = .int .i64 k ∧ s = .float .f32 r ∧ Hid (Fl .f32 r (sumF ((us zs).take k))) ∧ ∃ n, wr = w.drewN n) (fun _ i _ => zs.length - (intOf i).toNat)
  case atStart => exact ⟨0, 0, Nat.zero_le _, rfl, rfl, fz32, 0, rfl⟩
  case round =>
    obtain ⟨k, r, hk, rfl, rfl, HF, n, rfl⟩ := hrel
    by_cases hlt : k < zs.length
    · obtain ⟨b, off, rfl, hc⟩ := HS.out k hlt
      have f1 := us_fl HZ.out hlt
      have HT := hid (sumF_succ (us zs) k (by rw [us_len]; exact hlt))
      have f2 : Fl .f32 r (sumF ((us zs).take k)) := HF.out
      generalize (us zs).getD k 0 = u at *
      generalize zs.getD k 0 = x at *
      generalize sumF ((us zs).take k) = v at *
      go_wp2_with (first | (refine wpList_farith rfl _ _ _ _ _ rfl _ _ _ rfl rfl (by decide) (by assumption) (by assumption) ?_; intro _ _ _))
      go_roundw
      case rel => exact ⟨k + 1, _, by omega, by go_num, rfl, by unfold Hid; rw [HT.out]; assumption, _, rfl⟩
      case measure => simp [intOf]; omega
    · have HK := hid (show k = zs.length by omega)
      go_wp2
      go_ret
      refine ⟨⟨r, rfl, ?_⟩, _, rfl⟩
      have h := HF.out
      rw [HK.out, ← us_len zs, List.take_length] at h
      exact h
set_option maxHeartbeats 400000 in
theorem SumNumbers_few (p : Option Addr) (cap : Nat) (zs : List Nat) (w : World) (hs : SL (.float .f32) 0 w p zs) (hz : ∀ z ∈ zs, z < 4294967296) (hm : zs.length ≤ 256) :
    Calls Try.prog 21 #[.slice p zs.length cap] w fun e w' => (∃ r, e = .returned (.tuple #[.float .f32 r, .bool true]) ∧ Fl .f32 r (sumF (us zs))) ∧ Dr w w' := by
  have HS := hid hs
  have HZ := hid hz
  clear hs hz
  have b1 : decide ((256 : Int) < zs.length) = false := decide_eq_false (by omega)
  go_enter Try.func21, Try.ntmps21
  go_wp2
  go_loopw [4, 12] (fun s i wr => ∃ k r : Nat, k ≤ zs.length ∧ i = .int .i64 k ∧ s = .float .f32 r ∧ Hid (Fl .f32 r (sumF ((us zs).take k))) ∧ ∃ n, wr = w.drewN n) (fun _ i _ => zs.length - (intOf i).toNat)
  case atStart => exact ⟨0, 0, Nat.zero_le _, rfl, rfl, fz32, 0, rfl⟩
  case round =>
    obtain ⟨k, r, hk, rfl, rfl, HF, n, rfl⟩ := hrel
    by_cases hlt : k < zs.length
    · obtain ⟨b, off, rfl, hc⟩ := HS.out k hlt
      have f1 := us_fl HZ.out hlt
      have HT := hid (sumF_succ (us zs) k (by rw [us_len]; exact hlt))
      have f2 : Fl .f32 r (sumF ((us zs).take k)) := HF.out
      generalize (us zs).getD k 0 = u at *
      generalize zs.getD k 0 = x at *
      generalize sumF ((us zs).take k) = v at *
      go_wp2_with (first | (refine wpList_farith rfl _ _ _ _ _ rfl _ _ _ rfl rfl (by decide) (by assumption) (by assumption) ?_; intro _ _ _))
      go_roundw
      case rel => exact ⟨k + 1, _, by omega, by go_num, rfl, by unfold Hid; rw [HT.out]; assumption, _, rfl⟩
      case measure => simp [intOf]; omega
    · have HK := hid (show k = zs.length by omega)
      go_wp2
      go_ret2
      refine ⟨⟨r, rfl, ?_⟩, _, rfl⟩
      have h := HF.out
      rw [HK.out, ← us_len zs, List.take_length] at h
      exact h
/-- What SumNumbers gives. -/
def sumV (l : List Nat) : Nat := if l.length ≤ 256 then sumF l else 0
set_option maxHeartbeats 400000 in
theorem SumNumbers_any (p : Option Addr) (cap : Nat) (zs : List Nat) (w : World) (hs : SL (.float .f32) 0 w p zs) (hz : ∀ z ∈ zs, z < 4294967296) (hm : zs.length ≤ 1048576) :
    Calls Try.prog 21 #[.slice p zs.length cap] w fun e w' => (∃ r, e = .returned (.tuple #[.float .f32 r, .bool (decide (zs.length ≤ 256))]) ∧ Fl .f32 r (sumV (us zs))) ∧ Dr w w' := by
  by_cases h : zs.length ≤ 256
  · refine (SumNumbers_few p cap zs w hs hz h).mono ?_
    rintro e w' ⟨⟨r, rfl, hr⟩, hd⟩
    rw [decide_eq_true h]
    exact ⟨⟨r, rfl, by unfold sumV; rw [us_len, if_pos h]; exact hr⟩, hd⟩
  · have HV : Hid (sumV (us zs) = 0) := by unfold sumV Hid; rw [us_len, if_neg h]
    have HD := hid (decide_eq_false h)
    clear hs hz h
    have b1 : decide ((256 : Int) < zs.length) = true := decide_eq_true (by have := of_decide_eq_false HD.out; omega)
    go_enter Try.func21, Try.ntmps21
    go_wp2
    go_ret2
    exact ⟨⟨0, by rw [HD.out]; rfl, by rw [HV.out]; exact fz32⟩, 0, rfl⟩
theorem l01Few_any (p : Option Addr) (cap n : Nat) (w : World) (hm : n ≤ 1048576) :
    Calls Try.prog 43 #[.slice p n cap] w fun e w' => e = .returned (.bool (decide (n ≤ 256))) ∧ w = w' := by
  by_cases h : n ≤ 256
  · have b1 : decide ((n : Int) ≤ 256) = true := decide_eq_true (by omega)
    have HD := hid (decide_eq_true h)
    go_enter Try.func43, Try.ntmps43
    go_wp2
    go_ret
    exact ⟨by rw [HD.out]; simp, rfl⟩
  · have b1 : decide ((n : Int) ≤ 256) = false := decide_eq_false (by omega)
    have HD := hid (decide_eq_false h)
    go_enter Try.func43, Try.ntmps43
    go_wp2
    go_ret
    exact ⟨by rw [HD.out]; simp, rfl⟩
set_option maxHeartbeats 400000 in
theorem sSumNumbers_any (p : Option Addr) (cap : Nat) (zs : List Nat) (w : World) (hs : SL (.float .f32) 0 w p zs) (hz : ∀ z ∈ zs, z < 4294967296) (hm : zs.length ≤ 1048576) :
    Calls Try.prog 20 #[.slice p zs.length cap] w fun e w' => (∃ r, e = .returned (.tuple #[.float .f32 r, .bool (decide (zs.length ≤ 256))]) ∧ Fl .f32 r (sumV (us zs))) ∧ Dr w w' := by
  have hf := fun w => l01Few_any p cap zs.length w hm
  by_cases h : zs.length ≤ 256
  · have HD := hid (decide_eq_true h)
    have HV : Hid (sumV (us zs) = sumF (us zs)) := by unfold sumV Hid; rw [us_len, if_pos h]
    simp only [HD.out] at hf
    have HF := hid hf
    have HS := hid hs
    have HZ := hid hz
    clear hs hz h hf
    go_enter Try.func20, Try.ntmps20
    go_wp2_with (first | (go_at_call 43; refine (HF.out _).mono ?_; rintro e w' ⟨rfl, rfl⟩) | (go_at_call 45; refine (l01Sum_any _ _ _ _ HS.out HZ.out hm).mono ?_; rintro e w' ⟨⟨r, rfl, hr⟩, n, rfl⟩))
    go_ret2
    exact ⟨⟨_, by rw [HD.out]; rfl, by rw [HV.out]; assumption⟩, _, rfl⟩
  · have HD := hid (decide_eq_false h)
    have HV : Hid (sumV (us zs) = 0) := by unfold sumV Hid; rw [us_len, if_neg h]
    simp only [HD.out] at hf
    have HF := hid hf
    clear hs hz h hf
    go_enter Try.func20, Try.ntmps20
    go_wp2_with (first | (go_at_call 43; refine (HF.out _).mono ?_; rintro e w' ⟨rfl, rfl⟩))
    go_ret2
    exact ⟨⟨_, by rw [HD.out]; rfl, by rw [HV.out]; exact fz32⟩, 0, rfl⟩
set_option maxHeartbeats 400000 in
theorem l01Dot_any (p q : Option Addr) (c1 c2 : Nat) (xs ys : List Nat) (w : World) (hs : SL (.float .f32) 0 w p xs) (hz : ∀ z ∈ xs, z < 4294967296) (hs2 : SL (.float .f32) 0 w q ys) (hz2 : ∀ z ∈ ys, z < 4294967296) (hm : xs.length ≤ 1048576) (hl : xs.length = ys.length) :
    Calls Try.prog 44 #[.slice p xs.length c1, .slice q ys.length c2] w fun e w' => (∃ r, e = .returned (.float .f32 r) ∧ Fl .f32 r (dotF (us xs) (us ys))) ∧ Dr w w' := by
  have HS := hid hs
  have HZ := hid hz
  have HS2 := hid hs2
  have HZ2 := hid hz2
  have HL := hid hl
  rw [← hl]
  clear hs hz hs2 hz2 hl
  go_enter Try.func44, Try.ntmps44
  go_wp2
  go_loopw [5, 6] (fun s i wr => ∃ k r : Nat, k ≤ xs.length ∧ i = .int .i64 k ∧ s = .float .f32 r ∧ Hid (Fl .f32 r (dotF ((us xs).take k) ((us ys).take k))) ∧ ∃ n, wr = w.drewN n) (fun _ i _ => xs.length - (intOf i).toNat)
  case atStart => exact ⟨0, 0, Nat.zero_le _, rfl, rfl, fz32, 0, rfl⟩
  case round =>
    obtain ⟨k, r, hk, rfl, rfl, HF, n, rfl⟩ := hrel
    by_cases hlt : k < xs.length
    · obtain ⟨b, off, rfl, hc⟩ := HS.out k hlt
      obtain ⟨b2, off2, rfl, hc2⟩ := HS2.out k (by rw [← HL.out]; exact hlt)
      have hI : (k : Int) < (xs.length : Int) := by omega
      have f1 := us_fl HZ.out hlt
      have f3 := us_fl HZ2.out (by rw [← HL.out]; exact hlt)
      have HT := hid (dotF_take_succ (us xs) (us ys) k (by rw [us_len]; exact hlt) (by rw [us_len, us_len]; exact HL.out))
      have f2 : Fl .f32 r (dotF ((us xs).take k) ((us ys).take k)) := HF.out
      generalize (us xs).getD k 0 = u at *
      generalize xs.getD k 0 = x at *
      generalize (us ys).getD k 0 = u2 at *
      generalize ys.getD k 0 = x2 at *
      generalize dotF ((us xs).take k) ((us ys).take k) = v at *
      go_wp2
      refine wp_region_mixN (fun _ _ v => v = .bool true) (by kernel_rfl) (by kernel_rfl) ?_
      simp only [List.map_cons, List.map_nil]
      repeat (refine mixS_step (fun K hK => ?_); first | (refine opS_farith rfl _ _ _ _ _ rfl _ _ _ rfl rfl (by decide) (by assumption) (by assumption) ?_; intro _ _; refine hK _ ?_; clear hK K) | (go_simp; refine hK _ ?_; clear hK K))
      refine mixS_nil ?_
      rintro w' ⟨m, rfl⟩
      go_wp2
      go_roundw
      case rel => exact ⟨k + 1, _, by omega, by go_num, rfl, by unfold Hid; rw [HT.out]; assumption, _, rfl⟩
      case measure => simp [intOf]; omega
    · have HK := hid (show k = xs.length by omega)
      go_wp2
      go_ret
      refine ⟨⟨r, rfl, ?_⟩, _, rfl⟩
      have h := HF.out
      rw [HK.out, ← us_len xs, List.take_length, us_len, HL.out, ← us_len ys, List.take_length] at h
      exact h
set_option maxHeartbeats 400000 in
theorem DotNumbers_few (p q : Option Addr) (c1 c2 : Nat) (xs ys : List Nat) (w : World) (hs : SL (.float .f32) 0 w p xs) (hz : ∀ z ∈ xs, z < 4294967296) (hs2 : SL (.float .f32) 0 w q ys) (hz2 : ∀ z ∈ ys, z < 4294967296) (hm : xs.length ≤ 256) (hl : xs.length = ys.length) :
    Calls Try.prog 17 #[.slice p xs.length c1, .slice q ys.length c2] w fun e w' => (∃ r, e = .returned (.tuple #[.float .f32 r, .bool true]) ∧ Fl .f32 r (dotF (us xs) (us ys))) ∧ Dr w w' := by
  have HS := hid hs
  have HZ := hid hz
  have HS2 := hid hs2
  have HZ2 := hid hz2
  have HL := hid hl
  rw [← hl]
  clear hs hz hs2 hz2 hl
  have b1 : decide ((256 : Int) < xs.length) = false := decide_eq_false (by omega)
  go_enter Try.func17, Try.ntmps17
  go_wp2
  go_loopw [6, 20] (fun s i wr => ∃ k r : Nat, k ≤ xs.length ∧ i = .int .i64 k ∧ s = .float .f32 r ∧ Hid (Fl .f32 r (dotF ((us xs).take k) ((us ys).take k))) ∧ ∃ n, wr = w.drewN n) (fun _ i _ => xs.length - (intOf i).toNat)
  case atStart => exact ⟨0, 0, Nat.zero_le _, rfl, rfl, fz32, 0, rfl⟩
  case round =>
    obtain ⟨k, r, hk, rfl, rfl, HF, n, rfl⟩ := hrel
    by_cases hlt : k < xs.length
    · obtain ⟨b, off, rfl, hc⟩ := HS.out k hlt
      obtain ⟨b2, off2, rfl, hc2⟩ := HS2.out k (by rw [← HL.out]; exact hlt)
      have hI : (k : Int) < (xs.length : Int) := by omega
      have f1 := us_fl HZ.out hlt
      have f3 := us_fl HZ2.out (by rw [← HL.out]; exact hlt)
      have HT := hid (dotF_take_succ (us xs) (us ys) k (by rw [us_len]; exact hlt) (by rw [us_len, us_len]; exact HL.out))
      have f2 : Fl .f32 r (dotF ((us xs).take k) ((us ys).take k)) := HF.out
      generalize (us xs).getD k 0 = u at *
      generalize xs.getD k 0 = x at *
      generalize (us ys).getD k 0 = u2 at *
      generalize ys.getD k 0 = x2 at *
      generalize dotF ((us xs).take k) ((us ys).take k) = v at *
      go_wp2
      refine wp_region_mixN (fun _ _ v => v = .bool true) (by kernel_rfl) (by kernel_rfl) ?_
      simp only [List.map_cons, List.map_nil]
      repeat (refine mixS_step (fun K hK => ?_); first | (refine opS_farith rfl _ _ _ _ _ rfl _ _ _ rfl rfl (by decide) (by assumption) (by assumption) ?_; intro _ _; refine hK _ ?_; clear hK K) | (go_simp; refine hK _ ?_; clear hK K))
      refine mixS_nil ?_
      rintro w' ⟨m, rfl⟩
      go_wp2
      go_roundw
      case rel => exact ⟨k + 1, _, by omega, by go_num, rfl, by unfold Hid; rw [HT.out]; assumption, _, rfl⟩
      case measure => simp [intOf]; omega
    · have HK := hid (show k = xs.length by omega)
      go_wp2
      go_ret2
      refine ⟨⟨r, rfl, ?_⟩, _, rfl⟩
      have h := HF.out
      rw [HK.out, ← us_len xs, List.take_length, us_len, HL.out, ← us_len ys, List.take_length] at h
      exact h
/-- What DotNumbers gives. -/
def dotV (a b : List Nat) : Nat := if a.length ≤ 256 ∧ a.length = b.length then dotF a b else 0
set_option maxHeartbeats 400000 in
theorem DotNumbers_any (p q : Option Addr) (c1 c2 : Nat) (xs ys : List Nat) (w : World) (hs : SL (.float .f32) 0 w p xs) (hz : ∀ z ∈ xs, z < 4294967296) (hs2 : SL (.float .f32) 0 w q ys) (hz2 : ∀ z ∈ ys, z < 4294967296) (hm : xs.length ≤ 1048576) (_hm2 : ys.length ≤ 1048576) :
    Calls Try.prog 17 #[.slice p xs.length c1, .slice q ys.length c2] w fun e w' => (∃ r, e = .returned (.tuple #[.float .f32 r, .bool (decide (xs.length ≤ 256 ∧ xs.length = ys.length))]) ∧ Fl .f32 r (dotV (us xs) (us ys))) ∧ Dr w w' := by
  by_cases h : xs.length ≤ 256 ∧ xs.length = ys.length
  · refine (DotNumbers_few p q c1 c2 xs ys w hs hz hs2 hz2 h.1 h.2).mono ?_
    rintro e w' ⟨⟨r, rfl, hr⟩, hd⟩
    rw [decide_eq_true h]
    exact ⟨⟨r, rfl, by unfold dotV; rw [us_len, us_len, if_pos h]; exact hr⟩, hd⟩
  · have HV : Hid (dotV (us xs) (us ys) = 0) := by unfold dotV Hid; rw [us_len, us_len, if_neg h]
    have HD := hid (decide_eq_false h)
    clear hs hz hs2 hz2
    by_cases h1 : xs.length ≤ 256
    · have b1 : decide ((256 : Int) < xs.length) = false := decide_eq_false (by omega)
      have b2 : ((xs.length : Int) != ys.length) = true := bne_iff_ne.2 (by omega)
      clear h h1
      go_enter Try.func17, Try.ntmps17
      go_wp2
      go_ret2
      exact ⟨⟨0, by rw [HD.out]; rfl, by rw [HV.out]; exact fz32⟩, 0, rfl⟩
    · have b1 : decide ((256 : Int) < xs.length) = true := decide_eq_true (by omega)
      clear h h1
      go_enter Try.func17, Try.ntmps17
      go_wp2
      go_ret2
      exact ⟨⟨0, by rw [HD.out]; rfl, by rw [HV.out]; exact fz32⟩, 0, rfl⟩
set_option maxHeartbeats 400000 in
theorem sDotNumbers_any (p q : Option Addr) (c1 c2 : Nat) (xs ys : List Nat) (w : World) (hs : SL (.float .f32) 0 w p xs) (hz : ∀ z ∈ xs, z < 4294967296) (hs2 : SL (.float .f32) 0 w q ys) (hz2 : ∀ z ∈ ys, z < 4294967296) (hm : xs.length ≤ 1048576) (_hm2 : ys.length ≤ 1048576) :
    Calls Try.prog 15 #[.slice p xs.length c1, .slice q ys.length c2] w fun e w' => (∃ r, e = .returned (.tuple #[.float .f32 r, .bool (decide (xs.length ≤ 256 ∧ xs.length = ys.length))]) ∧ Fl .f32 r (dotV (us xs) (us ys))) ∧ Dr w w' := by
  have hf := fun w => l01Few_any p c1 xs.length w hm
  by_cases h : xs.length ≤ 256 ∧ xs.length = ys.length
  · have HD := hid (decide_eq_true h)
    have HV : Hid (dotV (us xs) (us ys) = dotF (us xs) (us ys)) := by unfold dotV Hid; rw [us_len, us_len, if_pos h]
    simp only [decide_eq_true h.1] at hf
    have HF := hid hf
    have HX := hid (fun w hs hs2 => l01Dot_any p q c1 c2 xs ys w hs hz hs2 hz2 hm h.2)
    have HS := hid hs
    have HS2 := hid hs2
    have b2 : ((xs.length : Int) != ys.length) = false := bne_eq_false_iff_eq.2 (by omega)
    clear hs hz hs2 hz2 h hf
    go_enter Try.func15, Try.ntmps15
    go_wp2_with (first | (go_at_call 43; refine (HF.out _).mono ?_; rintro e w' ⟨rfl, rfl⟩) | (go_at_call 44; refine (HX.out _ HS.out HS2.out).mono ?_; rintro e w' ⟨⟨r, rfl, hr⟩, n, rfl⟩))
    go_ret2
    exact ⟨⟨_, by rw [HD.out]; rfl, by rw [HV.out]; assumption⟩, _, rfl⟩
  · have HV : Hid (dotV (us xs) (us ys) = 0) := by unfold dotV Hid; rw [us_len, us_len, if_neg h]
    have HD := hid (decide_eq_false h)
    clear hs hz hs2 hz2
    by_cases h1 : xs.length ≤ 256
    · simp only [decide_eq_true h1] at hf
      have HF := hid hf
      have b2 : ((xs.length : Int) != ys.length) = true := bne_iff_ne.2 (by omega)
      clear h h1 hf
      go_enter Try.func15, Try.ntmps15
      go_wp2_with (first | (go_at_call 43; refine (HF.out _).mono ?_; rintro e w' ⟨rfl, rfl⟩))
      go_ret2
      exact ⟨⟨0, by rw [HD.out]; rfl, by rw [HV.out]; exact fz32⟩, 0, rfl⟩
    · simp only [decide_eq_false h1] at hf
      have HF := hid hf
      clear h h1 hf
      go_enter Try.func15, Try.ntmps15
      go_wp2_with (first | (go_at_call 43; refine (HF.out _).mono ?_; rintro e w' ⟨rfl, rfl⟩))
      go_ret2
      exact ⟨⟨0, by rw [HD.out]; rfl, by rw [HV.out]; exact fz32⟩, 0, rfl⟩
set_option maxHeartbeats 400000 in
theorem FnExactSumNumbers_walk (a0 : Option Addr) (len0 cap0 : Nat) (z0 : List Nat) (w : World) (w0 : z0.length = len0 ∧ len0 ≤ maxLen ∧ SL (.float .f32) 0 w a0 z0 ∧ ∀ z ∈ z0, z < 4294967296) :
    Calls Try.prog 4 #[.slice a0 len0 cap0] w fun e w' => e = .returned (.bool true) ∧ Below w.heap.size w w' := by
  obtain ⟨rfl, hm, hs, hz⟩ := w0
  unfold maxLen at hm
  have HS := hid hs
  have HZ := hid hz
  clear hs hz
  by_cases hbig : z0.length ≤ 1048576
  · generalize hv : sumV (us z0) = v
    generalize hb : decide (z0.length ≤ 256) = b
    have HV := hid hv
    have HB := hid hb
    clear hv hb
    go_enter Try.func4, Try.ntmps4
    go_wp2_with (fail)
    refine (toFloat32S_any _ _ _ _ HS.out hbig).mono ?_
    rintro e w1 ⟨⟨g1, rfl, hg1, ho1⟩, hb1⟩
    have S1 := hid (SL.own (d := 0) ho1)
    have A1 := hid (HS.out.below_all hb1)
    have B1 := hid hb1
    clear ho1 hb1 hg1
    go_wp2_with (fail)
    refine (sSumNumbers_any _ _ _ _ S1.out HZ.out hbig).mono ?_
    rw [HV.out, HB.out]
    rintro e w' ⟨⟨r1, rfl, f1⟩, n1, rfl⟩
    go_wp2_with (fail)
    refine (toFloat32S_any _ _ _ _ (A1.out.drewN n1) hbig).mono ?_
    rintro e w2 ⟨⟨g2, rfl, hg2, ho2⟩, hb2⟩
    have S2 := hid (SL.own (d := 0) ho2)
    have A2 := hid ((A1.out.drewN n1).below_all hb2)
    have B2 : Hid (Below w.heap.size w w2) := (below_drewN B1.out n1).trans (hb2.mono B1.out.size)
    clear ho2 hb2 hg2
    go_wp2_with (fail)
    refine (SumNumbers_any _ _ _ _ S2.out HZ.out hbig).mono ?_
    rw [HV.out, HB.out]
    rintro e w' ⟨⟨r2, rfl, f2⟩, n2, rfl⟩
    go_wp2_with (first | (refine wpList_fwide rfl _ _ _ rfl _ rfl (Option.isSome_iff_exists.2 ⟨_, (by with_reducible exact Try.underlying23)⟩) (by with_reducible exact Try.underlying28) (by assumption) ?_; intro _ _ _))
    refine (sameFloat_true _ _ _ (by assumption) (by assumption) _).mono ?_
    rintro e w' ⟨rfl, n3, rfl⟩
    go_wp2_with (fail)
    refine (toFloat32S_any _ _ _ _ (A2.out.drewN _) hbig).mono ?_
    rintro e w3 ⟨⟨g3, rfl, hg3, ho3⟩, hb3⟩
    have S3 := hid (SL.own (d := 0) ho3)
    have S2b := hid ((S2.out.drewN _).below_all hb3)
    have B3 : Hid (Below w.heap.size w w3) := (below_drewN B2.out _).trans (hb3.mono B2.out.size)
    clear ho3 hb3 hg3
    go_wp2_with (fail)
    refine (eqFloat32S_same _ _ _ _ _ _ _ S2b.out S3.out HZ.out HZ.out rfl (by omega) _ rfl).mono ?_
    rintro e w' ⟨rfl, n4, rfl⟩
    go_wp2_with (fail)
    go_ret
    exact ⟨rfl, below_drewN B3.out _⟩
  · go_enter Try.func4, Try.ntmps4
    go_wp2_with (fail)
    go_ret
    exact ⟨rfl, Below.refl _ _⟩
set_option maxHeartbeats 800000 in
theorem FnExactDotNumbers_walk (a0 : Option Addr) (len0 cap0 : Nat) (z0 : List Nat) (a1 : Option Addr) (len1 cap1 : Nat) (z1 : List Nat) (w : World) (w0 : z0.length = len0 ∧ len0 ≤ maxLen ∧ SL (.float .f32) 0 w a0 z0 ∧ ∀ z ∈ z0, z < 4294967296) (w1 : z1.length = len1 ∧ len1 ≤ maxLen ∧ SL (.float .f32) 0 w a1 z1 ∧ ∀ z ∈ z1, z < 4294967296) :
    Calls Try.prog 3 #[.slice a0 len0 cap0, .slice a1 len1 cap1] w fun e w' => e = .returned (.bool true) ∧ Below w.heap.size w w' := by
  obtain ⟨rfl, hm, hs, hz⟩ := w0
  obtain ⟨rfl, hm1, hs1, hz1⟩ := w1
  unfold maxLen at hm hm1
  have HS := hid hs
  have HZ := hid hz
  have HT := hid hs1
  have HY := hid hz1
  clear hs hz hs1 hz1
  by_cases hbig : z0.length ≤ 1048576
  · by_cases hbig1 : z1.length ≤ 1048576
    · generalize hv : dotV (us z0) (us z1) = v
      generalize hb : decide (z0.length ≤ 256 ∧ z0.length = z1.length) = b
      have HV := hid hv
      have HB := hid hb
      clear hv hb
      go_enter Try.func3, Try.ntmps3
      go_wp2_with (fail)
      refine (toFloat32S_any _ _ _ _ HS.out hbig).mono ?_
      rintro e w1 ⟨⟨g1, rfl, hg1, ho1⟩, hb1⟩
      have S1 := hid (SL.own (d := 0) ho1)
      have A1 := hid (HS.out.below_all hb1)
      have E1 := hid (HT.out.below_all hb1)
      have B1 := hid hb1
      clear ho1 hb1 hg1
      go_wp2_with (fail)
      refine (toFloat32S_any _ _ _ _ E1.out hbig1).mono ?_
      rintro e w2 ⟨⟨g2, rfl, hg2, ho2⟩, hb2⟩
      have S2 := hid (SL.own (d := 0) ho2)
      have S1b := hid (S1.out.below_all hb2)
      have A2 := hid (A1.out.below_all hb2)
      have E2 := hid (E1.out.below_all hb2)
      have B2 : Hid (Below w.heap.size w w2) := B1.out.trans (hb2.mono B1.out.size)
      clear ho2 hb2 hg2
      go_wp2_with (fail)
      refine (sDotNumbers_any _ _ _ _ _ _ _ S1b.out HZ.out S2.out HY.out hbig hbig1).mono ?_
      rw [HV.out, HB.out]
      rintro e w' ⟨⟨r1, rfl, f1⟩, n1, rfl⟩
      go_wp2_with (fail)
      refine (toFloat32S_any _ _ _ _ (A2.out.drewN _) hbig).mono ?_
      rintro e w3 ⟨⟨g3, rfl, hg3, ho3⟩, hb3⟩
      have S3 := hid (SL.own (d := 0) ho3)
      have A3 := hid ((A2.out.drewN _).below_all hb3)
      have E3 := hid ((E2.out.drewN _).below_all hb3)
      have B3 : Hid (Below w.heap.size w w3) := (below_drewN B2.out _).trans (hb3.mono B2.out.size)
      clear ho3 hb3 hg3
      go_wp2_with (fail)
      refine (toFloat32S_any _ _ _ _ E3.out hbig1).mono ?_
      rintro e w4 ⟨⟨g4, rfl, hg4, ho4⟩, hb4⟩
      have S4 := hid (SL.own (d := 0) ho4)
      have S3b := hid (S3.out.below_all hb4)
      have A4 := hid (A3.out.below_all hb4)
      have E4 := hid (E3.out.below_all hb4)
      have B4 : Hid (Below w.heap.size w w4) := B3.out.trans (hb4.mono B3.out.size)
      clear ho4 hb4 hg4
      go_wp2_with (fail)
      refine (DotNumbers_any _ _ _ _ _ _ _ S3b.out HZ.out S4.out HY.out hbig hbig1).mono ?_
      rw [HV.out, HB.out]
      rintro e w' ⟨⟨r2, rfl, f2⟩, n2, rfl⟩
      go_wp2_with (first | (refine wpList_fwide rfl _ _ _ rfl _ rfl (Option.isSome_iff_exists.2 ⟨_, (by with_reducible exact Try.underlying23)⟩) (by with_reducible exact Try.underlying28) (by assumption) ?_; intro _ _ _))
      refine (sameFloat_true _ _ _ (by assumption) (by assumption) _).mono ?_
      rintro e w' ⟨rfl, n3, rfl⟩
      go_wp2_with (fail)
      refine (toFloat32S_any _ _ _ _ (A4.out.drewN _) hbig).mono ?_
      rintro e w5 ⟨⟨g5, rfl, hg5, ho5⟩, hb5⟩
      have S5 := hid (SL.own (d := 0) ho5)
      have S3c := hid ((S3b.out.drewN _).below_all hb5)
      have S4c := hid ((S4.out.drewN _).below_all hb5)
      have E5 := hid ((E4.out.drewN _).below_all hb5)
      have B5 : Hid (Below w.heap.size w w5) := (below_drewN B4.out _).trans (hb5.mono B4.out.size)
      clear ho5 hb5 hg5
      go_wp2_with (fail)
      refine (eqFloat32S_same _ _ _ _ _ _ _ S3c.out S5.out HZ.out HZ.out rfl (by omega) _ rfl).mono ?_
      rintro e w' ⟨rfl, n4, rfl⟩
      go_wp2_with (fail)
      refine (toFloat32S_any _ _ _ _ (E5.out.drewN _) hbig1).mono ?_
      rintro e w6 ⟨⟨g6, rfl, hg6, ho6⟩, hb6⟩
      have S6 := hid (SL.own (d := 0) ho6)
      have S4d := hid ((S4c.out.drewN _).below_all hb6)
      have B6 : Hid (Below w.heap.size w w6) := (below_drewN B5.out _).trans (hb6.mono B5.out.size)
      clear ho6 hb6 hg6
      go_wp2_with (fail)
      refine (eqFloat32S_same _ _ _ _ _ _ _ S4d.out S6.out HY.out HY.out rfl (by omega) _ rfl).mono ?_
      rintro e w' ⟨rfl, n5, rfl⟩
      go_wp2_with (fail)
      go_ret
      exact ⟨rfl, below_drewN B6.out _⟩
    · go_enter Try.func3, Try.ntmps3
      go_wp2_with (fail)
      go_ret
      exact ⟨rfl, Below.refl _ _⟩
  · go_enter Try.func3, Try.ntmps3
    go_wp2_with (fail)
    go_ret
    exact ⟨rfl, Below.refl _ _⟩
end Go.Proofs.Ythlocjkmbmniaaa
