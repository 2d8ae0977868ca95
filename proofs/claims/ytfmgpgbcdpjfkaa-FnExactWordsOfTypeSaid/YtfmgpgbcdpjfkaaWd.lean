/-
  WALKS: names, check numbers: loops over a text; binomials; counts.
  Own work; no condition beyond what each theorem names.
-/
import Derived.Test.YtfmgpgbcdpjfkaaWb
namespace Go.Proofs.Ytfmgpgbcdpjfkaa
open Go.RowKit

/-! ### names -/

def okByte (s : ByteArray) (k : Nat) : Prop := ∀ h : k < s.size, 97 ≤ s[k].toNat ∧ s[k].toNat ≤ 122
def nameP (s : ByteArray) : Prop := (∀ k, okByte s k) ∧ 1 ≤ s.size ∧ s.size ≤ 8
noncomputable def nameV (s : ByteArray) : Bool := @decide (nameP s) (Classical.propDecidable _)

theorem nameV_bad {s : ByteArray} {k : Nat} (hlt : k < s.size) (h : (s[k].toNat : Int) < 97 ∨ 122 < (s[k].toNat : Int)) : nameV s = false := by
  unfold nameV
  rw [decide_eq_false_iff_not]
  intro hp
  have := hp.1 k hlt
  omega
theorem nameV_end {s : ByteArray} {k : Nat} (hall : ∀ j, j < k → okByte s j) (hk : ¬ k < s.size) (h1 : (1 : Int) ≤ s.size) : nameV s = decide ((s.size : Int) ≤ 8) := by
  unfold nameV
  by_cases h : (s.size : Int) ≤ 8
  · rw [decide_eq_true h]
    exact @decide_eq_true _ (Classical.propDecidable _) ⟨fun j => fun hj => hall j (by omega) hj, by omega, by omega⟩
  · rw [decide_eq_false h]
    exact @decide_eq_false _ (Classical.propDecidable _) (fun hp => by have := hp.2.2; omega)
theorem nameV_none {s : ByteArray} (h1 : (s.size : Int) < 1) : nameV s = false := by
  unfold nameV
  exact @decide_eq_false _ (Classical.propDecidable _) (fun hp => by have := hp.2.1; omega)
theorem ok_succ {s : ByteArray} {k : Nat} (hall : ∀ j, j < k → okByte s j) (h1 : (97 : Int) ≤ (if h : k < s.size then (s[k].toNat : Int) else 97)) (h2 : (if h : k < s.size then (s[k].toNat : Int) else 97) ≤ 122) : ∀ j, j < k + 1 → okByte s j := by
  intro j hj
  by_cases e : j = k
  · subst e; intro h; rw [dif_pos h] at h1 h2; omega
  · exact hall j (by omega)
theorem ret_bool {a b : Bool} (h : a = b) : Ending.returned (.bool a) = Ending.returned (.bool b) := by rw [h]

set_option maxHeartbeats 400000 in
theorem sIsName_any (s : ByteArray) (w : World) (hs : s.size ≤ maxLen) :
    Calls Try.prog 18 #[.string s] w fun e w' => e = .returned (.bool (nameV s)) ∧ w = w' := by
  unfold maxLen at hs
  go_enter Try.func18, Try.ntmps18
  go_wp2
  go_loop [3] (fun i => ∃ k : Nat, k ≤ s.size ∧ i = .int .i64 k ∧ ∀ j, j < k → okByte s j) (fun i => s.size - (intOf i).toNat)
  case atStart => exact ⟨0, Nat.zero_le _, rfl, by intro j hj; omega⟩
  case round =>
    obtain ⟨k, hk, rfl, hall⟩ := hrel
    have HA := hid hall
    clear hall
    by_cases hlt : k < s.size
    · go_wp2
      · go_ret
        exact ⟨ret_bool (nameV_bad hlt (by assumption)).symm, rfl⟩
      · go_round
        case rel => exact ⟨k + 1, by omega, by go_num, ok_succ HA.out (by rw [dif_pos hlt]; assumption) (by rw [dif_pos hlt]; exact And.right ‹_›)⟩
        case measure => simp [intOf]; omega
      · go_ret
        exact ⟨ret_bool (nameV_bad hlt (.inl (by assumption))).symm, rfl⟩
    · go_wp2
      · go_ret
        exact ⟨ret_bool (nameV_end HA.out hlt (by assumption)).symm, rfl⟩
      · go_ret
        exact ⟨ret_bool (nameV_none (by assumption)).symm, rfl⟩
set_option maxHeartbeats 400000 in
theorem IsName_any (s : ByteArray) (w : World) (hs : s.size ≤ maxLen) :
    Calls Try.prog 19 #[.string s] w fun e w' => e = .returned (.bool (nameV s)) ∧ w = w' := by
  unfold maxLen at hs
  go_enter Try.func19, Try.ntmps19
  go_wp2
  go_loop [6] (fun i => ∃ k : Nat, k ≤ s.size ∧ i = .int .i64 k ∧ ∀ j, j < k → okByte s j) (fun i => s.size - (intOf i).toNat)
  case atStart => exact ⟨0, Nat.zero_le _, rfl, by intro j hj; omega⟩
  case round =>
    obtain ⟨k, hk, rfl, hall⟩ := hrel
    have HA := hid hall
    clear hall
    by_cases hlt : k < s.size
    · go_wp2
      · go_ret
        exact ⟨ret_bool (nameV_bad hlt (by assumption)).symm, rfl⟩
      · go_round
        case rel => exact ⟨k + 1, by omega, by go_num, ok_succ HA.out (by rw [dif_pos hlt]; assumption) (by rw [dif_pos hlt]; exact And.right ‹_›)⟩
        case measure => simp [intOf]; omega
      · go_ret
        exact ⟨ret_bool (nameV_bad hlt (.inl (by assumption))).symm, rfl⟩
    · go_wp2
      · go_ret
        exact ⟨ret_bool (nameV_end HA.out hlt (by assumption)).symm, rfl⟩
      · go_ret
        exact ⟨ret_bool (nameV_none (by assumption)).symm, rfl⟩
set_option maxHeartbeats 400000 in
theorem FnExactIsName_walk (a0 : ByteArray) (w : World) (w0 : a0.size ≤ maxLen) :
    Calls Try.prog 6 #[.string a0] w fun e w' => e = .returned (.bool true) ∧ Below w.heap.size w w' := by
  have h1 := sIsName_any a0 w w0
  have h2 := IsName_any a0 w w0
  generalize nameV a0 = b at *
  have H1 := hid h1
  have H2 := hid h2
  clear h1 h2
  unfold maxLen at w0
  cases b
  all_goals
    go_enter Try.func6, Try.ntmps6
    go_wp2_with (first | (go_at_call 18; refine H1.out.mono ?_; rintro e w' ⟨rfl, rfl⟩) | (go_at_call 19; refine H2.out.mono ?_; rintro e w' ⟨rfl, rfl⟩))
    all_goals (go_ret; exact ⟨rfl, Below.refl _ _⟩)

/-! ### check numbers -/

def chk (n : Int) (l : List UInt8) : Int := l.foldl (fun n c => (929 * n + (c.toNat : Int) + 193) % 65003) n
theorem take_snoc (s : ByteArray) (k : Nat) (h : k < s.size) : s.data.toList.take (k + 1) = s.data.toList.take k ++ [s[k]] := by
  rw [List.take_succ_eq_append_getElem (by simpa using h)]; rfl
theorem chk_snoc (n : Int) (s : ByteArray) (k : Nat) (h : k < s.size) : chk n (s.data.toList.take (k + 1)) = (929 * chk n (s.data.toList.take k) + (s[k].toNat : Int) + 193) % 65003 := by
  rw [take_snoc s k h]; unfold chk; rw [List.foldl_append]; rfl
theorem chk_bd (n : Int) (h0 : 0 ≤ n) (h1 : n ≤ 65002) (l : List UInt8) : 0 ≤ chk n l ∧ chk n l ≤ 65002 := by
  induction l generalizing n with
  | nil => exact ⟨h0, h1⟩
  | cons c l ih =>
    have : chk n (c :: l) = chk ((929 * n + (c.toNat : Int) + 193) % 65003) l := rfl
    rw [this]
    exact ih _ (by omega) (by omega)

set_option maxHeartbeats 400000 in
theorem l01Check_any (n : Int) (s : ByteArray) (w : World) (hs : s.size ≤ maxLen) (h0 : 0 ≤ n) (h1 : n ≤ 65002) :
    Calls Try.prog 44 #[.int .i64 n, .string s] w fun e w' => e = .returned (.int .i64 (chk n s.data.toList)) ∧ w = w' := by
  unfold maxLen at hs
  go_enter Try.func44, Try.ntmps44
  go_wp2
  go_loop [0, 5] (fun v i => ∃ k : Nat, ∃ z : Int, k ≤ s.size ∧ i = .int .i64 k ∧ v = .int .i64 z ∧ z = chk n (s.data.toList.take k)) (fun _ i => s.size - (intOf i).toNat)
  case atStart => exact ⟨0, n, Nat.zero_le _, rfl, rfl, rfl⟩
  case round =>
    obtain ⟨k, z, hk, rfl, rfl, hz⟩ := hrel
    have hb := chk_bd n h0 h1 (s.data.toList.take k)
    rw [← hz] at hb
    obtain ⟨hb0, hb1⟩ := hb
    have HZ := hid hz
    clear hz
    by_cases hlt : k < s.size
    · have HS := hid (chk_snoc n s k hlt)
      have hby : s[k].toNat < 256 := s[k].toNat_lt
      go_wp2
      go_round
      case rel => exact ⟨k + 1, _, by omega, by go_num, rfl, by rw [HS.out, ← HZ.out]⟩
      case measure => simp [intOf]; omega
    · go_wp2
      go_ret
      refine ⟨congrArg (fun x => Ending.returned (.int .i64 x)) ?_, rfl⟩
      rw [HZ.out, List.take_of_length_le (by simp; omega)]
set_option maxHeartbeats 400000 in
theorem sCheckOf_any (n : Int) (s : ByteArray) (w : World) (hs : s.size ≤ maxLen) :
    Calls Try.prog 24 #[.int .i64 n, .string s] w fun e w' => e = .returned (.tuple #[.int .i64 (if 0 ≤ n ∧ n ≤ 65002 then chk n s.data.toList else 0), .bool (decide (0 ≤ n ∧ n ≤ 65002))]) ∧ w = w' := by
  by_cases h : 0 ≤ n ∧ n ≤ 65002
  · have H := hid h
    have h1 := h.1
    have h2 := h.2
    have hb : (decide (0 ≤ n) && decide (n ≤ 65002)) = true := by simp [h1, h2]
    clear h
    go_enter Try.func24, Try.ntmps24
    go_wp2_with (first | (go_at_call 43; refine (l00In_any _ _ _ _).mono ?_; rw [hb]; rintro e w' ⟨rfl, rfl⟩) | (go_at_call 44; refine (l01Check_any _ _ _ hs h1 h2).mono ?_; rintro e w' ⟨rfl, rfl⟩))
    go_ret2
    exact ⟨by first | rfl | (rw [if_pos H.out, decide_eq_true H.out]; rfl), rfl⟩
  · have H := hid h
    have hb : (decide (0 ≤ n) && decide (n ≤ 65002)) = false := by
      rw [Bool.and_eq_false_iff]; simp; omega
    clear h
    go_enter Try.func24, Try.ntmps24
    go_wp2_with (first | (go_at_call 43; refine (l00In_any _ _ _ _).mono ?_; rw [hb]; rintro e w' ⟨rfl, rfl⟩))
    go_ret2
    exact ⟨by first | rfl | (rw [if_neg H.out, decide_eq_false H.out]; rfl), rfl⟩
set_option maxHeartbeats 400000 in
theorem CheckOf_any (n : Int) (s : ByteArray) (w : World) (hs : s.size ≤ maxLen) :
    Calls Try.prog 25 #[.int .i64 n, .string s] w fun e w' => e = .returned (.tuple #[.int .i64 (if 0 ≤ n ∧ n ≤ 65002 then chk n s.data.toList else 0), .bool (decide (0 ≤ n ∧ n ≤ 65002))]) ∧ w = w' := by
  have hs' := hs
  unfold maxLen at hs'
  by_cases h : 0 ≤ n ∧ n ≤ 65002
  · have H := hid h
    have h1 := h.1
    have h2 := h.2
    have hb : (decide (0 ≤ n) && decide (n ≤ 65002)) = true := by simp [h1, h2]
    clear h
    go_enter Try.func25, Try.ntmps25
    go_wp2_with (first | (go_at_call 45; refine (within_any _ _ _ _).mono ?_; rw [hb]; rintro e w' ⟨rfl, rfl⟩))
    go_loop [0, 12] (fun v i => ∃ k : Nat, ∃ z : Int, k ≤ s.size ∧ i = .int .i64 k ∧ v = .int .i64 z ∧ z = chk n (s.data.toList.take k)) (fun _ i => s.size - (intOf i).toNat)
    case atStart => exact ⟨0, n, Nat.zero_le _, rfl, rfl, rfl⟩
    case round =>
      obtain ⟨k, z, hk, rfl, rfl, hz⟩ := hrel
      have hbd := chk_bd n h1 h2 (s.data.toList.take k)
      rw [← hz] at hbd
      obtain ⟨hb0, hb1⟩ := hbd
      have HZ := hid hz
      clear hz
      by_cases hlt : k < s.size
      · have HS := hid (chk_snoc n s k hlt)
        have hby : s[k].toNat < 256 := s[k].toNat_lt
        go_wp2
        go_round
        case rel => exact ⟨k + 1, _, by omega, by go_num, rfl, by rw [HS.out, ← HZ.out]⟩
        case measure => simp [intOf]; omega
      · go_wp2
        go_ret2
        have hz2 : z = chk n s.data.toList := by rw [HZ.out, List.take_of_length_le (by simp; omega)]
        exact ⟨by first | (rw [← hz2]; rfl) | (rw [if_pos H.out, decide_eq_true H.out, ← hz2]; rfl), rfl⟩
  · have H := hid h
    have hb : (decide (0 ≤ n) && decide (n ≤ 65002)) = false := by
      rw [Bool.and_eq_false_iff]; simp; omega
    clear h
    go_enter Try.func25, Try.ntmps25
    go_wp2_with (first | (go_at_call 45; refine (within_any _ _ _ _).mono ?_; rw [hb]; rintro e w' ⟨rfl, rfl⟩))
    go_ret2
    exact ⟨by first | rfl | (rw [if_neg H.out, decide_eq_false H.out]; rfl), rfl⟩

/-! ### binomials -/

/-- What the loop holds after j rounds. -/
def chooseW (n k : Int) : Nat → Int
  | 0 => 1
  | j + 1 => wrap64 ((wrap64 (chooseW n k j * (n - k + ((j : Int) + 1)))).tdiv ((j : Int) + 1))
/-- The binomial, as both programs reckon it. -/
def chooseV (n k : Int) : Int := chooseW n k k.toNat
theorem chooseW_succ (n k : Int) (j : Nat) : chooseW n k (j + 1) = wrap64 ((wrap64 (chooseW n k j * (n - k + ((j : Int) + 1)))).tdiv ((j : Int) + 1)) := rfl

set_option maxHeartbeats 400000 in
theorem choose_any (n k : Int) (w : World) (h0 : 0 ≤ k) (h1 : k ≤ n) (h2 : n ≤ 40) :
    Calls Try.prog 49 #[.int .i64 n, .int .i64 k] w fun e w' => e = .returned (.int .i64 (chooseV n k)) ∧ w = w' := by
  go_enter Try.func49, Try.ntmps49
  go_wp2
  go_loop [5, 6] (fun v i => ∃ j : Nat, ∃ z : Int, (j : Int) ≤ k ∧ i = .int .i64 (↑(j + 1)) ∧ v = .int .i64 z ∧ z = chooseW n k j) (fun _ i => (k + 1 - (intOf i)).toNat)
  case atStart => exact ⟨0, 1, by omega, rfl, rfl, rfl⟩
  case round =>
    obtain ⟨j, z, hj, rfl, rfl, hz⟩ := hrel
    have HZ := hid hz
    clear hz
    by_cases hlt : (j : Int) < k
    · have HS := hid (chooseW_succ n k j)
      go_wp2
      go_round
      case rel => exact ⟨j + 1, _, by omega, by go_num, rfl, by rw [HS.out, ← HZ.out]⟩
      case measure => simp [intOf]; omega
    · go_wp2
      go_ret
      have hk : k.toNat = j := by omega
      exact ⟨by unfold chooseV; rw [hk, ← HZ.out]; rfl, rfl⟩
set_option maxHeartbeats 400000 in
theorem l02Choose_any (n k : Int) (w : World) (h0 : 0 ≤ k) (h1 : k ≤ n) (h2 : n ≤ 40) :
    Calls Try.prog 48 #[.int .i64 n, .int .i64 k] w fun e w' => e = .returned (.int .i64 (chooseV n k)) ∧ w = w' := by
  go_enter Try.func48, Try.ntmps48
  go_wp2
  go_loop [5, 6] (fun v i => ∃ j : Nat, ∃ z : Int, (j : Int) ≤ k ∧ i = .int .i64 (↑(j + 1)) ∧ v = .int .i64 z ∧ z = chooseW n k j) (fun _ i => (k + 1 - (intOf i)).toNat)
  case atStart => exact ⟨0, 1, by omega, rfl, rfl, rfl⟩
  case round =>
    obtain ⟨j, z, hj, rfl, rfl, hz⟩ := hrel
    have HZ := hid hz
    clear hz
    by_cases hlt : (j : Int) < k
    · have HS := hid (chooseW_succ n k j)
      go_wp2
      go_round
      case rel => exact ⟨j + 1, _, by omega, by go_num, rfl, by rw [HS.out, ← HZ.out]⟩
      case measure => simp [intOf]; omega
    · go_wp2
      go_ret
      have hk : k.toNat = j := by omega
      exact ⟨by unfold chooseV; rw [hk, ← HZ.out]; rfl, rfl⟩

/-- In range: an argument of CountTypes. -/
def ctOk (n l : Int) : Prop := 0 ≤ n ∧ n ≤ 30 ∧ 1 ≤ l ∧ l ≤ 8
instance (n l : Int) : Decidable (ctOk n l) := by unfold ctOk; infer_instance
def ctV (n l : Int) : Int := if ctOk n l then chooseV (n + l - 1) (l - 1) else 0
def ctB (n l : Int) : Bool := decide (ctOk n l)

set_option maxHeartbeats 400000 in
theorem CountTypes_any (n l : Int) (w : World) :
    Calls Try.prog 30 #[.int .i64 n, .int .i64 l] w fun e w' => e = .returned (.tuple #[.int .i64 (ctV n l), .bool (ctB n l)]) ∧ w = w' := by
  by_cases ha : 0 ≤ n ∧ n ≤ 30
  · have b1 : (decide (0 ≤ n) && decide (n ≤ 30)) = true := by simp [ha.1, ha.2]
    by_cases hb : 1 ≤ l ∧ l ≤ 8
    · have b2 : (decide (1 ≤ l) && decide (l ≤ 8)) = true := by simp [hb.1, hb.2]
      have hok : ctOk n l := ⟨ha.1, ha.2, hb.1, hb.2⟩
      have hv : ctV n l = chooseV (n + l - 1) (l - 1) := by unfold ctV; rw [if_pos hok]
      have ht : ctB n l = true := by unfold ctB; exact decide_eq_true hok
      have HV := hid hv
      have HT := hid ht
      have B1 := hid b1
      have B2 := hid b2
      obtain ⟨a1, a2⟩ := ha
      obtain ⟨a3, a4⟩ := hb
      clear hv ht hok b1 b2
      go_enter Try.func30, Try.ntmps30
      go_wp2_with (first | (go_at_call 45; refine (within_any _ _ _ _).mono ?_; (first | rw [B1.out] | rw [B2.out]); rintro e w' ⟨rfl, rfl⟩) | (go_at_call 49; refine (choose_any _ _ _ (by omega) (by omega) (by omega)).mono ?_; rintro e w' ⟨rfl, rfl⟩))
      go_ret2
      exact ⟨by rw [HV.out, HT.out]; rfl, rfl⟩
    · have b2 : (decide (1 ≤ l) && decide (l ≤ 8)) = false := by rw [Bool.and_eq_false_iff]; simp; omega
      have hok : ¬ ctOk n l := fun h => hb ⟨h.2.2.1, h.2.2.2⟩
      have hv : ctV n l = 0 := by unfold ctV; rw [if_neg hok]
      have ht : ctB n l = false := by unfold ctB; exact decide_eq_false hok
      have HV := hid hv
      have HT := hid ht
      have B1 := hid b1
      have B2 := hid b2
      clear hv ht hok b1 b2 ha hb
      go_enter Try.func30, Try.ntmps30
      go_wp2_with (first | (go_at_call 45; refine (within_any _ _ _ _).mono ?_; (first | rw [B1.out] | rw [B2.out]); rintro e w' ⟨rfl, rfl⟩))
      go_ret2
      exact ⟨by rw [HV.out, HT.out]; rfl, rfl⟩
  · have b1 : (decide (0 ≤ n) && decide (n ≤ 30)) = false := by rw [Bool.and_eq_false_iff]; simp; omega
    have hok : ¬ ctOk n l := fun h => ha ⟨h.1, h.2.1⟩
    have hv : ctV n l = 0 := by unfold ctV; rw [if_neg hok]
    have ht : ctB n l = false := by unfold ctB; exact decide_eq_false hok
    have HV := hid hv
    have HT := hid ht
    have B1 := hid b1
    clear hv ht hok b1 ha
    go_enter Try.func30, Try.ntmps30
    go_wp2_with (first | (go_at_call 45; refine (within_any _ _ _ _).mono ?_; rw [B1.out]; rintro e w' ⟨rfl, rfl⟩))
    go_ret2
    exact ⟨by rw [HV.out, HT.out]; rfl, rfl⟩
set_option maxHeartbeats 400000 in
theorem sCountTypes_any (n l : Int) (w : World) :
    Calls Try.prog 29 #[.int .i64 n, .int .i64 l] w fun e w' => e = .returned (.tuple #[.int .i64 (ctV n l), .bool (ctB n l)]) ∧ w = w' := by
  by_cases ha : 0 ≤ n ∧ n ≤ 30
  · have b1 : (decide (0 ≤ n) && decide (n ≤ 30)) = true := by simp [ha.1, ha.2]
    by_cases hb : 1 ≤ l ∧ l ≤ 8
    · have b2 : (decide (1 ≤ l) && decide (l ≤ 8)) = true := by simp [hb.1, hb.2]
      have hok : ctOk n l := ⟨ha.1, ha.2, hb.1, hb.2⟩
      have hv : ctV n l = chooseV (n + l - 1) (l - 1) := by unfold ctV; rw [if_pos hok]
      have ht : ctB n l = true := by unfold ctB; exact decide_eq_true hok
      have HV := hid hv
      have HT := hid ht
      have B1 := hid b1
      have B2 := hid b2
      obtain ⟨a1, a2⟩ := ha
      obtain ⟨a3, a4⟩ := hb
      clear hv ht hok b1 b2
      go_enter Try.func29, Try.ntmps29
      go_wp2_with (first | (go_at_call 43; refine (l00In_any _ _ _ _).mono ?_; (first | rw [B1.out] | rw [B2.out]); rintro e w' ⟨rfl, rfl⟩) | (go_at_call 48; refine (l02Choose_any _ _ _ (by omega) (by omega) (by omega)).mono ?_; rintro e w' ⟨rfl, rfl⟩))
      go_ret2
      exact ⟨by rw [HV.out, HT.out]; rfl, rfl⟩
    · have b2 : (decide (1 ≤ l) && decide (l ≤ 8)) = false := by rw [Bool.and_eq_false_iff]; simp; omega
      have hok : ¬ ctOk n l := fun h => hb ⟨h.2.2.1, h.2.2.2⟩
      have hv : ctV n l = 0 := by unfold ctV; rw [if_neg hok]
      have ht : ctB n l = false := by unfold ctB; exact decide_eq_false hok
      have HV := hid hv
      have HT := hid ht
      have B1 := hid b1
      have B2 := hid b2
      clear hv ht hok b1 b2 ha hb
      go_enter Try.func29, Try.ntmps29
      go_wp2_with (first | (go_at_call 43; refine (l00In_any _ _ _ _).mono ?_; (first | rw [B1.out] | rw [B2.out]); rintro e w' ⟨rfl, rfl⟩))
      go_ret2
      exact ⟨by rw [HV.out, HT.out]; rfl, rfl⟩
  · have b1 : (decide (0 ≤ n) && decide (n ≤ 30)) = false := by rw [Bool.and_eq_false_iff]; simp; omega
    have hok : ¬ ctOk n l := fun h => ha ⟨h.1, h.2.1⟩
    have hv : ctV n l = 0 := by unfold ctV; rw [if_neg hok]
    have ht : ctB n l = false := by unfold ctB; exact decide_eq_false hok
    have HV := hid hv
    have HT := hid ht
    have B1 := hid b1
    clear hv ht hok b1 ha
    go_enter Try.func29, Try.ntmps29
    go_wp2_with (first | (go_at_call 43; refine (l00In_any _ _ _ _).mono ?_; rw [B1.out]; rintro e w' ⟨rfl, rfl⟩))
    go_ret2
    exact ⟨by rw [HV.out, HT.out]; rfl, rfl⟩
set_option maxHeartbeats 400000 in
theorem FnExactCountTypes_walk (a0 a1 : Int) (w : World) (_w0 : (Lit.int .i64 a0).wf = true) (_w1 : (Lit.int .i64 a1).wf = true) :
    Calls Try.prog 11 #[.int .i64 a0, .int .i64 a1] w fun e w' => e = .returned (.bool true) ∧ Below w.heap.size w w' := by
  have h1 := fun w => CountTypes_any a0 a1 w
  have h2 := fun w => sCountTypes_any a0 a1 w
  generalize ctV a0 a1 = v at *
  generalize ctB a0 a1 = b at *
  have H1 := hid h1
  have H2 := hid h2
  clear h1 h2
  cases b
  all_goals
    go_enter Try.func11, Try.ntmps11
    go_wp2_with (first | (go_at_call 29; refine (H2.out _).mono ?_; rintro e w' ⟨rfl, rfl⟩) | (go_at_call 30; refine (H1.out _).mono ?_; rintro e w' ⟨rfl, rfl⟩))
    all_goals (go_ret; exact ⟨rfl, Below.refl _ _⟩)
set_option maxHeartbeats 400000 in
theorem FnExactCheckOf_walk (a0 : Int) (a1 : ByteArray) (w : World) (_w0 : (Lit.int .i64 a0).wf = true) (w1 : a1.size ≤ maxLen) :
    Calls Try.prog 9 #[.int .i64 a0, .string a1] w fun e w' => e = .returned (.bool true) ∧ Below w.heap.size w w' := by
  have h1 := fun w => CheckOf_any a0 a1 w w1
  have h2 := fun w => sCheckOf_any a0 a1 w w1
  generalize (if 0 ≤ a0 ∧ a0 ≤ 65002 then chk a0 a1.data.toList else 0) = v at *
  generalize decide (0 ≤ a0 ∧ a0 ≤ 65002) = b at *
  have H1 := hid h1
  have H2 := hid h2
  clear h1 h2
  unfold maxLen at w1
  cases b
  all_goals
    go_enter Try.func9, Try.ntmps9
    go_wp2_with (first | (go_at_call 24; refine (H2.out _).mono ?_; rintro e w' ⟨rfl, rfl⟩) | (go_at_call 25; refine (H1.out _).mono ?_; rintro e w' ⟨rfl, rfl⟩))
    all_goals (go_ret; exact ⟨rfl, Below.refl _ _⟩)
end Go.Proofs.Ytfmgpgbcdpjfkaa
