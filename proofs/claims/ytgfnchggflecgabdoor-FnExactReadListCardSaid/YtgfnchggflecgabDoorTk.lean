/-
  DECIMAL TEXTS THAT ARE READ: the reference's walk. Own work; no condition beyond what each theorem names.
-/
import Derived.Test.YtgfnchggflecgabDoorTi
namespace Go.Proofs.YtgfnchggflecgabDoor
open Go.RowKit
set_option linter.unusedVariables false

theorem dgs_step (s : ByteArray) (k : Nat) (h : k < s.size) : dgs (s.data.toList.take (k + 1)) = if isD s[k] then 10 * dgs (s.data.toList.take k) + (s[k].toNat - 48) else dgs (s.data.toList.take k) := by
  rw [take_snoc s k h, dgs_snoc]
theorem dgs_17 (s : ByteArray) (k : Nat) (h : k ≤ 17) : dgs (s.data.toList.take k) < 100000000000000000 := by
  have h1 := dgs_lt (s.data.toList.take k)
  have h2 : (s.data.toList.take k).length ≤ 17 := by rw [List.length_take]; omega
  have h3 : 10 ^ (s.data.toList.take k).length ≤ 10 ^ 17 := Nat.pow_le_pow_right (by omega) h2
  have h4 : (10 : Nat) ^ 17 = 100000000000000000 := by decide
  omega
theorem head_at (s : ByteArray) (h : 0 < s.size) : s.data.toList.head? = some s[0] := by
  rw [List.head?_eq_getElem?]
  exact Lib.data_getElem? s 0 h
set_option maxHeartbeats 800000 in
theorem l01Value_any (s : ByteArray) (w : World) (hs : s.size ≤ 1048576) :
    Calls Tryd.prog 12 #[.string s] w fun e w' => e = .returned (rdT s.data.toList) ∧ Below w.heap.size w w' := by
  have hlen : s.data.toList.length = s.size := (Lib.size_eq s).symm
  by_cases h1 : 1 ≤ s.size
  · by_cases h17 : s.size ≤ 17
    · have HSP := hid (rd_spec s.data.toList (by omega))
      go_enter Tryd.func12, Tryd.ntmps12
      go_wp2
      go_loop [4, 5] (fun v i => ∃ k m : Nat, k ≤ s.size ∧ i = .int .i64 k ∧ v = .int .i64 m ∧ Hid (m = dgs (s.data.toList.take k)) ∧ m < 100000000000000000) (fun _ i => s.size - (intOf i).toNat)
      case atStart => exact ⟨0, 0, Nat.zero_le _, rfl, rfl, rfl, by omega⟩
      case round =>
        obtain ⟨k, m, hk, rfl, rfl, HM, hm⟩ := hrel
        by_cases hlt : k < s.size
        · have hix := idx_str s k hlt
          have HS := hid (dgs_step s k hlt)
          have HB := hid (dgs_17 s (k + 1) (by omega))
          have hb0 := dgs_17 s k (by omega)
          rw [← HM.out] at hb0
          have hm10 : m < 10000000000000000 := by
            have h1 := dgs_lt (s.data.toList.take k)
            have h2 : (s.data.toList.take k).length ≤ 16 := by rw [List.length_take]; omega
            have h3 : 10 ^ (s.data.toList.take k).length ≤ 10 ^ 16 := Nat.pow_le_pow_right (by omega) h2
            have h4 : (10 : Nat) ^ 16 = 10000000000000000 := by decide
            rw [← HM.out] at h1
            omega
          have hc := s[k].toNat_lt
          have HD : Hid (isD s[k] = (decide (48 ≤ s[k].toNat) && decide (s[k].toNat ≤ 57))) := rfl
          generalize s[k].toNat = cn at *
          generalize s[k] = cb at *
          by_cases hd1 : 48 ≤ cn
          · by_cases hd2 : cn ≤ 57
            · have hi1 : decide ((48 : Int) ≤ (cn : Int)) = true := decide_eq_true (by omega)
              have hi2 : decide ((cn : Int) ≤ 57) = true := decide_eq_true (by omega)
              have HE : Hid (10 * m + (cn - 48) = dgs (s.data.toList.take (k + 1))) := by unfold Hid; rw [HS.out, HD.out, if_pos (by simp; omega), HM.out]
              go_wp2
              go_round
              case rel => exact ⟨k + 1, 10 * m + (cn - 48), by omega, by go_num, by go_num, HE, by omega⟩
              case measure => simp [intOf]; omega
            · have hi1 : decide ((48 : Int) ≤ (cn : Int)) = true := decide_eq_true (by omega)
              have hi2 : decide ((cn : Int) ≤ 57) = false := decide_eq_false (by omega)
              have HE : Hid (m = dgs (s.data.toList.take (k + 1))) := by unfold Hid; rw [HS.out, HD.out, if_neg (by simp; omega), HM.out]
              go_wp2
              go_round
              case rel => exact ⟨k + 1, m, by omega, by go_num, by go_num, HE, by omega⟩
              case measure => simp [intOf]; omega
          · have hi1 : decide ((48 : Int) ≤ (cn : Int)) = false := decide_eq_false (by omega)
            have HE : Hid (m = dgs (s.data.toList.take (k + 1))) := by unfold Hid; rw [HS.out, HD.out, if_neg (by simp; omega), HM.out]
            go_wp2
            go_round
            case rel => exact ⟨k + 1, m, by omega, by go_num, by go_num, HE, by omega⟩
            case measure => simp [intOf]; omega
        · have HK := hid (show k = s.size by omega)
          have HMM : Hid (m = dgs s.data.toList) := by unfold Hid; rw [HM.out, HK.out, ← hlen, List.take_length]
          have hix : ∀ W, (Instr.index 9 (.string s) (.int .i64 0)).run Tryd.prog W = .ok (.int .u8 ((s[0].toNat : Nat) : Int)) W := fun W => idx_str s 0 (by omega) W
          have HH := hid (head_at s (by omega))
          have HN : Hid (spN s.data.toList = if s.data.toList.head? = some 45 then -(m : Int) else m) := by unfold Hid; rw [HMM.out]; rfl
          have hc := s[0].toNat_lt
          have HC0 : Hid (s[0].toNat = 45 ↔ s[0] = 45) := ⟨fun h => UInt8.toNat_inj.1 h, fun h => by rw [h]; rfl⟩
          obtain ⟨cn, hcn⟩ : ∃ cn, s[0].toNat = cn := ⟨_, rfl⟩
          rw [hcn] at hix hc HC0
          have HZ : Hid (spN s.data.toList = if cn = 45 then -(m : Int) else m) := by
            unfold Hid
            rw [HN.out, HH.out]
            by_cases h45 : cn = 45
            · rw [if_pos h45, if_pos (by rw [HC0.out.1 h45])]
            · rw [if_neg h45, if_neg (fun e => h45 (HC0.out.2 (Option.some.inj e)))]
          clear hcn HN HH HC0 HMM HM
          have fin : ∀ z : Int, spN s.data.toList = z → -100000000000000000 < z → z < 100000000000000000 →
              (∀ w, Calls Tryd.prog 18 #[.int .i64 z, .int .i64 (-1000000000000000), .int .i64 1000000000000000] w fun e w' => e = .returned (.bool (inV z)) ∧ w = w') ∧
              (∀ w, Calls Tryd.prog 19 #[.int .i64 z] w fun e w' => e = .returned (.string (strOf (Lib.itoa z))) ∧ Below w.heap.size w w') ∧
              (rdT s.data.toList = if inV z && ((strOf (Lib.itoa z)).toList == s.toList) then .tuple #[.int .i64 z, .bool true] else .tuple #[.int .i64 0, .bool false]) := by
            intro z hz hz1 hz2
            refine ⟨fun w => l00In_any z (-1000000000000000) 1000000000000000 w, fun w => l01Dec_any z (by omega) (by omega) w, ?_⟩
            have h2 := HSP.out
            rw [hz] at h2
            have he : (decide (Lib.itoa z = s.data.toList)) = ((strOf (Lib.itoa z)).toList == s.toList) := by
              by_cases h : Lib.itoa z = s.data.toList
              · rw [decide_eq_true h, strq_t h]
              · rw [decide_eq_false h, strq_f h]
            rw [he] at h2
            split
            · rename_i hh
              rw [if_pos hh] at h2
              exact rdT_some h2
            · rename_i hh
              rw [if_neg hh] at h2
              exact rdT_none h2
          by_cases h45 : cn = 45
          · obtain ⟨f1, f2, f3⟩ := fin (-(m : Int)) (by rw [HZ.out, if_pos h45]) (by omega) (by omega)
            have F1 := hid f1
            have F2 := hid f2
            have F3 := hid f3
            clear f1 f2 f3 fin HZ
            have h45b : ((cn : Int) == 45) = true := by simp; omega
            generalize hS : strOf (Lib.itoa (-(m : Int))) = S at F2 F3
            cases hv : inV (-(m : Int))
            · rw [hv] at F1 F3
              clear hv hS
              go_wp2_with (fail)
              refine (F1.out _).mono ?_
              rintro e w2 ⟨rfl, rfl⟩
              go_wp2_with (fail)
              go_ret2
              exact ⟨by rw [F3.out]; rfl, Below.refl _ _⟩
            · rw [hv] at F1 F3
              clear hv hS
              cases hn : (S.toList == s.toList)
              · rw [hn] at F3
                go_wp2_with (fail)
                refine (F1.out _).mono ?_
                rintro e w2 ⟨rfl, rfl⟩
                go_wp2_with (fail)
                refine (F2.out _).mono ?_
                rintro e w2 ⟨rfl, hb⟩
                have HBB := hid hb
                clear hb
                go_wp2_with (fail)
                go_ret2
                exact ⟨by rw [F3.out]; rfl, HBB.out⟩
              · rw [hn] at F3
                go_wp2_with (fail)
                refine (F1.out _).mono ?_
                rintro e w2 ⟨rfl, rfl⟩
                go_wp2_with (fail)
                refine (F2.out _).mono ?_
                rintro e w2 ⟨rfl, hb⟩
                have HBB := hid hb
                clear hb
                go_wp2_with (fail)
                go_ret2
                exact ⟨by rw [F3.out]; rfl, HBB.out⟩
          · obtain ⟨f1, f2, f3⟩ := fin (m : Int) (by rw [HZ.out, if_neg h45]) (by omega) (by omega)
            have F1 := hid f1
            have F2 := hid f2
            have F3 := hid f3
            clear f1 f2 f3 fin HZ
            have h45b : ((cn : Int) == 45) = false := by simp; omega
            generalize hS : strOf (Lib.itoa (m : Int)) = S at F2 F3
            cases hv : inV (m : Int)
            · rw [hv] at F1 F3
              clear hv hS
              go_wp2_with (fail)
              refine (F1.out _).mono ?_
              rintro e w2 ⟨rfl, rfl⟩
              go_wp2_with (fail)
              go_ret2
              exact ⟨by rw [F3.out]; rfl, Below.refl _ _⟩
            · rw [hv] at F1 F3
              clear hv hS
              cases hn : (S.toList == s.toList)
              · rw [hn] at F3
                go_wp2_with (fail)
                refine (F1.out _).mono ?_
                rintro e w2 ⟨rfl, rfl⟩
                go_wp2_with (fail)
                refine (F2.out _).mono ?_
                rintro e w2 ⟨rfl, hb⟩
                have HBB := hid hb
                clear hb
                go_wp2_with (fail)
                go_ret2
                exact ⟨by rw [F3.out]; rfl, HBB.out⟩
              · rw [hn] at F3
                go_wp2_with (fail)
                refine (F1.out _).mono ?_
                rintro e w2 ⟨rfl, rfl⟩
                go_wp2_with (fail)
                refine (F2.out _).mono ?_
                rintro e w2 ⟨rfl, hb⟩
                have HBB := hid hb
                clear hb
                go_wp2_with (fail)
                go_ret2
                exact ⟨by rw [F3.out]; rfl, HBB.out⟩
    · have HR := hid (rdT_none (rd_short s.data.toList (by omega)))
      go_enter Tryd.func12, Tryd.ntmps12
      go_wp2
      go_ret2
      exact ⟨by rw [HR.out]; rfl, Below.refl _ _⟩
  · have HR := hid (rdT_none (rd_short s.data.toList (by omega)))
    go_enter Tryd.func12, Tryd.ntmps12
    go_wp2
    go_ret2
    exact ⟨by rw [HR.out]; rfl, Below.refl _ _⟩
end Go.Proofs.YtgfnchggflecgabDoor
