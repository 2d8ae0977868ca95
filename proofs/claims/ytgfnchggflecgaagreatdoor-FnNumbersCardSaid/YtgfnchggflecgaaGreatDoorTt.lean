/-
  HEXADECIMAL TEXTS THAT ARE READ: the library's reader at base 16 and 32 bits, on eight bytes. Own work (the walk: after the kit's walk at base 10); no condition beyond what each theorem names.
-/
import Derived.Test.YtgfnchggflecgaaGreatDoorTm
import Derived.Lib.ConvBytes
import Derived.Lib.AtoiAllMem
import Derived.Laws.Strings3
import Derived.Laws.Closers25
import Derived.Laws.Closers25b
namespace Go.Proofs.YtgfnchggflecgaaGreatDoor
open Go.RowKit
set_option linter.unusedVariables false

theorem or32_fin : ∀ p : Fin 256, bits .or .u8 (p.val : Int) 32 = ((p.val ||| 32 : Nat) : Int) := by decide +kernel
theorem or32 (c : Nat) (h : c < 256) : bits .or .u8 (c : Int) 32 = ((c ||| 32 : Nat) : Int) := or32_fin ⟨c, h⟩
theorem or32_lt (c : Nat) (h : c < 256) : c ||| 32 < 256 := Nat.or_lt_two_pow (n := 8) h (by decide)
theorem lower_any (c lc : Nat) (hc : c < 256) (hl : c ||| 32 = lc) (w : World) : Calls Tryz.prog 75 #[.int .u8 (c : Int)] w fun e w' => e = .returned (.int .u8 (lc : Int)) ∧ w = w' := by
  have h1 : bits .or .u8 (c : Int) 32 = (lc : Int) := by rw [or32 c hc, hl]
  clear hl
  go_enter Tryz.func75, Tryz.ntmps75
  go_wp2
  go_ret
  exact ⟨rfl, rfl⟩
/-- What the library's reader hands back. -/
def pTup (l : List UInt8) : Value := match pexV l 0 with | some v => .tuple #[.int .u64 (v : Int), .nilIface] | none => .tuple #[.int .u64 0, .iface 107 (.int .i64 2)]
theorem pTup_some {l : List UInt8} {v : Nat} (h : pexV l 0 = some v) : pTup l = .tuple #[.int .u64 (v : Int), .nilIface] := by unfold pTup; rw [h]
theorem pTup_none {l : List UInt8} (h : pexV l 0 = none) : pTup l = .tuple #[.int .u64 0, .iface 107 (.int .i64 2)] := by unfold pTup; rw [h]
set_option maxHeartbeats 3200000 in
set_option maxRecDepth 100000 in
theorem ParseUint_16i (t : ByteArray) (h8 : t.size = 8) (w : World) :
    Calls Tryz.prog 61 #[.string t, .int .i64 16, .int .i64 32] w fun e w' => e = .returned (pTup t.data.toList) ∧ Below w.heap.size w w' := by
  have hemp : (t.toList == []) = false := by
    rw [Lib.toList_data]
    have : t.data.toList.length = 8 := by rw [← Lib.size_eq]; exact h8
    cases hl : t.data.toList with
    | nil => rw [hl] at this; cases this
    | cons a b => rfl
  have hemp2 : t.toList.isEmpty = false := by
    rw [Lib.toList_data]
    have : t.data.toList.length = 8 := by rw [← Lib.size_eq]; exact h8
    cases hl : t.data.toList with
    | nil => rw [hl] at this; cases this
    | cons a b => rfl
  have hcv := Lib.run_convert_string_bytes (P := Tryz.prog) w 9 22 5 t (u := .string) Tryz.underlying9 Tryz.underlying22 Tryz.underlying5
  have hB : ∀ j, j < 8 → (Lib.bytesWorld w 5 t).cell? ⟨w.heap.size, j, none⟩ = some (.int .u8 (t.data.toList.getD j 0).toNat) := fun j hj => Lib.bytesWorld_cell w 5 t j (by omega)
  have HBE := hid (Lib.bytesWorld_below w 5 t)
  obtain ⟨W1, hW1⟩ : ∃ W1, W1 = Lib.bytesWorld w 5 t := ⟨_, rfl⟩
  rw [← hW1] at hcv hB HBE
  clear hW1
  obtain ⟨bs, hL⟩ : ∃ bs, bs = t.data.toList := ⟨_, rfl⟩
  have hLn : bs.length = 8 := by rw [hL, ← Lib.size_eq, h8]
  rw [← hL] at hB ⊢
  clear hL
  rw [h8] at hcv
  have hmv : IntKind.u64.wrap (IntKind.u64.wrap 4294967296 - 1) = 4294967295 := by
    rw [IntKind.wrap_u64, IntKind.wrap_u64]
    decide
  go_enter Tryz.func61, Tryz.ntmps61
  go_wp2
  go_loop [12, 13, 101] (fun vu vn vi => ∃ (k acc : Nat) (a : Int), vu = .bool false ∧ vn = .int .u64 a ∧ vi = .int .i64 k ∧ k ≤ 8 ∧ Hid (a = (acc : Int) ∧ acc < 16 ^ k ∧ pexV bs 0 = pexV (bs.drop k) acc)) (fun _ _ vi => 8 - (intOf vi).toNat)
  case atStart => exact ⟨0, 0, 0, rfl, rfl, rfl, by omega, rfl, by omega, rfl⟩
  case round =>
    obtain ⟨k, acc, a, rfl, rfl, rfl, hk, hh⟩ := hrel
    obtain ⟨ha, hacc, hdec⟩ := hh.out
    clear hh
    have a0 : 0 ≤ a := by omega
    by_cases hkn : k < 8
    · have hacc7 : acc < 268435456 := by
        have h1 : 16 ^ k ≤ 16 ^ 7 := Nat.pow_le_pow_right (by omega) (by omega)
        have h2 : (16 : Nat) ^ 7 = 268435456 := by decide
        omega
      have a1 : a < 268435456 := by omega
      have hc := hB k hkn
      have hdrop : bs.drop k = bs[k]'(by omega) :: bs.drop (k + 1) := List.drop_eq_getElem_cons (by omega)
      have hget : bs.getD k 0 = bs[k]'(by omega) := by simp [List.getD, List.getElem?_eq_getElem (show k < bs.length by omega)]
      rw [hdrop] at hdec
      rw [hget] at hc
      have HP : Hid (pval bs[k] = if 48 ≤ bs[k].toNat ∧ bs[k].toNat ≤ 57 then some (bs[k].toNat - 48) else
        if 97 ≤ (bs[k].toNat ||| 32) ∧ (bs[k].toNat ||| 32) ≤ 122 then (if (bs[k].toNat ||| 32) - 87 < 16 then some ((bs[k].toNat ||| 32) - 87) else none) else none) := rfl
      generalize bs[k]'(by omega) = c at hc hdec HP
      have hc256 : c.toNat < 256 := c.toNat_lt
      clear hB hdrop hget
      have step : ∀ d, d < 16 → pval c = some d → Hid (a * 16 + (d : Int) = ((16 * acc + d : Nat) : Int) ∧ 16 * acc + d < 16 ^ (k + 1) ∧ pexV bs 0 = pexV (bs.drop (k + 1)) (16 * acc + d)) := fun d hd hp =>
        ⟨by omega, by rw [Nat.pow_succ]; omega, by rw [hdec, pexV_cons_some hp]⟩
      have bad : pval c = none → pTup bs = .tuple #[.int .u64 0, .iface 107 (.int .i64 2)] := fun hp => pTup_none (by rw [hdec, pexV_cons_none hp])
      have STEP := hid step
      have BAD := hid bad
      clear step bad hdec
      obtain ⟨cn, hcn⟩ : ∃ cn, c.toNat = cn := ⟨_, rfl⟩
      obtain ⟨lc, hlc⟩ : ∃ lc, cn ||| 32 = lc := ⟨_, rfl⟩
      rw [hcn] at hc hc256 HP
      rw [hlc] at HP
      have HLO := hid (fun w => lower_any cn lc hc256 hlc w)
      have hl256 : lc < 256 := by rw [← hlc]; exact or32_lt cn hc256
      have H95 : Hid (cn = 95 → lc = 127) := fun h => by rw [← hlc, h]; rfl
      clear hcn hlc
      by_cases hdig : 48 ≤ cn ∧ cn ≤ 57
      · obtain ⟨hd0, hd1⟩ := hdig
        have HN := STEP.out (cn - 48) (by omega) (by rw [HP.out, if_pos ⟨hd0, hd1⟩])
        have hdi : ((cn - 48 : Nat) : Int) = (cn : Int) - 48 := by omega
        rw [hdi] at HN
        clear hacc ha hdi HP
        go_wp2
        refine ⟨⟨k + 1, 16 * acc + (cn - 48), a * 16 + ((cn : Int) - 48), rfl, (by first | rfl | (congr 1; omega)), (by first | rfl | (congr 1; omega)), by omega, HN⟩, by simp [intOf]; omega⟩
      · by_cases hlet : 97 ≤ lc ∧ lc ≤ 122
        · obtain ⟨hl0, hl1⟩ := hlet
          have h95 : cn ≠ 95 := fun h => by have := H95.out h; omega
          by_cases h16 : lc - 87 < 16
          · have HN := STEP.out (lc - 87) (by omega) (by rw [HP.out, if_neg hdig, if_pos ⟨hl0, hl1⟩, if_pos h16])
            have hdi : ((lc - 87 : Nat) : Int) = (lc : Int) - 87 := by omega
            rw [hdi] at HN
            clear hacc ha hdi HP
            go_wp2_with (go_at_call 75; refine (HLO.out _).mono ?_; rintro e w' ⟨rfl, rfl⟩)
            all_goals refine ⟨⟨k + 1, 16 * acc + (lc - 87), a * 16 + ((lc : Int) - 87), rfl, (by first | rfl | (congr 1; omega)), (by first | rfl | (congr 1; omega)), by omega, HN⟩, by simp [intOf]; omega⟩
          · have HX := hid (BAD.out (by rw [HP.out, if_neg hdig, if_pos ⟨hl0, hl1⟩, if_neg h16]))
            clear hacc ha HP
            go_wp2_with (go_at_call 75; refine (HLO.out _).mono ?_; rintro e w' ⟨rfl, rfl⟩)
            all_goals go_ret2
            all_goals exact ⟨by rw [HX.out]; rfl, HBE.out⟩
        · have HX := hid (BAD.out (by rw [HP.out, if_neg hdig, if_neg hlet]))
          clear hacc ha HP STEP BAD
          by_cases h95 : cn = 95
          · subst h95
            have HL95 : Hid (∀ w, Calls Tryz.prog 75 #[.int .u8 95] w fun e w' => e = .returned (.int .u8 127) ∧ w = w') := fun w => lower_any 95 127 (by omega) rfl w
            clear HLO H95 hdig hlet
            go_wp2_with (go_at_call 75; refine (HL95.out _).mono ?_; rintro e w' ⟨rfl, rfl⟩)
            all_goals go_ret2
            all_goals exact ⟨by rw [HX.out]; rfl, HBE.out⟩
          · by_cases hl0 : 97 ≤ lc
            · have hl1 : ¬ lc ≤ 122 := fun h => hlet ⟨hl0, h⟩
              clear hlet H95
              go_wp2_with (go_at_call 75; refine (HLO.out _).mono ?_; rintro e w' ⟨rfl, rfl⟩)
              all_goals go_ret2
              all_goals exact ⟨by rw [HX.out]; rfl, HBE.out⟩
            · clear hlet H95
              go_wp2_with (go_at_call 75; refine (HLO.out _).mono ?_; rintro e w' ⟨rfl, rfl⟩)
              all_goals go_ret2
              all_goals exact ⟨by rw [HX.out]; rfl, HBE.out⟩
    · have hkk : k = 8 := by omega
      subst hkk
      have hX : pexV bs 0 = some acc := by rw [hdec, List.drop_eq_nil_of_le (by omega)]; rfl
      have HX := hid (pTup_some hX)
      subst ha
      clear hacc hX hdec a0
      go_wp2
      go_ret2
      exact ⟨by rw [HX.out]; rfl, HBE.out⟩
end Go.Proofs.YtgfnchggflecgaaGreatDoor
