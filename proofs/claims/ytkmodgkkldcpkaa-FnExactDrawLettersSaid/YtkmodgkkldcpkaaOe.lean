/-
  LETTERS THAT ARE DRAWN. Printed by wip/tools/gen_own.py e. Own work; no condition beyond what each theorem names.
-/
import Derived.Test.YtkmodgkkldcpkaaOb
namespace Go.Proofs.Ytkmodgkkldcpkaa
open Go.RowKit
attribute [local go_sem] run_store_float opS fineS givesS


theorem OI_nil (w : World) (base : Nat) : OI w base (.slice none 0 0) [] := World.ownsRow_nil _ _ _ _
theorem OI_made' {w : World} {base : Nat} (h : w.heap.size = base) : OI (w.alloc (.cells #[] 2)) base (.slice (some ⟨base, 0, none⟩) 0 0) [] := by
  subst h; exact World.ownsRow_made w #[] 0 (Nat.le_refl _) (by unfold maxLen; omega) (by simp)
theorem OI_app {w' : World} {base : Nat} {v' : Value} {rs : List Int} {r : Int} (ho : w'.ownsRow base 2 1 v' (rs.length + 1) (rs.map (.int .i64) ++ [.int .i64 r])) : OI w' base v' (rs ++ [r]) := by
  unfold OI
  rw [List.length_append, List.map_append]; exact ho
theorem below_appI {w w2 w' : World} {base : Nat} {v : Value} {rs : List Int} (hB : Below base w w2) (h : OI w2 base v rs) (hb : base ≤ w2.heap.size) (hg : w2.grownBy w' v.ownBlock) : Below base w w' :=
  hB.grown hg hb (fun k hk => (World.ownsRow.lt h k hk).1)
/-- What DrawLetters hands back. -/
def IntPost (w : World) (base : Nat) (b : Bool) (l : List Int) (s : Int) (e : Ending) (w' : World) : Prop :=
  ∃ v rs, e = .returned (.tuple #[v, .int .i64 s, .bool b]) ∧ OI w' base v rs ∧ rs = (if b then l else []) ∧ Below base w w'

/-! ### Shares -/
theorem share_quo {u : Nat} (hu : Fin .f32 u) (hs : sgn .f32 u = false) : fbin .quo .f32 u 1266679808 = fbin .mul .f32 864026624 u := by
  have h2 : Fin .f32 1266679808 := fin_lit (by decide) (by decide)
  have hh : Fin .f32 864026624 := fin_lit (by decide) (by decide)
  have e2 := h2.read
  have eh := hh.read
  have s2 : sgn .f32 1266679808 = false := by decide
  have g2 : sig .f32 (rung .f32 1266679808) = 8388608 := by decide
  have p2 : pl .f32 (rung .f32 1266679808) = 150 := by decide
  have sh : sgn .f32 864026624 = false := by decide
  have gh : sig .f32 (rung .f32 864026624) = 8388608 := by decide
  have ph : pl .f32 (rung .f32 864026624) = 102 := by decide
  rw [s2, g2, p2] at e2
  rw [sh, gh, ph] at eh
  unfold fbin floatBits Ieee.Format.div Ieee.Format.mul
  simp only [hu.read, e2, eh, Ieee.Datum.quotient, Ieee.Datum.product, hs]
  rw [if_neg (by decide)]
  dsimp only [Option.map_some, Option.getD_some]
  show FloatKind.f32.format.nearest _ _ _ = FloatKind.f32.format.nearest _ _ _
  have hml : (sig .f32 (rung .f32 u)).log2 ≤ 23 := by
    by_cases h0 : rung .f32 u = 0
    · rw [h0]; unfold sig; rw [if_pos (binade_pos .f32)]; decide
    · by_cases h1 : rung .f32 u < FloatKind.f32.format.binade
      · exact Nat.le_of_lt (log2_sig_small h0 h1)
      · exact Nat.le_of_eq (log2_sig_big h1)
  generalize sig .f32 (rung .f32 u) = m at *
  generalize pl .f32 (rung .f32 u) = p at *
  rw [show (8388608 : Nat).log2 = 23 by decide, fb32, lp32, Nat.shiftLeft_eq]
  obtain ⟨e, he⟩ : ∃ e, 23 + 2 + 23 - m.log2 = 23 + e := ⟨25 - m.log2, by omega⟩
  rw [he, Nat.pow_add]
  have d1 : m * (2 ^ 23 * 2 ^ e) / 8388608 = m * 2 ^ e := by
    rw [show (2 : Nat) ^ 23 = 8388608 by decide, show m * (8388608 * 2 ^ e) = m * 2 ^ e * 8388608 by ac_rfl, Nat.mul_div_cancel _ (by decide)]
  have d2 : m * (2 ^ 23 * 2 ^ e) % 8388608 = 0 := by
    rw [show (2 : Nat) ^ 23 = 8388608 by decide, show m * (8388608 * 2 ^ e) = m * 2 ^ e * 8388608 by ac_rfl, Nat.mul_mod_left]
  rw [d1, d2]
  have z : 2 * (m * 2 ^ e) + ((0 : Nat) != 0 : Bool).toNat = m * 2 ^ (e + 1) := by
    rw [Nat.pow_succ]; simp; ac_rfl
  rw [z, nearest_scale, show 8388608 * m = m * 2 ^ 23 by rw [show (2 : Nat) ^ 23 = 8388608 by decide]; ac_rfl, nearest_scale]
  congr 1
  omega
theorem mul_comm_fin {k : FloatKind} {u v : Nat} (hu : Fin k u) (hv : Fin k v) : fbin .mul k u v = fbin .mul k v u := by
  rw [fmul_fin hu hv, fmul_fin hv hu, Bool.xor_comm, Nat.mul_comm]
theorem share_mul {u : Nat} (hu : Fin .f32 u) (hs : sgn .f32 u = false) : fbin .mul .f32 u 864026624 = fbin .quo .f32 u 1266679808 := by
  rw [share_quo hu hs]
  exact mul_comm_fin hu (fin_lit (by decide) (by decide))
theorem ofInt_fin {n : Int} (h0 : 0 ≤ n) (h1 : n < 16777216) : Fin .f32 (floatOfInt .f32 n) ∧ sgn .f32 (floatOfInt .f32 n) = false := by
  have e : floatOfInt .f32 n = FloatKind.f32.format.word false (rg .f32 n.natAbs 0) := by
    unfold floatOfInt FloatKind.nearest FloatKind.encode
    show FloatKind.f32.format.nearest (decide (n < 0)) n.natAbs 0 = _
    rw [nearest_rg, decide_eq_false (by omega)]
  have hle : rg .f32 n.natAbs 0 ≤ 1266679808 := Nat.le_trans (rg_mono .f32 (show n.natAbs ≤ 16777216 by omega) 0) (by decide +kernel)
  rw [e]
  exact ⟨(up_word (k := .f32) false hle).fin (by rw [inf32]; decide), sgn_word .f32 _ (rg_sw ..)⟩

/-! ### Letters -/
def sdN (s : Int) : Int := (1664525 * s + 1013904223) % 4294967296
def sdI (s : Int) : Nat → Int
  | 0 => s
  | k + 1 => sdN (sdI s k)
theorem sdN_bd (s : Int) : 0 ≤ sdN s ∧ sdN s ≤ 4294967295 := by
  rw [sdN.eq_1]
  have h1 := Int.emod_nonneg (1664525 * s + 1013904223) (show (4294967296 : Int) ≠ 0 by decide)
  have h2 := Int.emod_lt_of_pos (1664525 * s + 1013904223) (show (0 : Int) < 4294967296 by decide)
  omega
theorem sdI_bd {s : Int} (h0 : 0 ≤ s ∧ s ≤ 4294967295) : ∀ k, 0 ≤ sdI s k ∧ sdI s k ≤ 4294967295
  | 0 => h0
  | _ + 1 => sdN_bd _
def shV (s : Int) : Nat := fbin .quo .f32 (floatOfInt .f32 (s / 256)) 1266679808
theorem shV_mul {s : Int} (h0 : 0 ≤ s) (h1 : s ≤ 4294967295) : fbin .mul .f32 (floatOfInt .f32 (s / 256)) 864026624 = shV s := by
  obtain ⟨a, b⟩ := ofInt_fin (n := s / 256) (by omega) (by omega)
  exact share_mul a b
def letR (l : List Nat) (sh : Nat) : Nat → Nat → Nat → Nat
  | 0, _, last => last
  | f + 1, k, last => if fcmp .gtr .f32 (sumF (l.take (k + 1))) sh then k else letR l sh f (k + 1) (if fcmp .gtr .f32 (l.getD k 0) 0 then k else last)
def letV (l : List Nat) (sh : Nat) : Nat := letR l sh l.length 0 0
def drG (l : List Nat) (s : Int) (j : Nat) : Int := (letV l (shV (sdI s (j + 1))) : Nat)
def RI (g : Nat → Int) (k : Nat) : List Int := (List.range k).map g
theorem RI_len (g : Nat → Int) (k : Nat) : (RI g k).length = k := by simp [RI]
theorem RI_succ {g : Nat → Int} {k : Nat} {rs : List Int} (h : rs = RI g k) : rs ++ [g k] = RI g (k + 1) := by
  rw [h]; unfold RI; rw [List.range_succ, List.map_append]; rfl
def drL (l : List Nat) (s c : Int) : List Int := RI (drG l s) c.toNat
def drB (l : List Nat) (s c : Int) : Bool := (isRowB l && (decide (0 ≤ s) && decide (s ≤ 4294967295))) && (decide (0 ≤ c) && decide (c ≤ 64))
def drS (l : List Nat) (s c : Int) : Int := if drB l s c then sdI s c.toNat else 0
theorem drB_len (l : List Nat) (s c : Int) : drB l s c = true → (drL l s c).length ≤ 1048576 := fun h => by
  unfold drB at h
  simp at h
  unfold drL
  rw [RI_len]; omega

set_option maxHeartbeats 800000 in
theorem drawLetter_any (p : Option Addr) (c1 : Nat) (zs : List Nat) (s : Int) (w : World) (hs : SL (.float .f32) 0 w p zs) (hz : ∀ z ∈ zs, z < 4294967296) (hm : zs.length ≤ 32) (hs0 : 0 ≤ s) (hs1 : s ≤ 4294967295) :
    Calls Try.prog 76 #[.slice p zs.length c1, .int .i64 s] w fun e w' => e = .returned (.tuple #[.int .i64 (letV (us zs) (shV (sdN s)) : Nat), .int .i64 (sdN s)]) ∧ Dr w w' := by
  have HS := hid hs
  have HZ := hid hz
  clear hs hz
  have h0 := fz32
  have hbd := sdN_bd s
  have hmu := shV_mul hbd.1 hbd.2
  have HV : Hid (letV (us zs) (shV (sdN s)) = letR (us zs) (shV (sdN s)) zs.length 0 0) := by unfold Hid letV; rw [us_len]
  obtain ⟨sh, hsh'⟩ : ∃ sh, shV (sdN s) = sh := ⟨_, rfl⟩
  rw [hsh'] at HV hmu
  rw [hsh']
  rw [sdN.eq_1] at hmu hbd
  rw [sdN.eq_1]
  have HX := hid (fun r (h : Fl .f32 r (fbin .mul .f32 (floatOfInt .f32 ((1664525 * s + 1013904223) % 4294967296 / 256)) 864026624)) => show Fl .f32 r sh by rw [← hmu]; exact h)
  clear hsh' hmu
  obtain ⟨hb0, hb1⟩ := hbd
  have k1 : Fl .f32 864026624 864026624 := Fl.lit (by decide) (by decide)

  go_enter Try.func76, Try.ntmps76
  go_wp2_with (first | (refine wpList_fofint rfl _ _ _ rfl _ _ rfl (Option.isSome_iff_exists.2 ⟨_, (by with_reducible exact Try.underlying2)⟩) (by with_reducible exact Try.underlying58) ?_; intro _) | (refine wpList_fofint rfl _ _ _ rfl _ _ rfl (Option.isSome_iff_exists.2 ⟨_, (by with_reducible exact Try.underlying2)⟩) (by with_reducible exact Try.underlying32) ?_; intro _) | (refine wpList_fofint rfl _ _ _ rfl _ _ rfl (Option.isSome_iff_exists.2 ⟨_, (by with_reducible exact Try.underlying3)⟩) (by with_reducible exact Try.underlying58) ?_; intro _) | (refine wpList_fofint rfl _ _ _ rfl _ _ rfl (Option.isSome_iff_exists.2 ⟨_, (by with_reducible exact Try.underlying3)⟩) (by with_reducible exact Try.underlying32) ?_; intro _) | (refine wpList_farith rfl _ _ _ _ _ rfl _ _ _ rfl rfl (by decide) (by assumption) (by assumption) ?_; intro _ _ _))
  have hsh := HX.out _ (by assumption)
  clear HX
  go_loopw [7, 8, 21] (fun sm la i wr => ∃ (k r last : Nat), k ≤ zs.length ∧ i = .int .i64 k ∧ sm = .float .f32 r ∧ la = .int .i64 last ∧ last ≤ zs.length ∧ Hid (Fl .f32 r (sumF ((us zs).take k))) ∧ Hid (letV (us zs) sh = letR (us zs) sh (zs.length - k) k last) ∧ ∃ n, wr = w.drewN n) (fun _ _ i _ => zs.length - (intOf i).toNat)
  case atStart => exact ⟨0, 0, 0, Nat.zero_le _, rfl, rfl, rfl, Nat.zero_le _, h0, HV, by first | exact ⟨_, rfl⟩ | exact ⟨0, rfl⟩⟩
  case round =>
    obtain ⟨k, r, last, hk, rfl, rfl, rfl, hla, HF, HR, n, rfl⟩ := hrel
    by_cases hlt : k < zs.length
    · obtain ⟨b, off, rfl, hc⟩ := HS.out k hlt
      have hI : (k : Int) < (zs.length : Int) := by omega
      have f1 := us_fl HZ.out hlt
      have HT := hid (sumF_succ (us zs) k (by rw [us_len]; exact hlt))
      have f2 : Fl .f32 r (sumF ((us zs).take k)) := HF.out
      obtain ⟨f, hf⟩ : ∃ f, zs.length - k = f + 1 := ⟨zs.length - k - 1, by omega⟩
      have HR2 : Hid (letV (us zs) sh = if fcmp .gtr .f32 (sumF ((us zs).take (k + 1))) sh then k else letR (us zs) sh f (k + 1) (if fcmp .gtr .f32 ((us zs).getD k 0) 0 then k else last)) := by
        have h := HR.out
        rw [hf] at h
        exact h
      have HFN : Hid (f = zs.length - (k + 1)) := by unfold Hid; omega
      rw [HT.out] at HR2
      generalize (us zs).getD k 0 = u at *
      generalize zs.getD k 0 = x at *
      generalize sumF ((us zs).take k) = v at *
      clear HR hf
      cases g1 : fcmp .gtr .f32 (fbin .add .f32 v u) sh
      · cases g2 : fcmp .gtr .f32 u 0
        all_goals
          have hr2 := HR2.out
          rw [g1, g2] at hr2
          simp only [if_true, if_false, Bool.false_eq_true] at hr2
          rw [HFN.out] at hr2
          have HR3 := hid hr2
          clear HR2 hr2 HFN
          go_wp2_with (first | (refine wpList_farith rfl _ _ _ _ _ rfl _ _ _ rfl rfl (by decide) (by assumption) (by assumption) ?_; intro _ _ _) | (refine wpList_fcmp rfl _ _ _ _ _ rfl _ _ _ rfl rfl (by decide) (by assumption) (by assumption) (by first | assumption | rfl) ?_))
          go_roundw
          case rel => exact ⟨k + 1, _, _, by omega, by go_num, rfl, rfl, by omega, by unfold Hid; rw [HT.out]; assumption, HR3, _, rfl⟩
          case measure => simp [intOf]; omega
      · have hr2 := HR2.out
        rw [g1] at hr2
        simp only [if_true] at hr2
        have HR3 := hid hr2
        clear HR2 hr2 HFN
        go_wp2_with (first | (refine wpList_farith rfl _ _ _ _ _ rfl _ _ _ rfl rfl (by decide) (by assumption) (by assumption) ?_; intro _ _ _) | (refine wpList_fcmp rfl _ _ _ _ _ rfl _ _ _ rfl rfl (by decide) (by assumption) (by assumption) (by first | assumption | rfl) ?_))
        go_ret2
        exact ⟨by rw [HR3.out]; rfl, _, rfl⟩
    · have HL : Hid (letV (us zs) sh = last) := by
        have h := HR.out
        rw [show zs.length - k = 0 by omega] at h
        exact h
      go_wp2
      go_ret2
      exact ⟨by rw [HL.out]; rfl, _, rfl⟩
set_option maxHeartbeats 800000 in
theorem l02Letter_any (p : Option Addr) (c1 : Nat) (zs : List Nat) (x sh : Nat) (w : World) (hs : SL (.float .f32) 0 w p zs) (hz : ∀ z ∈ zs, z < 4294967296) (hm : zs.length ≤ 32) (hsh : Fl .f32 x sh) :
    Calls Try.prog 74 #[.slice p zs.length c1, .float .f32 x] w fun e w' => e = .returned (.int .i64 (letV (us zs) sh : Nat)) ∧ Dr w w' := by
  have HS := hid hs
  have HZ := hid hz
  clear hs hz
  have h0 := fz32
  have HV : Hid (letV (us zs) sh = letR (us zs) sh zs.length 0 0) := by unfold Hid letV; rw [us_len]
  go_enter Try.func74, Try.ntmps74
  go_wp2
  go_loopw [6, 5, 7] (fun sm la i wr => ∃ (k r last : Nat), k ≤ zs.length ∧ i = .int .i64 k ∧ sm = .float .f32 r ∧ la = .int .i64 last ∧ last ≤ zs.length ∧ Hid (Fl .f32 r (sumF ((us zs).take k))) ∧ Hid (letV (us zs) sh = letR (us zs) sh (zs.length - k) k last) ∧ ∃ n, wr = w.drewN n) (fun _ _ i _ => zs.length - (intOf i).toNat)
  case atStart => exact ⟨0, 0, 0, Nat.zero_le _, rfl, rfl, rfl, Nat.zero_le _, h0, HV, by first | exact ⟨_, rfl⟩ | exact ⟨0, rfl⟩⟩
  case round =>
    obtain ⟨k, r, last, hk, rfl, rfl, rfl, hla, HF, HR, n, rfl⟩ := hrel
    by_cases hlt : k < zs.length
    · obtain ⟨b, off, rfl, hc⟩ := HS.out k hlt
      have hI : (k : Int) < (zs.length : Int) := by omega
      have f1 := us_fl HZ.out hlt
      have HT := hid (sumF_succ (us zs) k (by rw [us_len]; exact hlt))
      have f2 : Fl .f32 r (sumF ((us zs).take k)) := HF.out
      obtain ⟨f, hf⟩ : ∃ f, zs.length - k = f + 1 := ⟨zs.length - k - 1, by omega⟩
      have HR2 : Hid (letV (us zs) sh = if fcmp .gtr .f32 (sumF ((us zs).take (k + 1))) sh then k else letR (us zs) sh f (k + 1) (if fcmp .gtr .f32 ((us zs).getD k 0) 0 then k else last)) := by
        have h := HR.out
        rw [hf] at h
        exact h
      have HFN : Hid (f = zs.length - (k + 1)) := by unfold Hid; omega
      rw [HT.out] at HR2
      generalize (us zs).getD k 0 = u at *
      generalize zs.getD k 0 = x at *
      generalize sumF ((us zs).take k) = v at *
      clear HR hf
      cases g1 : fcmp .gtr .f32 (fbin .add .f32 v u) sh
      · cases g2 : fcmp .gtr .f32 u 0
        all_goals
          have hr2 := HR2.out
          rw [g1, g2] at hr2
          simp only [if_true, if_false, Bool.false_eq_true] at hr2
          rw [HFN.out] at hr2
          have HR3 := hid hr2
          clear HR2 hr2 HFN
          go_wp2_with (first | (refine wpList_farith rfl _ _ _ _ _ rfl _ _ _ rfl rfl (by decide) (by assumption) (by assumption) ?_; intro _ _ _) | (refine wpList_fcmp rfl _ _ _ _ _ rfl _ _ _ rfl rfl (by decide) (by assumption) (by assumption) (by first | assumption | rfl) ?_))
          go_roundw
          case rel => exact ⟨k + 1, _, _, by omega, by go_num, rfl, rfl, by omega, by unfold Hid; rw [HT.out]; assumption, HR3, _, rfl⟩
          case measure => simp [intOf]; omega
      · have hr2 := HR2.out
        rw [g1] at hr2
        simp only [if_true] at hr2
        have HR3 := hid hr2
        clear HR2 hr2 HFN
        go_wp2_with (first | (refine wpList_farith rfl _ _ _ _ _ rfl _ _ _ rfl rfl (by decide) (by assumption) (by assumption) ?_; intro _ _ _) | (refine wpList_fcmp rfl _ _ _ _ _ rfl _ _ _ rfl rfl (by decide) (by assumption) (by assumption) (by first | assumption | rfl) ?_))
        go_ret
        exact ⟨by rw [HR3.out]; rfl, _, rfl⟩
    · have HL : Hid (letV (us zs) sh = last) := by
        have h := HR.out
        rw [show zs.length - k = 0 by omega] at h
        exact h
      go_wp2
      go_ret
      exact ⟨by rw [HL.out]; rfl, _, rfl⟩
theorem isSeed_any (n : Int) (w : World) : Calls Try.prog 75 #[.int .i64 n] w fun e w' => e = .returned (.bool (decide (0 ≤ n) && decide (n ≤ 4294967295))) ∧ w = w' := by
  go_enter Try.func75, Try.ntmps75
  go_wp2_with (go_at_call 58; refine (within_any _ _ _ _).mono ?_; rintro e w' ⟨rfl, rfl⟩)
  go_ret
  exact ⟨rfl, rfl⟩
set_option maxHeartbeats 1600000 in
theorem DrawLetters_any (p : Option Addr) (c1 : Nat) (zs : List Nat) (s c : Int) (w : World) (hs : SL (.float .f32) 0 w p zs) (hz : ∀ z ∈ zs, z < 4294967296) (hm : zs.length ≤ 1048576) :
    Calls Try.prog 35 #[.slice p zs.length c1, .int .i64 s, .int .i64 c] w (IntPost w w.heap.size (drB (us zs) s c) (drL (us zs) s c) (drS (us zs) s c)) := by
  obtain ⟨i0, hi, hz0, hz1, hz2x⟩ := info_parts info_i64
  have HA := hid (IsRow_any p c1 zs w hs hz hm)
  have HB0 : Hid (drB (us zs) s c = ((isRowB (us zs) && (decide (0 ≤ s) && decide (s ≤ 4294967295))) && (decide (0 ≤ c) && decide (c ≤ 64)))) := rfl
  have HSS : Hid (drS (us zs) s c = if drB (us zs) s c then sdI s c.toNat else 0) := rfl
  cases hr : isRowB (us zs)
  · have HB : Hid (drB (us zs) s c = false) := by unfold Hid; rw [HB0.out, hr]; rfl
    have HS0 : Hid (drS (us zs) s c = 0) := by unfold Hid; rw [HSS.out, HB.out]; rfl
    rw [hr] at HA
    clear hs hz hr HB0 HSS
    go_enter Try.func35, Try.ntmps35
    go_wp2_with (fail)
    refine HA.out.mono ?_
    rintro e w' ⟨rfl, n, rfl⟩
    go_wp2_with (fail)
    go_ret3
    exact ⟨_, [], by rw [HB.out, HS0.out]; rfl, OI_nil _ _, by rw [HB.out]; rfl, below_drewN (Below.refl _ _) _⟩
  · rw [hr] at HA
    have hl32 : zs.length ≤ 32 := by have := (row_len hr).2; rwa [us_len] at this
    cases c1' : (decide (0 ≤ s) && decide (s ≤ 4294967295))
    · have HB : Hid (drB (us zs) s c = false) := by unfold Hid; rw [HB0.out, c1', Bool.and_false]; rfl
      have HS0 : Hid (drS (us zs) s c = 0) := by unfold Hid; rw [HSS.out, HB.out]; rfl
      clear hs hz hr HB0 HSS
      go_enter Try.func35, Try.ntmps35
      go_wp2_with (fail)
      refine HA.out.mono ?_
      rintro e w' ⟨rfl, n, rfl⟩
      go_wp2_with (fail)
      refine (isSeed_any _ _).mono ?_
      rw [c1']
      rintro e w' ⟨rfl, rfl⟩
      go_wp2_with (fail)
      go_ret3
      exact ⟨_, [], by rw [HB.out, HS0.out]; rfl, OI_nil _ _, by rw [HB.out]; rfl, below_drewN (Below.refl _ _) _⟩
    · have hsb : 0 ≤ s ∧ s ≤ 4294967295 := by simpa using c1'
      cases c2 : (decide (0 ≤ c) && decide (c ≤ 64))
      · have HB : Hid (drB (us zs) s c = false) := by unfold Hid; rw [HB0.out, c2, Bool.and_false]
        have HS0 : Hid (drS (us zs) s c = 0) := by unfold Hid; rw [HSS.out, HB.out]; rfl
        clear hs hz hr HB0 HSS
        go_enter Try.func35, Try.ntmps35
        go_wp2_with (fail)
        refine HA.out.mono ?_
        rintro e w' ⟨rfl, n, rfl⟩
        go_wp2_with (fail)
        refine (isSeed_any _ _).mono ?_
        rw [c1']
        rintro e w' ⟨rfl, rfl⟩
        go_wp2_with (fail)
        refine (within_any _ _ _ _).mono ?_
        rw [c2]
        rintro e w' ⟨rfl, rfl⟩
        go_wp2_with (fail)
        go_ret3
        exact ⟨_, [], by rw [HB.out, HS0.out]; rfl, OI_nil _ _, by rw [HB.out]; rfl, below_drewN (Below.refl _ _) _⟩
      · have hcb : 0 ≤ c ∧ c ≤ 64 := by simpa using c2
        obtain ⟨hc0, hc1⟩ := hcb
        have HB : Hid (drB (us zs) s c = true) := by unfold Hid; rw [HB0.out, hr, c1', c2]; rfl
        have HS0 : Hid (drS (us zs) s c = sdI s c.toNat) := by unfold Hid; rw [HSS.out, HB.out]; rfl
        have HS := hid hs
        have HZ := hid hz
        have HSB := hid hsb
        obtain ⟨base, hbase⟩ : ∃ base, w.heap.size = base := ⟨_, rfl⟩
        clear hs hz hr HB0 HSS hsb
        go_enter Try.func35, Try.ntmps35
        go_wp2_with (fail)
        refine HA.out.mono ?_
        rintro e w' ⟨rfl, n, rfl⟩
        go_wp2_with (fail)
        refine (isSeed_any _ _).mono ?_
        rw [c1']
        rintro e w' ⟨rfl, rfl⟩
        go_wp2_with (fail)
        refine (within_any _ _ _ _).mono ?_
        rw [c2]
        rintro e w' ⟨rfl, rfl⟩
        go_wp2_with (fail)
        clear c1' c2
        go_loopw [1, 9, 26] (fun sq o i wr => ∃ (k : Nat) (rs : List Int), (k : Int) ≤ c ∧ i = .int .i64 k ∧ sq = .int .i64 (sdI s k) ∧ Hid (OI wr base o rs) ∧ Hid (rs = RI (drG (us zs) s) k) ∧ Hid (Below base w wr)) (fun _ _ i _ => (c - intOf i).toNat)
        case atStart => exact ⟨0, [], by simpa using hc0, rfl, rfl, by unfold Hid; exact OI_made' hbase, rfl, by unfold Hid; exact (below_drewN (Below.refl base w) _).alloc (Nat.le_of_eq hbase.symm) _⟩
        case round =>
          obtain ⟨k, rs, hk, rfl, rfl, HO1, HU1, HB1⟩ := hrel
          by_cases hlt : (k : Int) < c
          · have hbd := sdI_bd HSB.out k
            have HQ : Hid (sdI s (k + 1) = sdN (sdI s k)) := rfl
            have HGQ : Hid (drG (us zs) s k = (letV (us zs) (shV (sdN (sdI s k))) : Nat)) := rfl
            have HSU := hid (RI_succ HU1.out)
            have hrl : rs.length ≤ 64 := by have := congrArg List.length HU1.out; rw [RI_len] at this; omega
            have hws : base ≤ wr.heap.size := by have := HB1.out.size; omega
            rw [HGQ.out] at HSU
            generalize sdI s k = q at *
            obtain ⟨hq0, hq1⟩ := hbd
            clear HGQ
            go_wp2_with (fail)
            refine (drawLetter_any _ _ _ _ _ (HS.out.below_all (by rw [hbase]; exact HB1.out)) HZ.out hl32 hq0 hq1).mono ?_
            rintro e w' ⟨rfl, n1, rfl⟩
            go_wp2_with (at_builtin; refine Stop.out ?_)
            refine ⟨?_⟩
            refine wpList_append_own _ rfl _ _ 44 rfl base 2 i0 (.int .i64 0) 1 8 Try.underlying44 hi hz0 hz1 hz2x rfl (by decide) _ _ _ rfl (World.ownsRow.alloc (HO1.out.drewN _) _) ⟨_, 0, none⟩ 1 1 [.int .i64 _] rfl rfl (cell_one_new _ _ _) ?c2 ?c3 ?c4 ?c5 ?_
            case c2 => intro u hu; simp at hu; subst hu; rfl
            case c3 => skip; unfold maxLen; omega
            case c4 => skip; omega
            case c5 => have := HB1.out.size; simp; omega
            intro v' w1 hown' hgrow _
            have HR := hid (OI_app hown')
            have HG := hid (below_appI (w2 := (wr.drewN _).alloc _) ((below_drewN HB1.out _).alloc hws _) (World.ownsRow.alloc (HO1.out.drewN _) _) (by simp; omega) hgrow)
            clear hown' hgrow
            go_wp2
            go_roundw
            case rel => exact ⟨k + 1, _, by omega, by go_num, by first | (rw [HQ.out]; done) | (rw [HQ.out]; rfl), HR, HSU, HG⟩
            case measure => simp [intOf]; omega
          · have HK := hid (show k = c.toNat by omega)
            have HUU : Hid (rs = drL (us zs) s c) := by have h := HU1.out; rw [HK.out] at h; exact h
            go_wp2
            go_ret3
            refine ⟨_, rs, by rw [HB.out, HS0.out, ← HK.out]; rfl, ?_, by rw [HB.out]; exact HUU.out, ?_⟩
            · first | exact HO1.out | (rw [hbase]; exact HO1.out)
            · first | exact HB1.out | (rw [hbase]; exact HB1.out)
set_option maxHeartbeats 1600000 in
theorem sDrawLetters_any (p : Option Addr) (c1 : Nat) (zs : List Nat) (s c : Int) (w : World) (hs : SL (.float .f32) 0 w p zs) (hz : ∀ z ∈ zs, z < 4294967296) (hm : zs.length ≤ 1048576) :
    Calls Try.prog 34 #[.slice p zs.length c1, .int .i64 s, .int .i64 c] w (IntPost w w.heap.size (drB (us zs) s c) (drL (us zs) s c) (drS (us zs) s c)) := by
  obtain ⟨i0, hi, hz0, hz1, hz2x⟩ := info_parts info_i64
  have HA := hid (l02Row_any p c1 zs w hs hz hm)
  have HB0 : Hid (drB (us zs) s c = ((isRowB (us zs) && (decide (0 ≤ s) && decide (s ≤ 4294967295))) && (decide (0 ≤ c) && decide (c ≤ 64)))) := rfl
  have HSS : Hid (drS (us zs) s c = if drB (us zs) s c then sdI s c.toNat else 0) := rfl
  cases hr : isRowB (us zs)
  · have HB : Hid (drB (us zs) s c = false) := by unfold Hid; rw [HB0.out, hr]; rfl
    have HS0 : Hid (drS (us zs) s c = 0) := by unfold Hid; rw [HSS.out, HB.out]; rfl
    rw [hr] at HA
    clear hs hz hr HB0 HSS
    go_enter Try.func34, Try.ntmps34
    go_wp2_with (fail)
    refine HA.out.mono ?_
    rintro e w' ⟨rfl, n, rfl⟩
    go_wp2_with (fail)
    go_ret3
    exact ⟨_, [], by rw [HB.out, HS0.out]; rfl, OI_nil _ _, by rw [HB.out]; rfl, below_drewN (Below.refl _ _) _⟩
  · rw [hr] at HA
    have hl32 : zs.length ≤ 32 := by have := (row_len hr).2; rwa [us_len] at this
    cases c1' : (decide (0 ≤ s) && decide (s ≤ 4294967295))
    · have HB : Hid (drB (us zs) s c = false) := by unfold Hid; rw [HB0.out, c1', Bool.and_false]; rfl
      have HS0 : Hid (drS (us zs) s c = 0) := by unfold Hid; rw [HSS.out, HB.out]; rfl
      clear hs hz hr HB0 HSS
      go_enter Try.func34, Try.ntmps34
      go_wp2_with (fail)
      refine HA.out.mono ?_
      rintro e w' ⟨rfl, n, rfl⟩
      go_wp2_with (fail)
      refine (l00In_any _ _ _ _).mono ?_
      rw [c1']
      rintro e w' ⟨rfl, rfl⟩
      go_wp2_with (fail)
      go_ret3
      exact ⟨_, [], by rw [HB.out, HS0.out]; rfl, OI_nil _ _, by rw [HB.out]; rfl, below_drewN (Below.refl _ _) _⟩
    · have hsb : 0 ≤ s ∧ s ≤ 4294967295 := by simpa using c1'
      cases c2 : (decide (0 ≤ c) && decide (c ≤ 64))
      · have HB : Hid (drB (us zs) s c = false) := by unfold Hid; rw [HB0.out, c2, Bool.and_false]
        have HS0 : Hid (drS (us zs) s c = 0) := by unfold Hid; rw [HSS.out, HB.out]; rfl
        clear hs hz hr HB0 HSS
        go_enter Try.func34, Try.ntmps34
        go_wp2_with (fail)
        refine HA.out.mono ?_
        rintro e w' ⟨rfl, n, rfl⟩
        go_wp2_with (fail)
        refine (l00In_any _ _ _ _).mono ?_
        rw [c1']
        rintro e w' ⟨rfl, rfl⟩
        go_wp2_with (fail)
        refine (l00In_any _ _ _ _).mono ?_
        rw [c2]
        rintro e w' ⟨rfl, rfl⟩
        go_wp2_with (fail)
        go_ret3
        exact ⟨_, [], by rw [HB.out, HS0.out]; rfl, OI_nil _ _, by rw [HB.out]; rfl, below_drewN (Below.refl _ _) _⟩
      · have hcb : 0 ≤ c ∧ c ≤ 64 := by simpa using c2
        obtain ⟨hc0, hc1⟩ := hcb
        have HB : Hid (drB (us zs) s c = true) := by unfold Hid; rw [HB0.out, hr, c1', c2]; rfl
        have HS0 : Hid (drS (us zs) s c = sdI s c.toNat) := by unfold Hid; rw [HSS.out, HB.out]; rfl
        have HS := hid hs
        have HZ := hid hz
        have HSB := hid hsb
        obtain ⟨base, hbase⟩ : ∃ base, w.heap.size = base := ⟨_, rfl⟩
        clear hs hz hr HB0 HSS hsb
        go_enter Try.func34, Try.ntmps34
        go_wp2_with (fail)
        refine HA.out.mono ?_
        rintro e w' ⟨rfl, n, rfl⟩
        go_wp2_with (fail)
        refine (l00In_any _ _ _ _).mono ?_
        rw [c1']
        rintro e w' ⟨rfl, rfl⟩
        go_wp2_with (fail)
        refine (l00In_any _ _ _ _).mono ?_
        rw [c2]
        rintro e w' ⟨rfl, rfl⟩
        go_wp2_with (fail)
        clear c1' c2
        go_loopw [1, 9, 10] (fun sq o i wr => ∃ (k : Nat) (rs : List Int), (k : Int) ≤ c ∧ i = .int .i64 k ∧ sq = .int .i64 (sdI s k) ∧ Hid (OI wr base o rs) ∧ Hid (rs = RI (drG (us zs) s) k) ∧ Hid (Below base w wr)) (fun _ _ i _ => (c - intOf i).toNat)
        case atStart => exact ⟨0, [], by simpa using hc0, rfl, rfl, by unfold Hid; exact OI_made' hbase, rfl, by unfold Hid; exact (below_drewN (Below.refl base w) _).alloc (Nat.le_of_eq hbase.symm) _⟩
        case round =>
          obtain ⟨k, rs, hk, rfl, rfl, HO1, HU1, HB1⟩ := hrel
          by_cases hlt : (k : Int) < c
          · have hbd := sdI_bd HSB.out k
            have HQ : Hid (sdI s (k + 1) = sdN (sdI s k)) := rfl
            have HGQ : Hid (drG (us zs) s k = (letV (us zs) (shV (sdN (sdI s k))) : Nat)) := rfl
            have HSU := hid (RI_succ HU1.out)
            have hrl : rs.length ≤ 64 := by have := congrArg List.length HU1.out; rw [RI_len] at this; omega
            have hws : base ≤ wr.heap.size := by have := HB1.out.size; omega
            rw [HGQ.out] at HSU
            generalize sdI s k = q at *
            obtain ⟨hq0, hq1⟩ := hbd
            clear HGQ
            have k24 : Fl .f32 1266679808 1266679808 := Fl.lit (by decide) (by decide)
            have hbd2 := sdN_bd q
            rw [sdN.eq_1] at hbd2
            obtain ⟨hr0, hr1⟩ := hbd2
            go_wp2_with (first | (refine wpList_fofint rfl _ _ _ rfl _ _ rfl (Option.isSome_iff_exists.2 ⟨_, (by with_reducible exact Try.underlying2)⟩) (by with_reducible exact Try.underlying58) ?_; intro _) | (refine wpList_fofint rfl _ _ _ rfl _ _ rfl (Option.isSome_iff_exists.2 ⟨_, (by with_reducible exact Try.underlying2)⟩) (by with_reducible exact Try.underlying32) ?_; intro _) | (refine wpList_fofint rfl _ _ _ rfl _ _ rfl (Option.isSome_iff_exists.2 ⟨_, (by with_reducible exact Try.underlying3)⟩) (by with_reducible exact Try.underlying58) ?_; intro _) | (refine wpList_fofint rfl _ _ _ rfl _ _ rfl (Option.isSome_iff_exists.2 ⟨_, (by with_reducible exact Try.underlying3)⟩) (by with_reducible exact Try.underlying32) ?_; intro _) | (refine wpList_farith rfl _ _ _ _ _ rfl _ _ _ rfl rfl (by decide) (by assumption) (by assumption) ?_; intro _ _ _))
            refine (l02Letter_any _ _ _ _ _ _ (HS.out.below_all (by rw [hbase]; exact below_drewN HB1.out _)) HZ.out hl32 (by assumption)).mono ?_
            rintro e w' ⟨rfl, n1, rfl⟩
            go_wp2_with (at_builtin; refine Stop.out ?_)
            refine ⟨?_⟩
            refine wpList_append_own _ rfl _ _ 44 rfl base 2 i0 (.int .i64 0) 1 8 Try.underlying44 hi hz0 hz1 hz2x rfl (by decide) _ _ _ rfl (World.ownsRow.alloc (HO1.out.drewN _) _) ⟨_, 0, none⟩ 1 1 [.int .i64 _] rfl rfl (cell_one_new _ _ _) ?c2 ?c3 ?c4 ?c5 ?_
            case c2 => intro u hu; simp at hu; subst hu; rfl
            case c3 => skip; unfold maxLen; omega
            case c4 => skip; omega
            case c5 => have := HB1.out.size; simp; omega
            intro v' w1 hown' hgrow _
            have HR := hid (OI_app hown')
            have HG := hid (below_appI (w2 := (wr.drewN _).alloc _) ((below_drewN HB1.out _).alloc hws _) (World.ownsRow.alloc (HO1.out.drewN _) _) (by simp; omega) hgrow)
            clear hown' hgrow
            go_wp2
            go_roundw
            case rel => exact ⟨k + 1, _, by omega, by go_num, by first | (rw [HQ.out]; done) | (rw [HQ.out]; rfl), HR, HSU, HG⟩
            case measure => simp [intOf]; omega
          · have HK := hid (show k = c.toNat by omega)
            have HUU : Hid (rs = drL (us zs) s c) := by have h := HU1.out; rw [HK.out] at h; exact h
            go_wp2
            go_ret3
            refine ⟨_, rs, by rw [HB.out, HS0.out, ← HK.out]; rfl, ?_, by rw [HB.out]; exact HUU.out, ?_⟩
            · first | exact HO1.out | (rw [hbase]; exact HO1.out)
            · first | exact HB1.out | (rw [hbase]; exact HB1.out)
end Go.Proofs.Ytkmodgkkldcpkaa
