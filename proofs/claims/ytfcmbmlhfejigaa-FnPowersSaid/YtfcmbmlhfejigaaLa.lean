/-
  LOGARITHMS. Own work; no condition beyond what each theorem names.
-/
import Derived.Test.YtfcmbmlhfejigaaMa
import Derived.Test.YtfcmbmlhfejigaaFg
namespace Go.Proofs.Ytfcmbmlhfejigaa
open Go.RowKit

set_option maxHeartbeats 800000 in
theorem naturalLog_any (R : Nat) (h : 3936146074321813504 ≤ R) (h2 : R < 5183643171103440896) (w : World) :
    Calls Try.prog 12 #[.float .f64 R] w fun e w' => (∃ r, e = .returned (.float .f64 r) ∧ Fl .f64 r (lnV R)) ∧ Dr w w' := by
  have c0 : Fl .f64 0 0 := fz64
  have c1 : Fl .f64 4607182418800017408 4607182418800017408 := fone64
  have c2 : Fl .f64 4611686018427387904 4611686018427387904 := Fl.lit (by decide) (by decide)
  have c15 : Fl .f64 4609434218613702656 4609434218613702656 := Fl.lit (by decide) (by decide)
  have c75 : Fl .f64 4604930618986332160 4604930618986332160 := Fl.lit (by decide) (by decide)
  have cl2 : Fl .f64 4604418534313441775 4604418534313441775 := Fl.lit (by decide) (by decide)
  have fR := hid (fl_small (r := R) (by omega))
  have HR := hid (red_bounds h h2)
  go_enter Try.func12, Try.ntmps12
  go_wp2
  go_loopw [0, 3] (fun x e wr => ∃ (n : Nat) (r re : Nat), n ≤ halfN R ∧ x = .float .f64 r ∧ e = .float .f64 re ∧ Hid (Fl .f64 r (R - n * 4503599627370496)) ∧ Hid (Fl .f64 re (ef n)) ∧ ∃ m, wr = w.drewN m) (fun x _ _ => match x with | .float _ b => b | _ => 0)
  case atStart => exact ⟨0, _, _, Nat.zero_le _, rfl, rfl, by unfold Hid; simpa using fR.out, by unfold Hid; exact c0, 0, rfl⟩
  case round =>
    obtain ⟨n, r, re, hn, rfl, rfl, HX, HE, m, rfl⟩ := hrel
    by_cases hlt : n < halfN R
    · have hh := HR.out
      have hN : n + 1 ≤ halfN R := hlt
      have hge : 4609434218613702656 ≤ R - n * 4503599627370496 ∧ R - (n + 1) * 4503599627370496 = R - n * 4503599627370496 - 4503599627370496 := by
        unfold halfN at hlt; split at hlt <;> omega
      obtain ⟨v, hv⟩ : ∃ v, R - n * 4503599627370496 = v := ⟨_, rfl⟩
      obtain ⟨v', hv'⟩ : ∃ v', R - (n + 1) * 4503599627370496 = v' := ⟨_, rfl⟩
      rw [hv] at hge HX
      rw [hv'] at hge
      have hvl : v < 5183643171103440896 := by omega
      have hb : fcmp .geq .f64 v 4609434218613702656 = true := by
        rw [geq_small (by omega) (by omega)]; exact decide_eq_true hge.1
      have HQ : Hid (v' = fbin .quo .f64 v 4611686018427387904) := by
        unfold Hid; rw [half_eq (by omega) (by omega)]; exact hge.2
      have f2 : Fl .f64 re (ef n) := HE.out
      have HU := hid (ef_up (n := n) (by omega))
      have HC : Hid (((n + 1 : Nat) : Int) = (n : Int) + 1) := by unfold Hid; omega
      have HN := hid hN
      have HV := hid hv'
      have HM : Hid (∀ r r', Fl .f64 r v → Fl .f64 r' (fbin .quo .f64 v 4611686018427387904) → r' < r) := fun r r' a b => by
        rw [← HQ.out] at b
        have e1 := a.word (fin_small (by omega)).1.notN
        have e2 := b.word (fin_small (by omega)).1.notN
        omega
      have f1 : Fl .f64 r v := HX.out
      clear hlt hge hh hN hv hv' hvl
      go_wp2_with (first | (refine wpList_farith rfl _ _ _ _ _ rfl _ _ _ rfl rfl (by decide) (by assumption) (by assumption) ?_; intro _ _ _) | (refine wpList_fcmp rfl _ _ _ _ _ rfl _ _ _ rfl rfl (by decide) (by assumption) (by assumption) (by first | assumption | rfl) ?_))
      go_roundw
      case rel => exact ⟨n + 1, _, _, HN.out, rfl, rfl, by unfold Hid; rw [HV.out, HQ.out]; assumption, by unfold Hid; rw [HC.out, ← HU.out]; assumption, _, rfl⟩
      case measure => exact HM.out _ _ (by assumption) (by assumption)
    · have hk : n = halfN R := by omega
      have HEE : Hid (Fl .f64 re (ef (halfN R : Int))) := by have := HE.out; rwa [hk] at this
      clear HE
      have f1 : Fl .f64 r (lowR R) := by have := HX.out; rw [hk, lowR_eq] at this; exact this
      have hb : fcmp .geq .f64 (lowR R) 4609434218613702656 = false := by
        have hh := HR.out
        rw [geq_small (by omega) (by omega)]; exact decide_eq_false (by omega)
      clear HX hlt hn hk
      go_wp2_with (first | (refine wpList_farith rfl _ _ _ _ _ rfl _ _ _ rfl rfl (by decide) (by assumption) (by assumption) ?_; intro _ _ _) | (refine wpList_fcmp rfl _ _ _ _ _ rfl _ _ _ rfl rfl (by decide) (by assumption) (by assumption) (by first | assumption | rfl) ?_))
      clear hb
      go_simp
      go_loopw [0, 3] (fun x e wr => ∃ (n : Nat) (r re : Nat), n ≤ dblN (lowR R) ∧ x = .float .f64 r ∧ e = .float .f64 re ∧ Hid (Fl .f64 r (lowR R + n * 4503599627370496)) ∧ Hid (Fl .f64 re (ef ((halfN R : Int) - n))) ∧ ∃ m, wr = w.drewN m) (fun x _ _ => match x with | .float _ b => 9223372036854775808 - b | _ => 0)
      case atStart => exact ⟨0, _, _, Nat.zero_le _, rfl, rfl, by unfold Hid; rw [Nat.zero_mul, Nat.add_zero]; exact f1, by unfold Hid; simpa using HEE.out, _, rfl⟩
      case round =>
        obtain ⟨n, r, re, hn, rfl, rfl, HX, HE, m, rfl⟩ := hrel
        have hh := HR.out
        by_cases hlt : n < dblN (lowR R)
        · have hN : n + 1 ≤ dblN (lowR R) := hlt
          have hge : lowR R + n * 4503599627370496 < 4604930618986332160 ∧ lowR R + (n + 1) * 4503599627370496 = lowR R + n * 4503599627370496 + 4503599627370496 := by
            unfold dblN at hlt; split at hlt <;> omega
          have hvlo : 3936146074321813504 ≤ lowR R + n * 4503599627370496 := by omega
          obtain ⟨v, hv⟩ : ∃ v, lowR R + n * 4503599627370496 = v := ⟨_, rfl⟩
          obtain ⟨v', hv'⟩ : ∃ v', lowR R + (n + 1) * 4503599627370496 = v' := ⟨_, rfl⟩
          rw [hv] at hge HX hvlo
          rw [hv'] at hge
          have hb : fcmp .lss .f64 v 4604930618986332160 = true := by
            rw [lss_small (by omega) (by omega)]; exact decide_eq_true hge.1
          have HQ : Hid (v' = fbin .mul .f64 v 4611686018427387904) := by
            unfold Hid; rw [double_eq (by omega) (by omega)]; exact hge.2
          have f2 : Fl .f64 re (ef ((halfN R : Int) - n)) := HE.out
          have HU := hid (ef_down (n := (halfN R : Int) - n) (by omega))
          have HC : Hid ((halfN R : Int) - ((n + 1 : Nat) : Int) = (halfN R : Int) - n - 1) := by unfold Hid; omega
          have HN := hid hN
          have HV := hid hv'
          have HM : Hid (∀ r r', Fl .f64 r v → Fl .f64 r' (fbin .mul .f64 v 4611686018427387904) → 9223372036854775808 - r' < 9223372036854775808 - r) := fun r r' a b => by
            rw [← HQ.out] at b
            have e1 := a.word (fin_small (by omega)).1.notN
            have e2 := b.word (fin_small (by omega)).1.notN
            omega
          have f1 : Fl .f64 r v := HX.out
          clear hlt hge hh hN hv hv' hvlo
          go_wp2_with (first | (refine wpList_farith rfl _ _ _ _ _ rfl _ _ _ rfl rfl (by decide) (by assumption) (by assumption) ?_; intro _ _ _) | (refine wpList_fcmp rfl _ _ _ _ _ rfl _ _ _ rfl rfl (by decide) (by assumption) (by assumption) (by first | assumption | rfl) ?_))
          go_roundw
          case rel => exact ⟨n + 1, _, _, HN.out, rfl, rfl, by unfold Hid; rw [HV.out, HQ.out]; assumption, by unfold Hid; rw [HC.out, ← HU.out]; assumption, _, rfl⟩
          case measure => exact HM.out _ _ (by assumption) (by assumption)
        · have hk2 : n = dblN (lowR R) := by omega
          have f1 : Fl .f64 r (redR R) := by have := HX.out; rw [hk2, redR_eq] at this; exact this
          have hb : fcmp .lss .f64 (redR R) 4604930618986332160 = false := by
            have e := hh.2.2.2.2.2.2
            rw [lss_small (by omega) (by omega)]; exact decide_eq_false (by omega)
          have f2 : Hid (Fl .f64 re (ef ((halfN R : Int) - dblN (lowR R)))) := by have := HE.out; rwa [hk2] at this
          clear HE
          clear HX hlt hn hk2 hh
          go_wp2_with (first | (refine wpList_farith rfl _ _ _ _ _ rfl _ _ _ rfl rfl (by decide) (by assumption) (by assumption) ?_; intro _ _ _) | (refine wpList_fcmp rfl _ _ _ _ _ rfl _ _ _ rfl rfl (by decide) (by assumption) (by assumption) (by first | assumption | rfl) ?_))
          go_simp
          clear hb
          have HRR : Hid (lnV R = fbin .add .f64 (fbin .mul .f64 4611686018427387904 (fbin .mul .f64 (sF (redR R)) (qF (fbin .mul .f64 (sF (redR R)) (sF (redR R))) 13))) (fbin .mul .f64 (ef ((halfN R : Int) - dblN (lowR R))) 4604418534313441775)) := rfl
          have HSF : Hid (sF (redR R) = fbin .quo .f64 (fbin .sub .f64 (redR R) 4607182418800017408) (fbin .add .f64 (redR R) 4607182418800017408)) := rfl
          rw [HSF.out] at HRR
          clear HSF
          generalize fbin .quo .f64 (fbin .sub .f64 (redR R) 4607182418800017408) (fbin .add .f64 (redR R) 4607182418800017408) = s at *
          generalize hu : fbin .mul .f64 s s = u at *
          clear hu
          obtain ⟨ev, hev⟩ : ∃ ev, ef ((halfN R : Int) - dblN (lowR R)) = ev := ⟨_, rfl⟩
          rw [hev] at HRR f2
          have f9 : Fl .f64 re ev := f2.out
          have c25 : Fl .f64 4627730092099895296 (ef (25 - 2 * ((0 : Nat) : Int))) := by rw [show ef (25 - 2 * ((0 : Nat) : Int)) = 4627730092099895296 by decide +kernel]; exact Fl.lit (by decide) (by decide)
          clear f2 hev
          go_loopw [6, 7] (fun q kk wr => ∃ (j : Nat) (rq rk : Nat), j ≤ 13 ∧ q = .float .f64 rq ∧ kk = .float .f64 rk ∧ Hid (Fl .f64 rq (qF u j)) ∧ Hid (Fl .f64 rk (ef (25 - 2 * (j : Int)))) ∧ ∃ m, wr = w.drewN m) (fun _ kk _ => match kk with | .float _ b => mk b | _ => 0)
          case atStart => exact ⟨0, _, _, Nat.zero_le _, rfl, rfl, by unfold Hid; exact c0, by unfold Hid; exact c25, _, rfl⟩
          case round =>
            obtain ⟨j, rq, rk, hj, rfl, rfl, HQQ, HKK, m2, rfl⟩ := hrel
            have f6 : Fl .f64 rq (qF u j) := HQQ.out
            by_cases hlt3 : j < 13
            · have HJ := hid (show j + 1 ≤ 13 by omega)
              obtain ⟨kv, hkv⟩ : ∃ kv, ef (25 - 2 * (j : Int)) = kv := ⟨_, rfl⟩
              rw [hkv] at HKK
              have f5 : Fl .f64 rk kv := HKK.out
              have HQ : Hid (qF u (j + 1) = fbin .add .f64 (fbin .quo .f64 4607182418800017408 kv) (fbin .mul .f64 u (qF u j))) := by unfold Hid; rw [← hkv]; rfl
              have hkg : fcmp .geq .f64 kv 4607182418800017408 = true := by rw [← hkv]; exact (k_geq_all ⟨j, by omega⟩).trans (decide_eq_true hlt3)
              have HKS : Hid (ef (25 - 2 * ((j + 1 : Nat) : Int)) = fbin .sub .f64 kv 4611686018427387904) := by
                unfold Hid; rw [← hkv, show ((j + 1 : Nat) : Int) = (j : Int) + 1 by omega]; exact (k_sub_all ⟨j, hlt3⟩).symm
              have HM : Hid (∀ r r', Fl .f64 r kv → Fl .f64 r' (fbin .sub .f64 kv 4611686018427387904) → mk r' < mk r) := fun r r' a b => by
                rw [← HKS.out, show ((j + 1 : Nat) : Int) = (j : Int) + 1 by omega] at b
                rw [← hkv] at a
                obtain ⟨h1, h2, h3⟩ := mk_all ⟨j, hlt3⟩
                rw [a.word h2, b.word h3]; exact h1
              obtain ⟨qv, hqv⟩ : ∃ qv, qF u j = qv := ⟨_, rfl⟩
              rw [hqv] at f6 HQ
              clear HQQ HKK HRR hkv
              go_wp2_with (first | (refine wpList_farith rfl _ _ _ _ _ rfl _ _ _ rfl rfl (by decide) (by assumption) (by assumption) ?_; intro _ _ _) | (refine wpList_fcmp rfl _ _ _ _ _ rfl _ _ _ rfl rfl (by decide) (by assumption) (by assumption) (by first | assumption | rfl) ?_))
              go_roundw
              case rel => exact ⟨j + 1, _, _, HJ.out, rfl, rfl, by unfold Hid; rw [HQ.out]; assumption, by unfold Hid; rw [HKS.out]; assumption, _, rfl⟩
              case measure => exact HM.out _ _ (by assumption) (by assumption)
            · have hj13 : j = 13 := by omega
              obtain ⟨kv, hkv⟩ : ∃ kv, ef (25 - 2 * (j : Int)) = kv := ⟨_, rfl⟩
              rw [hkv] at HKK
              have f5 : Fl .f64 rk kv := HKK.out
              have hkg : fcmp .geq .f64 kv 4607182418800017408 = false := by rw [← hkv]; exact (k_geq_all ⟨j, by omega⟩).trans (decide_eq_false hlt3)
              obtain ⟨qv, hqv⟩ : ∃ qv, qF u 13 = qv := ⟨_, rfl⟩
              rw [hj13, hqv] at f6
              rw [hqv] at HRR
              clear HQQ HKK hkv
              go_wp2_with (first | (refine wpList_farith rfl _ _ _ _ _ rfl _ _ _ rfl rfl (by decide) (by assumption) (by assumption) ?_; intro _ _ _) | (refine wpList_fcmp rfl _ _ _ _ _ rfl _ _ _ rfl rfl (by decide) (by assumption) (by assumption) (by first | assumption | rfl) ?_))
              go_ret
              exact ⟨⟨_, rfl, by rw [HRR.out]; assumption⟩, _, rfl⟩

theorem wr_lo {r : Nat} (h0 : r ≠ 0) : 3936146074321813504 ≤ wr r := by
  unfold wr
  rw [if_neg h0]
  split
  · exact Nat.le_trans (show 3936146074321813504 ≤ (874 + r.log2) * 4503599627370496 by omega) (Nat.le_add_right _ _)
  · omega
theorem wr_hi {r : Nat} (h : r < 2139095040) : wr r < 5183643171103440896 := wr_bd h

/-- What LogNumber gives. -/
def logV (u : Nat) : Nat :=
  if isN .f32 u then nanW .f32 else if rung .f32 u = 0 then 4286578688 else if sgn .f32 u then nanW .f32 else if rung .f32 u = 2139095040 then 2139095040 else fnarrow (lnV (fwide u))

theorem logOk {R : Nat} (h : 3936146074321813504 ≤ R) (h2 : R < 5183643171103440896) : NarrowOk (lnV R) :=
  narrowOk_bd (N := 1150) (show Bd .f64 1150 (lnV R) from ⟨(lnV_up h h2).1, Nat.lt_of_le_of_lt (lnV_up h h2).2 (by decide)⟩) (by decide)

/-- The five kinds of a number. -/
theorem log_kinds {u : Nat} (hu : u < 2 ^ FloatKind.f32.format.width) (hc : nf .f32 u = u) :
    u = 2143289344 ∨ u = 0 ∨ u = 2147483648 ∨ u = 2139095040 ∨ (isN .f32 u = false ∧ sgn .f32 u = true ∧ rung .f32 u ≠ 0) ∨ (isN .f32 u = false ∧ sgn .f32 u = false ∧ rung .f32 u ≠ 0 ∧ rung .f32 u < 2139095040 ∧ u = rung .f32 u) := by
  cases hn : isN .f32 u
  · have hw := word_of hu
    have hl := notN hn
    rw [inf32] at hl
    unfold Ieee.Format.word at hw
    rw [sw32] at hw
    cases hs : sgn .f32 u
    · rw [hs] at hw
      simp at hw
      by_cases h0 : rung .f32 u = 0
      · exact Or.inr (Or.inl (by omega))
      · rcases Nat.lt_or_eq_of_le hl with h | h
        · exact Or.inr (Or.inr (Or.inr (Or.inr (Or.inr ⟨rfl, rfl, h0, h, hw⟩))))
        · exact Or.inr (Or.inr (Or.inr (Or.inl (by omega))))
    · rw [hs] at hw
      simp at hw
      by_cases h0 : rung .f32 u = 0
      · exact Or.inr (Or.inr (Or.inl (by omega)))
      · exact Or.inr (Or.inr (Or.inr (Or.inr (Or.inl ⟨rfl, rfl, h0⟩))))
  · rw [nf_nan hn] at hc
    exact Or.inl hc.symm
end Go.Proofs.Ytfcmbmlhfejigaa
