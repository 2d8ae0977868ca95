/-
  IEEE WORDS: coarse bounds: 'Bd k N u': the word u is finite or not, its rung is below N binades (|u| < 2 ^ (N - bias)); what '+', '-', '*', '/', roots, conversions make of such bounds.
  Own work; plain Lean, no program in sight; no condition beyond what each lemma names.
-/
import Derived.Test.YtgfnchggflecgaaGreatDoorFw
namespace Go.Proofs.YtgfnchggflecgaaGreatDoor
open Ieee

/-- |u| < 2 ^ (N - bias). -/
def Bd (k : FloatKind) (N u : Nat) : Prop := u < 2 ^ k.format.width ∧ rung k u < N * k.format.binade
/-- |u| ≥ 2 ^ (M - bias), M ≥ 1, finite. -/
def Lo (k : FloatKind) (M u : Nat) : Prop := M * k.format.binade ≤ rung k u

theorem Bd.mono {k : FloatKind} {N M u : Nat} (h : Bd k N u) (hm : N ≤ M) : Bd k M u := ⟨h.1, Nat.lt_of_lt_of_le h.2 (Nat.mul_le_mul_right _ hm)⟩

theorem Bd.fin {k : FloatKind} {N u : Nat} (h : Bd k N u) (hN : N ≤ 2 * bias k + 1) : rung k u < k.format.infRung := by
  rw [inf_bias]; exact Nat.lt_of_lt_of_le h.2 (Nat.mul_le_mul_right _ hN)

theorem notN_of_fin {k : FloatKind} {u : Nat} (h : rung k u < k.format.infRung) : isN k u = false := by
  cases hc : isN k u with
  | false => rfl
  | true => have := (isN_iff k u).1 hc; omega

theorem Bd.notN {k : FloatKind} {N u : Nat} (h : Bd k N u) (hN : N ≤ 2 * bias k + 1) : isN k u = false := notN_of_fin (h.fin hN)

theorem bias_pos (k : FloatKind) : 127 ≤ bias k := by cases k <;> decide
theorem fb_pos (k : FloatKind) : 23 ≤ k.format.fractionBits := by cases k <;> decide

/-- The exponent of a bounded rung. -/
theorem ex_le {k : FloatKind} {N r : Nat} (h : r < N * k.format.binade) (h0 : r ≠ 0) :
    k.format.leastPlace + (pl k r : Int) + ((sig k r).log2 : Int) + (bias k : Int) + 1 ≤ N := by
  have hb := binade_pos k
  have hN : 1 ≤ N := by
    rcases Nat.eq_zero_or_pos N with e | e
    · subst e; simp at h
    · exact e
  rw [lp_bias]
  by_cases h1 : r < k.format.binade
  · have hl := log2_sig_small h0 h1
    have e0 : pl k r = 0 := by unfold pl; rw [if_pos h1]
    rw [e0]; omega
  · have hl := log2_sig_big h1
    have e0 : pl k r = r / k.format.binade - 1 := by unfold pl; rw [if_neg h1]
    have hq : r / k.format.binade < N := (Nat.div_lt_iff_lt_mul hb).2 h
    have hq1 : 1 ≤ r / k.format.binade := (Nat.le_div_iff_mul_le hb).2 (by omega)
    rw [e0, hl]; omega

/-- .. of a rung that is bounded below. -/
theorem ex_ge {k : FloatKind} {M r : Nat} (h : M * k.format.binade ≤ r) (hM : 1 ≤ M) :
    (M : Int) ≤ k.format.leastPlace + (pl k r : Int) + ((sig k r).log2 : Int) + (bias k : Int) := by
  have hb := binade_pos k
  have h1 : ¬ r < k.format.binade := by
    have : 1 * k.format.binade ≤ M * k.format.binade := Nat.mul_le_mul_right _ hM
    omega
  rw [lp_bias]
  have hl := log2_sig_big h1
  have e0 : pl k r = r / k.format.binade - 1 := by unfold pl; rw [if_neg h1]
  have hq : M ≤ r / k.format.binade := (Nat.le_div_iff_mul_le hb).2 h
  rw [e0, hl]; omega

/-- WHAT IS SMALL ROUNDS TO SOMETHING SMALL. -/
theorem nearest_le {k : FloatKind} (s : Bool) {m : Nat} {place : Int} {N : Nat} (hm : m ≠ 0) (h : place + (m.log2 : Int) + (bias k : Int) + 1 ≤ N) (hN : 2 ≤ N) :
    ∃ r, k.format.nearest s m place = k.format.word s r ∧ r ≤ N * k.format.binade ∧ r ≤ k.format.infRung := by
  unfold Format.nearest
  rw [if_neg hm]
  dsimp only
  generalize hlast : max (place + (m.log2 : Int) - (k.format.fractionBits : Int)) k.format.leastPlace = last
  have hlp := lp_bias k
  have hfb := fb_pos k
  have h1 : (last - k.format.leastPlace).toNat ≤ N - 2 := by omega
  have h2 : Toward.even.cut s (m <<< (place - last).toNat) (last - place).toNat ≤ 2 * k.format.binade := by
    rw [cut_even]
    have : 2 * k.format.binade = 2 ^ (k.format.fractionBits + 1) := by rw [Nat.pow_succ, ← binade_eq, Nat.mul_comm]
    rw [this]
    refine rne_le ?_
    rw [Nat.shiftLeft_eq]
    have hm2 : m < 2 ^ (m.log2 + 1) := Nat.lt_log2_self
    have : m * 2 ^ (place - last).toNat < 2 ^ (m.log2 + 1) * 2 ^ (place - last).toNat := Nat.mul_lt_mul_of_pos_right hm2 (Nat.two_pow_pos _)
    refine Nat.lt_of_lt_of_le this ?_
    rw [← Nat.pow_add]
    exact Nat.pow_le_pow_right (by decide) (by omega)
  refine ⟨_, rfl, ?_, Nat.min_le_right ..⟩
  refine Nat.le_trans (Nat.min_le_left ..) ?_
  have h3 : (last - k.format.leastPlace).toNat * k.format.binade ≤ (N - 2) * k.format.binade := Nat.mul_le_mul_right _ h1
  have h4 : N * k.format.binade = (N - 2) * k.format.binade + 2 * k.format.binade := by
    rw [← Nat.add_mul, show N - 2 + 2 = N by omega]
  omega

theorem bd_word {k : FloatKind} (s : Bool) {r N : Nat} (h : r ≤ N * k.format.binade) (hi : r ≤ k.format.infRung) : Bd k (N + 1) (k.format.word s r) := by
  have hb := binade_pos k
  have hlt : r < k.format.signWeight := Nat.lt_of_le_of_lt hi k.format.infRung_lt
  refine ⟨k.format.word_lt s hlt, ?_⟩
  rw [rung_word k s hlt, Nat.add_mul]; omega

theorem bd_nearest {k : FloatKind} (s : Bool) {m : Nat} {place : Int} {N : Nat} (h : m ≠ 0 → place + (m.log2 : Int) + (bias k : Int) + 1 ≤ N) (hN : 2 ≤ N) :
    Bd k (N + 1) (k.format.nearest s m place) := by
  by_cases hm : m = 0
  · subst hm
    have : k.format.nearest s 0 place = k.format.word s 0 := by simp [Format.nearest]
    rw [this]
    exact bd_word s (Nat.zero_le _) (Nat.zero_le _)
  · obtain ⟨r, e, h1, h2⟩ := nearest_le (k := k) s hm (h hm) hN
    rw [e]; exact bd_word s h1 h2

theorem log2_mul_le {a b : Nat} (ha : a ≠ 0) (hb : b ≠ 0) : (a * b).log2 ≤ a.log2 + b.log2 + 1 := by
  have h1 : a < 2 ^ (a.log2 + 1) := Nat.lt_log2_self
  have h2 : b < 2 ^ (b.log2 + 1) := Nat.lt_log2_self
  have h3 : a * b < 2 ^ (a.log2 + b.log2 + 2) := by
    calc a * b < 2 ^ (a.log2 + 1) * 2 ^ (b.log2 + 1) := Nat.mul_lt_mul'' h1 h2
      _ = 2 ^ (a.log2 + b.log2 + 2) := by rw [← Nat.pow_add]; congr 1; omega
  have := (Nat.log2_lt (Nat.mul_ne_zero ha hb)).2 h3
  omega

theorem read_bd {k : FloatKind} {N u : Nat} (h : Bd k N u) (hN : N ≤ 2 * bias k + 1) : k.format.read u = .number (sgn k u) (sig k (rung k u)) (k.format.leastPlace + (pl k (rung k u) : Int)) := read_fin (h.fin hN)

theorem sig_ne {k : FloatKind} {r : Nat} (h : sig k r ≠ 0) : r ≠ 0 := by
  intro e; subst e; apply h; unfold sig; rw [if_pos (binade_pos k)]

/-- '*' -/
theorem Bd.mul {k : FloatKind} {N M u v : Nat} (hu : Bd k N u) (hv : Bd k M v) (hN : N ≤ 2 * bias k + 1) (hM : M ≤ 2 * bias k + 1) (K : Nat) (hK : N + M ≤ K + bias k) (h2 : 2 ≤ K) :
    Bd k (K + 1) (fbin .mul k u v) := by
  unfold fbin floatBits Format.mul
  simp only [read_bd hu hN, read_bd hv hM, Datum.product, Option.map_some, Option.getD_some]
  refine bd_nearest (k := k) _ (fun hm => ?_) h2
  have a1 : sig k (rung k u) ≠ 0 := fun e => hm (by rw [e, Nat.zero_mul])
  have a2 : sig k (rung k v) ≠ 0 := fun e => hm (by rw [e, Nat.mul_zero])
  have b1 := ex_le hu.2 (sig_ne a1)
  have b2 := ex_le hv.2 (sig_ne a2)
  have b3 := log2_mul_le a1 a2
  omega

theorem signed_abs_lt {s : Bool} {m n j : Nat} (h : m * 2 ^ n < 2 ^ j) : (signed s m n).natAbs < 2 ^ j := by
  rw [signed_sm]; unfold sm
  cases s <;> simp <;> exact h

theorem lt_pow_log2 {m n j : Nat} (h : m ≠ 0 → m.log2 + 1 + n ≤ j) : m * 2 ^ n < 2 ^ j := by
  by_cases hm : m = 0
  · subst hm; rw [Nat.zero_mul]; exact Nat.two_pow_pos _
  · have h1 : m < 2 ^ (m.log2 + 1) := Nat.lt_log2_self
    refine Nat.lt_of_lt_of_le (Nat.mul_lt_mul_of_pos_right h1 (Nat.two_pow_pos n)) ?_
    rw [← Nat.pow_add]
    exact Nat.pow_le_pow_right (by decide) (h hm)

theorem bd_sum {k : FloatKind} {N : Nat} {s t : Bool} {m n : Nat} {i j : Int} (h1 : m ≠ 0 → i + (m.log2 : Int) + (bias k : Int) + 1 ≤ N) (h2 : n ≠ 0 → j + (n.log2 : Int) + (bias k : Int) + 1 ≤ N) (h3 : 2 ≤ N) :
    Bd k (N + 2) (((Datum.sum (.number s m i) (.number t n j)).map k.format.write).getD (nanW k)) := by
  simp only [Datum.sum, Option.map_some, Option.getD_some]
  refine bd_nearest (k := k) (N := N + 1) _ (fun hm => ?_) (by omega)
  generalize hbase : min i j = base at *
  have hlp := lp_bias k
  have hfb := fb_pos k
  obtain ⟨J, hJ⟩ : ∃ J : Nat, (J : Int) = max 0 ((N : Int) - (bias k : Int) - base) := ⟨(max 0 ((N : Int) - (bias k : Int) - base)).toNat, by omega⟩
  have c1 : (signed s m (i - base).toNat).natAbs < 2 ^ J := signed_abs_lt (lt_pow_log2 fun h => by have := h1 h; omega)
  have c2 : (signed t n (j - base).toNat).natAbs < 2 ^ J := signed_abs_lt (lt_pow_log2 fun h => by have := h2 h; omega)
  generalize signed s m (i - base).toNat = a at *
  generalize signed t n (j - base).toNat = b at *
  have c3 : (a + b).natAbs < 2 ^ (J + 1) := by rw [Nat.pow_succ]; omega
  have c4 := (Nat.log2_lt hm).2 c3
  by_cases hpos : 0 ≤ (N : Int) - (bias k : Int) - base
  · omega
  · exfalso
    have : J = 0 := by omega
    subst this
    simp at c1 c2
    apply hm
    rw [c1, c2]; rfl

/-- '+' -/
theorem Bd.add {k : FloatKind} {N u v : Nat} (hu : Bd k N u) (hv : Bd k N v) (hN : N ≤ 2 * bias k + 1) (h2 : 2 ≤ N) : Bd k (N + 2) (fbin .add k u v) := by
  unfold fbin floatBits Format.add
  simp only [read_bd hu hN, read_bd hv hN]
  exact bd_sum (fun h => ex_le hu.2 (sig_ne h)) (fun h => ex_le hv.2 (sig_ne h)) h2
/-- '-' -/
theorem Bd.sub {k : FloatKind} {N u v : Nat} (hu : Bd k N u) (hv : Bd k N v) (hN : N ≤ 2 * bias k + 1) (h2 : 2 ≤ N) : Bd k (N + 2) (fbin .sub k u v) := by
  unfold fbin floatBits Format.sub
  simp only [read_bd hu hN, read_bd hv hN, Datum.opposite]
  exact bd_sum (fun h => ex_le hu.2 (sig_ne h)) (fun h => ex_le hv.2 (sig_ne h)) h2

/-- '/' by something that is not small. -/
theorem Bd.div {k : FloatKind} {N M L u v : Nat} (hu : Bd k N u) (hv : Bd k L v) (hl : Lo k M v) (hN : N ≤ 2 * bias k + 1) (hL : L ≤ 2 * bias k + 1) (hM : 1 ≤ M) (K : Nat) (hK : N + bias k ≤ K + M) (h2 : 2 ≤ K) :
    Bd k (K + 1) (fbin .quo k u v) := by
  have hb := binade_pos k
  unfold fbin floatBits Format.div
  simp only [read_bd hu hN, read_bd hv hL, Datum.quotient]
  have hv0 : rung k v ≠ 0 := by
    have : 1 * k.format.binade ≤ M * k.format.binade := Nat.mul_le_mul_right _ hM
    have := hl; unfold Lo at this; omega
  have hn0 : sig k (rung k v) ≠ 0 := sig_pos hv0
  rw [if_neg hn0]
  dsimp only [Option.map_some, Option.getD_some]
  refine bd_nearest (k := k) _ (fun hm => ?_) h2
  have hfb := fb_pos k
  have b2 := ex_ge hl hM
  by_cases hu0 : rung k u = 0
  · exfalso; apply hm
    have : sig k (rung k u) = 0 := by rw [hu0]; unfold sig; rw [if_pos hb]
    rw [this]; simp
  · have b1 := ex_le hu.2 hu0
    have hm0 : sig k (rung k u) ≠ 0 := sig_pos hu0
    have hsl : (sig k (rung k u)).log2 ≤ k.format.fractionBits := by
      by_cases h1 : rung k u < k.format.binade
      · exact Nat.le_of_lt (log2_sig_small hu0 h1)
      · exact Nat.le_of_eq (log2_sig_big h1)
    generalize sig k (rung k u) = m at *
    generalize sig k (rung k v) = n at *
    generalize hmore : k.format.fractionBits + 2 + n.log2 - m.log2 = more at *
    have d1 : m <<< more < 2 ^ (k.format.fractionBits + 2 + n.log2 + 1) := by
      rw [Nat.shiftLeft_eq]
      exact lt_pow_log2 fun _ => by omega
    have d2 : (m <<< more) / n < 2 ^ (k.format.fractionBits + 3) := by
      rw [Nat.div_lt_iff_lt_mul (Nat.pos_of_ne_zero hn0)]
      refine Nat.lt_of_lt_of_le d1 ?_
      have : 2 ^ n.log2 ≤ n := Nat.log2_self_le hn0
      calc 2 ^ (k.format.fractionBits + 2 + n.log2 + 1) = 2 ^ (k.format.fractionBits + 3) * 2 ^ n.log2 := by rw [← Nat.pow_add]; congr 1; omega
        _ ≤ _ := Nat.mul_le_mul_left _ this
    have d3 : 2 * ((m <<< more) / n) + ((m <<< more) % n != 0).toNat < 2 ^ (k.format.fractionBits + 4) := by
      rw [Nat.pow_succ]
      have : ((m <<< more) % n != 0).toNat ≤ 1 := by cases ((m <<< more) % n != 0) <;> decide
      omega
    have d4 := (Nat.log2_lt hm).2 d3
    omega

/-! ### Bounds from below, signs -/

theorem rne_ge {n d j : Nat} (h : 2 ^ (j + d) ≤ n) : 2 ^ j ≤ rne n d := by
  have : 2 ^ j ≤ n / 2 ^ d := by
    rw [Nat.le_div_iff_mul_le (Nat.two_pow_pos _), ← Nat.pow_add]; exact h
  unfold rne
  omega

theorem nearest_ge {k : FloatKind} (s : Bool) {m : Nat} {place : Int} {M : Nat} (hm : m ≠ 0) (h : (M : Int) ≤ place + (m.log2 : Int) + (bias k : Int)) (hM : 1 ≤ M) (hM2 : M ≤ 2 * bias k + 1) :
    ∃ r, k.format.nearest s m place = k.format.word s r ∧ M * k.format.binade ≤ r ∧ r ≤ k.format.infRung := by
  unfold Format.nearest
  rw [if_neg hm]
  dsimp only
  have hlp := lp_bias k
  have hfb := fb_pos k
  have hlast : max (place + (m.log2 : Int) - (k.format.fractionBits : Int)) k.format.leastPlace = place + (m.log2 : Int) - (k.format.fractionBits : Int) := by omega
  rw [hlast]
  generalize hl : place + (m.log2 : Int) - (k.format.fractionBits : Int) = last
  have h1 : M - 1 ≤ (last - k.format.leastPlace).toNat := by omega
  have h2 : k.format.binade ≤ Toward.even.cut s (m <<< (place - last).toNat) (last - place).toNat := by
    rw [cut_even, binade_eq]
    refine rne_ge ?_
    rw [Nat.shiftLeft_eq]
    have hm2 : 2 ^ m.log2 ≤ m := Nat.log2_self_le hm
    refine Nat.le_trans ?_ (Nat.mul_le_mul_right _ hm2)
    rw [← Nat.pow_add]
    exact Nat.pow_le_pow_right (by decide) (by omega)
  refine ⟨_, rfl, ?_, Nat.min_le_right ..⟩
  have h3 : (M - 1) * k.format.binade ≤ (last - k.format.leastPlace).toNat * k.format.binade := Nat.mul_le_mul_right _ h1
  have h4 : M * k.format.binade = (M - 1) * k.format.binade + k.format.binade := by
    rw [← Nat.succ_mul, show (M - 1).succ = M by omega]
  have h5 : M * k.format.binade ≤ k.format.infRung := by rw [inf_bias]; exact Nat.mul_le_mul_right _ hM2
  rw [Nat.le_min]
  exact ⟨by omega, h5⟩

theorem sgn_nearest (k : FloatKind) (s : Bool) (m : Nat) (place : Int) : sgn k (k.format.nearest s m place) = s := by
  have hi := k.format.infRung_lt
  unfold Format.nearest
  dsimp only
  split
  · exact sgn_word k s (Nat.lt_of_le_of_lt (Nat.zero_le _) hi)
  · exact sgn_word k s (Nat.lt_of_le_of_lt (Nat.min_le_right ..) hi)

theorem sgn_mul {k : FloatKind} {N M u v : Nat} (hu : Bd k N u) (hv : Bd k M v) (hN : N ≤ 2 * bias k + 1) (hM : M ≤ 2 * bias k + 1) : sgn k (fbin .mul k u v) = (sgn k u ^^ sgn k v) := by
  unfold fbin floatBits Format.mul
  simp only [read_bd hu hN, read_bd hv hM, Datum.product, Option.map_some, Option.getD_some]
  exact sgn_nearest k _ _ _

/-- A sum of two numbers that are not negative. -/
theorem add_pos {k : FloatKind} {N M L u v : Nat} (hu : Bd k N u) (hv : Bd k L v) (hN : N ≤ 2 * bias k + 1) (hL : L ≤ 2 * bias k + 1) (su : sgn k u = false) (sv : sgn k v = false) (hl : Lo k M v) (hM : 1 ≤ M) (hM2 : M ≤ 2 * bias k + 1) :
    Lo k M (fbin .add k u v) ∧ sgn k (fbin .add k u v) = false := by
  have hb := binade_pos k
  unfold fbin floatBits Format.add
  simp only [read_bd hu hN, read_bd hv hL, Datum.sum, Option.map_some, Option.getD_some, su, sv]
  have hv0 : rung k v ≠ 0 := by
    have : 1 * k.format.binade ≤ M * k.format.binade := Nat.mul_le_mul_right _ hM
    have := hl; unfold Lo at this; omega
  have hn0 : sig k (rung k v) ≠ 0 := sig_pos hv0
  have b2 := ex_ge hl hM
  generalize sig k (rung k u) = m at *
  generalize sig k (rung k v) = n at *
  generalize k.format.leastPlace + (pl k (rung k u) : Int) = i at *
  generalize k.format.leastPlace + (pl k (rung k v) : Int) = j at *
  rw [signed_sm, signed_sm]
  have e : sm false (m * 2 ^ (i - min i j).toNat) + sm false (n * 2 ^ (j - min i j).toNat) = ((m * 2 ^ (i - min i j).toNat + n * 2 ^ (j - min i j).toNat : Nat) : Int) := by
    unfold sm; simp
  rw [e]
  have hnp : 0 < n * 2 ^ (j - min i j).toNat := Nat.mul_pos (Nat.pos_of_ne_zero hn0) (Nat.two_pow_pos _)
  have hlog : n.log2 + (j - min i j).toNat ≤ (m * 2 ^ (i - min i j).toNat + n * 2 ^ (j - min i j).toNat).log2 := by
    rw [Nat.le_log2 (by omega)]
    rw [Nat.pow_add]
    have : 2 ^ n.log2 ≤ n := Nat.log2_self_le hn0
    have := Nat.mul_le_mul_right (2 ^ (j - min i j).toNat) this
    omega
  rw [if_neg (by omega)]
  have ht0 : m * 2 ^ (i - min i j).toNat + n * 2 ^ (j - min i j).toNat ≠ 0 := by omega
  generalize m * 2 ^ (i - min i j).toNat + n * 2 ^ (j - min i j).toNat = t at *
  have hsn : decide ((t : Int) < 0) = false := by simp
  rw [hsn, Int.natAbs_natCast]
  obtain ⟨r, e1, e2, e3⟩ := nearest_ge (k := k) false (m := t) (place := min i j) (M := M) ht0 (by omega) hM hM2
  show Lo k M (k.format.nearest _ _ _) ∧ sgn k (k.format.nearest _ _ _) = false
  rw [e1]
  have hlt := Nat.lt_of_le_of_lt e3 k.format.infRung_lt
  refine ⟨?_, sgn_word k _ hlt⟩
  unfold Lo
  rw [rung_word k _ hlt]; exact e2

/-! ### Roots -/

theorem rootFrom_lt (n : Nat) : ∀ todo root, Datum.rootFrom n todo root < root + 2 ^ todo
  | 0, root => by unfold Datum.rootFrom; simp
  | todo + 1, root => by
    unfold Datum.rootFrom
    dsimp only
    have h := Nat.pow_succ (n := 2) (m := todo)
    have hp : 0 < 2 ^ todo := Nat.two_pow_pos _
    split
    · have := rootFrom_lt n todo (root + 1 <<< todo)
      rw [Nat.one_shiftLeft] at *
      omega
    · have := rootFrom_lt n todo root
      omega

theorem isN_sqrt {x r : Nat} (h : FloatKind.f64.format.sqrt x = some r) : isN .f64 r = false := by
  unfold Format.sqrt at h
  exact isN_map_write .f64 (fun _ => root_notNaN) h

/-- The root of a bounded number that is not negative (or is a zero). -/
theorem Bd.sqrt {N u : Nat} (hu : Bd .f64 N u) (hN : N ≤ 2047) (hs : sgn .f64 u = false) (K : Nat) (hK : N + 1028 ≤ 2 * K) (h2 : 2 ≤ K) : Bd .f64 (K + 1) (fsqrt u) ∧ sgn .f64 (fsqrt u) = false := by
  unfold fsqrt Format.sqrt
  simp only [read_bd (k := .f64) hu hN, Datum.root, hs]
  by_cases h0 : sig .f64 (rung .f64 u) = 0
  · rw [if_pos h0, h0]
    simp only [Option.map_some, Option.getD_some]
    exact ⟨bd_nearest (k := .f64) false (fun h => absurd rfl h) h2, sgn_nearest ..⟩
  · rw [if_neg h0, if_neg (by decide)]
    simp only [Option.map_some, Option.getD_some]
    refine ⟨bd_nearest (k := .f64) false (fun hm => ?_) h2, sgn_nearest ..⟩
    have hr0 := sig_ne h0
    have b1 := ex_le hu.2 hr0
    have hsl : (sig .f64 (rung .f64 u)).log2 ≤ FloatKind.f64.format.fractionBits := by
      by_cases h1 : rung .f64 u < FloatKind.f64.format.binade
      · exact Nat.le_of_lt (log2_sig_small hr0 h1)
      · exact Nat.le_of_eq (log2_sig_big h1)
    rw [fb64] at *
    generalize FloatKind.f64.format.leastPlace + (pl .f64 (rung .f64 u) : Int) = i at *
    generalize sig .f64 (rung .f64 u) = m at *
    have hbias : bias .f64 = 1023 := rfl
    generalize hmore : 2 * (52 + 2) - m.log2 = more0 at *
    generalize hm1 : more0 + ((i - (more0 : Int)) % 2).toNat = more at *
    have hm2 : more ≤ more0 + 1 := by omega
    have hm3 : more0 ≤ more := by omega
    have d1 : (m <<< more).log2 = m.log2 + more := by rw [Nat.shiftLeft_eq, log2_scale h0]
    have d2 := rootFrom_lt (m <<< more) ((m <<< more).log2 / 2 + 1) 0
    rw [Nat.zero_add] at d2
    generalize Datum.rootFrom (m <<< more) ((m <<< more).log2 / 2 + 1) 0 = whole at *
    rw [d1] at d2
    have d3 : 2 ^ ((m.log2 + more) / 2 + 1) ≤ 2 ^ 55 := Nat.pow_le_pow_right (by decide) (by omega)
    have d4 : 2 * whole + (whole * whole != m <<< more).toNat < 2 ^ 56 := by
      have : (whole * whole != m <<< more).toNat ≤ 1 := by cases (whole * whole != m <<< more) <;> decide
      omega
    have d5 := (Nat.log2_lt hm).2 d4
    omega

/-! ### Conversions -/

/-- A 64-bit number below 2 ^ 127 narrows to something fixed. -/
theorem narrowOk_bd {N u : Nat} (hu : Bd .f64 N u) (hN : N ≤ 1150) : NarrowOk u := by
  intro s m e hr
  rw [read_bd (k := .f64) hu (by show N ≤ 2047; omega)] at hr
  cases hr
  show (FloatKind.f32.format.read (FloatKind.f32.format.nearest _ _ _)).isInfinity = false
  have hb : Bd .f32 255 (FloatKind.f32.format.nearest (sgn .f64 u) (sig .f64 (rung .f64 u)) (FloatKind.f64.format.leastPlace + (pl .f64 (rung .f64 u) : Int))) := by
    refine bd_nearest (k := .f32) (N := 254) _ (fun hm => ?_) (by decide)
    have b1 := ex_le hu.2 (sig_ne hm)
    have h1 : bias .f64 = 1023 := rfl
    have h2 : bias .f32 = 127 := rfl
    omega
  rw [read_bd hb (by decide)]; rfl

theorem wr_bd {r : Nat} (h : r < 2139095040) : wr r < 1151 * 4503599627370496 := by
  by_cases h0 : r = 0
  · subst h0; rw [wr_zero]; decide
  · by_cases h1 : r < 8388608
    · obtain ⟨_, _, _, _, _, _, h2⟩ := wr_sig h h0
      have := h2 h1; omega
    · unfold wr; rw [if_neg h0, if_neg h1]; omega

/-- A finite 32-bit number, widened. -/
theorem bd_fwide {u : Nat} (h : rung .f32 u < 2139095040) : Bd .f64 1151 (fwide u) := by
  have hn : isN .f32 u = false := notN_of_fin (by rw [inf32]; exact h)
  have hp := fwide_parts hn
  refine ⟨fwide_lt u, ?_⟩
  rw [hp.2.2.1, if_neg (by omega), bin64]
  exact wr_bd h

/-- An integer of 64 bits as a 64-bit number. -/
theorem bd_ofInt {n : Int} {N : Nat} (h : n.natAbs < 2 ^ N) (hN : N ≤ 1000) : Bd .f64 (N + 1024) (floatOfInt .f64 n) := by
  unfold floatOfInt FloatKind.nearest FloatKind.encode
  show Bd .f64 _ (FloatKind.f64.format.nearest _ _ _)
  refine bd_nearest (k := .f64) (N := N + 1023) _ (fun hm => ?_) (by omega)
  have := (Nat.log2_lt hm).2 h
  have h1 : bias .f64 = 1023 := rfl
  omega

end Go.Proofs.YtgfnchggflecgaaGreatDoor
