/-
  DECIMAL TEXTS THAT ARE READ, plain: what is read of a text. Own work; no condition beyond what each lemma names.
-/
import Derived.Test.YtgfnchggflecgaaGreatDoorTd
import Derived.Lib.ParseIntB
import Derived.Lib.ItoaMem
import Derived.Lib.ItoaLen
namespace Go.Proofs.YtgfnchggflecgaaGreatDoor
open Go.Lib
set_option linter.unusedVariables false

theorem dd_digit : ∀ (u : Nat), ∀ c ∈ decDigits u, 48 ≤ c.toNat ∧ c.toNat ≤ 57 := by
  intro u
  induction u using Nat.strongRecOn with
  | _ u ih =>
    intro c hc
    rw [dd_step u] at hc
    rcases List.mem_append.1 hc with h | h
    · by_cases h0 : u / 10 = 0
      · rw [if_pos h0] at h; cases h
      · rw [if_neg h0] at h
        exact ih (u / 10) (by omega) c h
    · rw [List.mem_singleton.1 h, UInt8.toNat_ofNat']
      have : 48 + u % 10 < 256 := by omega
      rw [Nat.mod_eq_of_lt this]
      omega
theorem dd_ne (u : Nat) : decDigits u ≠ [] := by
  intro h
  rw [dd_step u] at h
  simp at h
theorem dig_toNat (u : Nat) : (UInt8.ofNat (48 + u % 10)).toNat = 48 + u % 10 := by
  rw [UInt8.toNat_ofNat']
  exact Nat.mod_eq_of_lt (by omega)

/-- One digit more. -/
def pstep (M : Nat) (c : UInt8) : NumEnd Nat → NumEnd Nat
  | .ok a => parseUintM M a [c]
  | e => e
theorem parse_snoc (M : Nat) (c : UInt8) : ∀ (l : List UInt8) (a : Nat), parseUintM M a (l ++ [c]) = pstep M c (parseUintM M a l)
  | [], a => rfl
  | b :: l, a => by
    show parseUintM M a (b :: (l ++ [c])) = pstep M c (parseUintM M a (b :: l))
    unfold parseUintM
    by_cases h1 : 48 ≤ b.toNat ∧ b.toNat ≤ 57
    · rw [if_pos h1, if_pos h1]
      by_cases h2 : 1844674407370955162 ≤ a
      · rw [if_pos h2, if_pos h2]; rfl
      · rw [if_neg h2, if_neg h2]
        by_cases h3 : M < a * 10 + (b.toNat - 48)
        · rw [if_pos h3, if_pos h3]; rfl
        · rw [if_neg h3, if_neg h3]
          exact parse_snoc M c l _
    · rw [if_neg h1, if_neg h1]; rfl
theorem parse_digit (M a d : Nat) (hd : d < 10) (ha : a < 1844674407370955162) (hM : a * 10 + d ≤ M) : parseUintM M a [UInt8.ofNat (48 + d)] = .ok (a * 10 + d) := by
  have e : (UInt8.ofNat (48 + d)).toNat = 48 + d := by rw [UInt8.toNat_ofNat']; exact Nat.mod_eq_of_lt (by omega)
  unfold parseUintM
  rw [e, if_pos ⟨by omega, by omega⟩, if_neg (by omega), if_neg (by omega)]
  unfold parseUintM
  congr 1
  omega
theorem parse_dd (M : Nat) : ∀ (u : Nat), u ≤ M → u ≤ 9223372036854775808 → parseUintM M 0 (decDigits u) = .ok u := by
  intro u
  induction u using Nat.strongRecOn with
  | _ u ih =>
    intro hM hu
    rw [dd_step u]
    have hd := Nat.div_add_mod u 10
    by_cases h0 : u / 10 = 0
    · rw [if_pos h0, List.nil_append, parse_digit M 0 (u % 10) (by omega) (by omega) (by omega)]
      congr 1
      omega
    · rw [if_neg h0, parse_snoc, ih (u / 10) (by omega) (by omega) (by omega)]
      show parseUintM M (u / 10) [_] = _
      rw [parse_digit M (u / 10) (u % 10) (by omega) (by omega) (by omega)]
      congr 1
      omega
theorem parseB_dd (u : Nat) (hu : u ≤ 9223372036854775808) : parseUintB 64 (decDigits u) = .ok u := by
  unfold parseUintB
  rw [if_neg (dd_ne u)]
  exact parse_dd _ u (by omega) hu
/-- What is written is read back. -/
theorem parse_itoa (n : Int) (h0 : -9223372036854775808 ≤ n) (h1 : n ≤ 9223372036854775807) : parseIntB 64 (itoa n) = .ok n := by
  by_cases hneg : n < 0
  · obtain ⟨u, rfl⟩ : ∃ u : Nat, n = -(u : Int) := ⟨n.natAbs, by omega⟩
    rw [itoa_neg u (by omega)]
    unfold parseIntB
    simp only [show (45 : UInt8).toNat = 45 from rfl, or_true, if_true]
    rw [parseB_dd u (by omega)]
    simp only [not_true_eq_false, false_and, if_false, true_and]
    rw [if_neg (by omega)]
  · obtain ⟨u, rfl⟩ : ∃ u : Nat, n = u := ⟨n.toNat, by omega⟩
    rw [itoa_nonneg]
    obtain ⟨c, r, hcr⟩ := List.exists_cons_of_ne_nil (dd_ne u)
    have hc := dd_digit u c (by rw [hcr]; exact List.mem_cons_self ..)
    have hp := parseB_dd u (by omega)
    rw [hcr] at hp ⊢
    unfold parseIntB
    simp only []
    rw [if_neg (by omega), hp]
    simp only []
    rw [if_neg (by omega), if_neg (by omega), if_neg (by omega)]

/-- What is read of a text. -/
def rd (l : List UInt8) : Option Int := match parseIntB 64 l with
  | .ok v => if inV v && decide (itoa v = l) then some v else none
  | _ => none
theorem rd_some {l : List UInt8} {v : Int} (h : rd l = some v) : inV v = true ∧ itoa v = l := by
  unfold rd at h
  split at h
  · split at h
    · rename_i hc
      cases h
      rw [Bool.and_eq_true] at hc
      exact ⟨hc.1, of_decide_eq_true hc.2⟩
    · cases h
  · cases h
theorem rd_itoa {v : Int} (h : inV v = true) : rd (itoa v) = some v := by
  have hb := inV_bounds h
  unfold rd
  rw [parse_itoa v (by omega) (by omega)]
  simp [h]

/-! ### The reference's way -/
def isD (c : UInt8) : Bool := decide (48 ≤ c.toNat) && decide (c.toNat ≤ 57)
def dgs (l : List UInt8) : Nat := l.foldl (fun n c => if isD c then 10 * n + (c.toNat - 48) else n) 0
theorem dgs_snoc (l : List UInt8) (c : UInt8) : dgs (l ++ [c]) = if isD c then 10 * dgs l + (c.toNat - 48) else dgs l := by
  unfold dgs
  rw [List.foldl_append]
  rfl
theorem dgs_lt (l : List UInt8) : dgs l < 10 ^ l.length := by
  have h : ∀ (r : List UInt8), dgs r.reverse < 10 ^ r.length := by
    intro r
    induction r with
    | nil => decide
    | cons c t ih =>
      rw [List.reverse_cons, dgs_snoc, List.length_cons, Nat.pow_succ]
      split
      · rename_i hc
        unfold isD at hc
        simp only [Bool.and_eq_true, decide_eq_true_eq] at hc
        omega
      · omega
  have := h l.reverse
  simpa using this
theorem dgs_dd : ∀ (u : Nat), dgs (decDigits u) = u := by
  intro u
  induction u using Nat.strongRecOn with
  | _ u ih =>
    rw [dd_step u, dgs_snoc, dig_toNat]
    have hd : isD (UInt8.ofNat (48 + u % 10)) = true := by
      unfold isD
      rw [dig_toNat]
      simp
      omega
    rw [if_pos hd]
    by_cases h0 : u / 10 = 0
    · rw [if_pos h0]
      show 10 * 0 + _ = u
      omega
    · rw [if_neg h0, ih (u / 10) (by omega)]
      omega
/-- The number that the reference reckons. -/
def spN (l : List UInt8) : Int := if l.head? = some 45 then -(dgs l : Int) else dgs l
theorem spN_itoa (v : Int) (h : inV v = true) : spN (itoa v) = v := by
  by_cases hneg : v < 0
  · obtain ⟨u, rfl⟩ : ∃ u : Nat, v = -(u : Int) := ⟨v.natAbs, by omega⟩
    rw [itoa_neg u (by omega)]
    unfold spN
    rw [if_pos (show (45 :: decDigits u).head? = some 45 from rfl)]
    have e : dgs (45 :: decDigits u) = dgs (decDigits u) := rfl
    rw [e, dgs_dd]
  · obtain ⟨u, rfl⟩ : ∃ u : Nat, v = u := ⟨v.toNat, by omega⟩
    rw [itoa_nonneg]
    unfold spN
    obtain ⟨c, r, hcr⟩ := List.exists_cons_of_ne_nil (dd_ne u)
    have hc := dd_digit u c (by rw [hcr]; exact List.mem_cons_self ..)
    rw [if_neg, dgs_dd]
    rw [hcr]
    intro e
    cases e
    exact absurd hc.1 (by decide)
theorem nd16 {u : Nat} (h : u ≤ 1000000000000000) : nDigits u ≤ 16 := by
  refine Nat.le_of_not_lt fun hh => ?_
  have hk : ∀ (k u : Nat), k < nDigits u → 10 ^ k ≤ u ∨ k = 0 := by
    intro k
    induction k with
    | zero => intro u _; exact Or.inr rfl
    | succ k ih =>
      intro u hu
      by_cases h10 : u < 10
      · rw [nDigits_small h10] at hu; omega
      · rw [nDigits_big h10] at hu
        left
        rcases ih (u / 10) (by omega) with h1 | h1
        · rw [Nat.pow_succ]; omega
        · subst h1; omega
  rcases hk 16 u hh with h1 | h1
  · have : (10 : Nat) ^ 16 = 10000000000000000 := by decide
    omega
  · omega
theorem itoa_len17 {v : Int} (h : inV v = true) : 1 ≤ (itoa v).length ∧ (itoa v).length ≤ 17 := by
  have hb := inV_bounds h
  by_cases hneg : v < 0
  · obtain ⟨u, rfl⟩ : ∃ u : Nat, v = -(u : Int) := ⟨v.natAbs, by omega⟩
    rw [itoa_neg u (by omega), List.length_cons, decDigits_length]
    have := nd16 (u := u) (by omega)
    omega
  · obtain ⟨u, rfl⟩ : ∃ u : Nat, v = u := ⟨v.toNat, by omega⟩
    rw [itoa_nonneg, decDigits_length]
    have := nd16 (u := u) (by omega)
    have := nDigits_pos u
    omega
/-- The reference's answer. -/
theorem rd_spec (l : List UInt8) (hl : 1 ≤ l.length ∧ l.length ≤ 17) : rd l = if inV (spN l) && decide (itoa (spN l) = l) then some (spN l) else none := by
  split
  · rename_i h
    rw [Bool.and_eq_true] at h
    have e := of_decide_eq_true h.2
    have h2 := rd_itoa h.1
    rw [e] at h2
    exact h2
  · rename_i h
    cases hr : rd l with
    | none => rfl
    | some v =>
      exfalso
      obtain ⟨h1, h2⟩ := rd_some hr
      apply h
      have e : spN l = v := by rw [← h2]; exact spN_itoa v h1
      rw [e, h1, h2]
      simp
theorem rd_short (l : List UInt8) (hl : ¬ (1 ≤ l.length ∧ l.length ≤ 17)) : rd l = none := by
  cases hr : rd l with
  | none => rfl
  | some v =>
    exfalso
    obtain ⟨h1, h2⟩ := rd_some hr
    rw [← h2] at hl
    exact hl (itoa_len17 h1)
end Go.Proofs.YtgfnchggflecgaaGreatDoor
