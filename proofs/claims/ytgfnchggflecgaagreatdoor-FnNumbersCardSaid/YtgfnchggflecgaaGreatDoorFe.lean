/-
  FLOATS IN A WALK, more: widening without a premise, the opposite, comparisons as signed rungs.
  Own work; no condition beyond what each lemma names.
-/
import Derived.Test.YtgfnchggflecgaaGreatDoorFb
namespace Go.Proofs.YtgfnchggflecgaaGreatDoor
open Ieee

theorem wide_ok {u : Nat} (s : Bool) (m : Nat) (e : Int) (hr : FloatKind.f32.format.read u = .number s m e) : (FloatKind.f64.format.read (FloatKind.f64.format.write (.number s m e))).isInfinity = false := by
  have hn : isN .f32 u = false := by unfold isN; rw [hr]; rfl
  have hp := fwide_parts hn
  have hw : fwide u = FloatKind.f64.format.write (.number s m e) := by unfold fwide; rw [if_neg (by simp [hn]), hr]
  have hl := notN hn
  rw [inf32] at hl
  by_cases h1 : rung .f32 u = 2139095040
  · rw [read_inf (by rw [inf32]; exact h1)] at hr; cases hr
  · rw [if_neg h1] at hp
    rw [← hw, read_fin (by rw [hp.2.2.1, inf64]; exact wr_lt (by omega))]; rfl

section
variable {P : Program} {w : World} {ops : Array Oper} {rest : List Oper} {o : Oper} {a : Act} {Q : Exit → Act → World → Prop}
theorem wpList_fwide (hw : Region.wanted o (yielded ops a.tmps) = true) (ts td : TypeId) (x : Operand) (hop : o.op = .convert ts td x) (bx : Nat) (hx : a.eval x = .float .f32 bx)
    (hs : (P.underlying ts).isSome = true) (hd : P.underlying td = some (.float .f64)) {u : Nat} (fx : Fl .f32 bx u)
    (hK : ∀ r n, Fl .f64 r (fwide u) → wpList P ops Q rest (a.put o.dst (.float .f64 r)) (w.drewN n)) : wpList P ops Q (o :: rest) a w :=
  wpList_fwide0 hw ts td x hop bx hx hs hd fx (fun s m e h => wide_ok s m e h) hK
end

/-! ### The opposite -/

theorem xor_pow_lt {r n : Nat} (h : r < 2 ^ n) : r ^^^ 2 ^ n = 2 ^ n + r := by
  refine Nat.eq_of_testBit_eq fun i => ?_
  rw [Nat.testBit_xor, Nat.testBit_two_pow]
  rcases Nat.lt_trichotomy i n with hi | hi | hi
  · rw [Nat.testBit_two_pow_add_gt hi]
    have hne : ¬ n = i := by omega
    simp [hne]
  · subst hi
    rw [Nat.testBit_two_pow_add_eq]
    simp
  · have h1 : r < 2 ^ i := Nat.lt_of_lt_of_le h (Nat.pow_le_pow_right (by decide) (by omega))
    have h2 : 2 ^ n + r < 2 ^ i := by
      have : 2 ^ (n + 1) ≤ 2 ^ i := Nat.pow_le_pow_right (by decide) hi
      rw [Nat.pow_succ] at this; omega
    rw [Nat.testBit_lt_two_pow h1, Nat.testBit_lt_two_pow h2]
    have hne : ¬ n = i := by omega
    simp [hne]

theorem negFloat_word (k : FloatKind) (s : Bool) {r : Nat} (h : r < k.format.signWeight) : Op.negFloat k (k.format.word s r) = k.format.word (!s) r := by
  unfold Op.negFloat Format.word
  have e : k.format.signWeight = 2 ^ (k.format.exponentBits + k.format.fractionBits) := rfl
  rw [e] at h ⊢
  cases s
  · simp only [Bool.not_false, if_true, Bool.false_eq_true, if_false]
    exact xor_pow_lt h
  · simp only [Bool.not_true, if_true, Bool.false_eq_true, if_false]
    rw [← xor_pow_lt h, Nat.xor_assoc, Nat.xor_self, Nat.xor_zero]

theorem negFloat_parts {k : FloatKind} {u : Nat} (h : u < 2 ^ k.format.width) : Op.negFloat k u = k.format.word (!sgn k u) (rung k u) := by
  have e := word_of h
  rw [e, negFloat_word k _ (rung_lt k u), ← e]

theorem isN_negFloat {k : FloatKind} {u : Nat} (h : u < 2 ^ k.format.width) : isN k (Op.negFloat k u) = isN k u := by
  have hr := rung_lt k u
  have e := negFloat_parts h
  have h1 := isN_iff k (Op.negFloat k u)
  have h2 := isN_iff k u
  rw [e, rung_word k _ hr, ← h2] at h1
  rw [e]
  cases hA : isN k u
  · cases hB : isN k (k.format.word (!sgn k u) (rung k u))
    · rfl
    · rw [h1] at hB; rw [hA] at hB; cases hB
  · exact h1.2 hA

theorem nanW_lt (k : FloatKind) : nanW k < 2 ^ k.format.width := by cases k <;> decide

theorem fl_neg {k : FloatKind} {x u : Nat} (hx : Fl k x u) : Fl k (Op.negFloat k x) (fneg k u) := by
  refine ⟨?_, ?_⟩
  · rw [negFloat_parts hx.lt]; exact k.format.word_lt _ (rung_lt k x)
  · unfold fneg
    cases hn : isN k u
    · rw [hx.word hn]
    · have h1 : isN k x = true := by rw [← hx.nanEq]; exact hn
      have hu : u < 2 ^ k.format.width := by
        have := hx.eq; rw [nf_nan h1] at this; rw [← this]; exact nanW_lt k
      rw [nf_nan (by rw [isN_negFloat hx.lt]; exact h1), nf_nan (by rw [isN_negFloat hu]; exact hn)]

/-- What stands for a word fits the kind. -/
theorem Fl.vlt {k : FloatKind} {x u : Nat} (hx : Fl k x u) : u < 2 ^ k.format.width := by
  cases hn : isN k u
  · rw [← hx.word hn]; exact hx.lt
  · have h1 : isN k x = true := by rw [← hx.nanEq]; exact hn
    have := hx.eq; rw [nf_nan h1] at this; rw [← this]; exact nanW_lt k

section
variable {P : Program} {w : World} {ops : Array Oper} {rest : List Oper} {o : Oper} {a : Act} {Q : Exit → Act → World → Prop}
theorem wpList_fneg (hw : Region.wanted o (yielded ops a.tmps) = true) (t : TypeId) (x : Operand) (hop : o.op = .unOp .neg t x) {k : FloatKind} (bx : Nat) (hx : a.eval x = .float k bx) {u : Nat} (fx : Fl k bx u)
    (hK : ∀ r, Fl k r (fneg k u) → wpList P ops Q rest (a.put o.dst (.float k r)) w) : wpList P ops Q (o :: rest) a w := by
  refine wpList_of_run hw (fun z w' => ∃ r, z = .float k r ∧ w' = w ∧ Fl k r (fneg k u)) ?_ ?_
  · refine ⟨.float k (Op.negFloat k bx), w, ?_, _, rfl, rfl, fl_neg fx⟩
    have e : execOp a.eval o = (do pure (.value (← Op.unary .neg (a.eval x)))) := by unfold execOp; rw [hop]
    rw [e, hx]
    simp only [Op.unary, Sem.run_bind, Sem.run_pure, Result.andThen]
  · rintro z w' ⟨r, rfl, rfl, h⟩
    exact hK r h
end

/-! ### Comparisons -/

theorem cmp_self {k : FloatKind} {u : Nat} (h : isN k u = false) : k.format.order u u = some .eq := by
  rw [order_key h h, compare_int (c := 0) (d := 0) (by omega) (by omega)]; rfl

theorem isN_ne {k : FloatKind} {u : Nat} : fcmp .neq k u u = isN k u := by
  cases h : isN k u
  · simp [fcmp, fne, cmp_self h]
  · simp [fcmp, fne, order_nan_left h]

theorem feq_self {k : FloatKind} {u : Nat} (h : isN k u = false) : fcmp .eql k u u = true := by simp [fcmp, feq, cmp_self h]

theorem compare_cases (a b : Int) : (compare a b = .lt ∧ a < b) ∨ (compare a b = .eq ∧ a = b) ∨ (compare a b = .gt ∧ b < a) := by
  have e : compare a b = compareOfLessAndEq a b := rfl
  rw [e]; unfold compareOfLessAndEq
  by_cases h1 : a < b
  · rw [if_pos h1]; exact .inl ⟨rfl, h1⟩
  · rw [if_neg h1]
    by_cases h2 : a = b
    · rw [if_pos h2]; exact .inr (.inl ⟨rfl, h2⟩)
    · rw [if_neg h2]; exact .inr (.inr ⟨rfl, by omega⟩)

section
variable {k : FloatKind} {u v : Nat} (hu : isN k u = false) (hv : isN k v = false)
include hu hv
theorem flt_key : fcmp .lss k u v = decide (key k u < key k v) := by
  simp only [fcmp, flt, order_key hu hv]
  rcases compare_cases (key k u) (key k v) with ⟨h, h'⟩ | ⟨h, h'⟩ | ⟨h, h'⟩ <;> rw [h] <;> first | exact (decide_eq_true (by omega)).symm | exact (decide_eq_false (by omega)).symm
theorem fgt_key : fcmp .gtr k u v = decide (key k v < key k u) := by
  simp only [fcmp, fgt, order_key hu hv]
  rcases compare_cases (key k u) (key k v) with ⟨h, h'⟩ | ⟨h, h'⟩ | ⟨h, h'⟩ <;> rw [h] <;> first | exact (decide_eq_true (by omega)).symm | exact (decide_eq_false (by omega)).symm
theorem fle_key : fcmp .leq k u v = decide (key k u ≤ key k v) := by
  simp only [fcmp, fle, order_key hu hv]
  rcases compare_cases (key k u) (key k v) with ⟨h, h'⟩ | ⟨h, h'⟩ | ⟨h, h'⟩ <;> rw [h] <;> first | exact (decide_eq_true (by omega)).symm | exact (decide_eq_false (by omega)).symm
theorem fge_key : fcmp .geq k u v = decide (key k v ≤ key k u) := by
  simp only [fcmp, fge, order_key hu hv]
  rcases compare_cases (key k u) (key k v) with ⟨h, h'⟩ | ⟨h, h'⟩ | ⟨h, h'⟩ <;> rw [h] <;> first | exact (decide_eq_true (by omega)).symm | exact (decide_eq_false (by omega)).symm
theorem feq_key : fcmp .eql k u v = decide (key k u = key k v) := by
  simp only [fcmp, feq, order_key hu hv]
  rcases compare_cases (key k u) (key k v) with ⟨h, h'⟩ | ⟨h, h'⟩ | ⟨h, h'⟩ <;> rw [h] <;> first | exact (decide_eq_true (by omega)).symm | exact (decide_eq_false (by omega)).symm
theorem fne_key : fcmp .neq k u v = decide (key k u ≠ key k v) := by
  simp only [fcmp, fne, order_key hu hv]
  rcases compare_cases (key k u) (key k v) with ⟨h, h'⟩ | ⟨h, h'⟩ | ⟨h, h'⟩ <;> rw [h] <;> first | exact (decide_eq_true (by omega)).symm | exact (decide_eq_false (by omega)).symm
end

theorem fcmp_nan_left {op : BinOp} (hop : op ≠ .neq) {k : FloatKind} {u : Nat} (h : isN k u = true) (v : Nat) : fcmp op k u v = false := by
  cases op <;> simp [fcmp, feq, flt, fle, fgt, fge, order_nan_left h] at hop ⊢
theorem fcmp_nan_right {op : BinOp} (hop : op ≠ .neq) {k : FloatKind} {v : Nat} (h : isN k v = true) (u : Nat) : fcmp op k u v = false := by
  cases op <;> simp [fcmp, feq, flt, fle, fgt, fge, order_nan_right h] at hop ⊢

/-- Two words of one key and one sign are one. -/
theorem key_inj {k : FloatKind} {u v : Nat} (hu : u < 2 ^ k.format.width) (hv : v < 2 ^ k.format.width) (hk : key k u = key k v) (hs : sgn k u = sgn k v) : u = v := by
  rw [word_of hu, word_of hv, hs]
  unfold key sm at hk
  rw [hs] at hk
  congr 1
  cases hc : sgn k v <;> rw [hc] at hk <;> simp at hk <;> omega
end Go.Proofs.YtgfnchggflecgaaGreatDoor
