/-
  FLOATS IN A WALK: a word of a float kind up to the bits of a NaN ('Fl'), pure functions on such words, and the laws by which the walk takes a float operation whose NaN bits the tape picks.
  Own work; no condition beyond what each law names.
-/
import Derived.WalkKit
import Derived.WalkLawsBesides
import Derived.Deep.Draws
import Derived.WalkSmall
namespace Go.Proofs.YtgfnchggflecgaaGreatDoor
open Ieee

/-- The one NaN that stands for all. -/
def nanW : FloatKind → Nat
  | .f32 => 2143289344
  | .f64 => 9221120237041090560

/-- Is this word a NaN? -/
def isN (k : FloatKind) (b : Nat) : Bool := (k.format.read b).isNaN

/-- A word with every NaN made one. -/
def nf (k : FloatKind) (b : Nat) : Nat := if isN k b then nanW k else b

/-- The word r stands for v. -/
structure Fl (k : FloatKind) (r v : Nat) : Prop where
  lt : r < 2 ^ k.format.width
  eq : nf k r = v

theorem isN_nanW (k : FloatKind) : isN k (nanW k) = true := by cases k <;> decide

theorem nf_nan {k : FloatKind} {b : Nat} (h : isN k b = true) : nf k b = nanW k := by simp [nf, h]
theorem nf_not {k : FloatKind} {b : Nat} (h : isN k b = false) : nf k b = b := by simp [nf, h]
theorem isN_nf (k : FloatKind) (b : Nat) : isN k (nf k b) = isN k b := by
  cases h : isN k b
  · rw [nf_not h, h]
  · rw [nf_nan h, isN_nanW]
theorem nf_nf (k : FloatKind) (b : Nat) : nf k (nf k b) = nf k b := by
  cases h : isN k b
  · rw [nf_not h, nf_not h]
  · rw [nf_nan h, nf_nan (isN_nanW k)]

theorem Fl.canon {k : FloatKind} {r v : Nat} (h : Fl k r v) : nf k v = v := by rw [← h.eq, nf_nf]
theorem Fl.nanEq {k : FloatKind} {r v : Nat} (h : Fl k r v) : isN k v = isN k r := by rw [← h.eq, isN_nf]
theorem Fl.self {k : FloatKind} {r : Nat} (h : r < 2 ^ k.format.width) : Fl k r (nf k r) := ⟨h, rfl⟩
theorem Fl.lit {k : FloatKind} {r : Nat} (h : decide (r < 2 ^ k.format.width) = true) (h2 : isN k r = false) : Fl k r r := ⟨of_decide_eq_true h, nf_not h2⟩
/-- Not a NaN: the very word. -/
theorem Fl.word {k : FloatKind} {r v : Nat} (h : Fl k r v) (hn : isN k v = false) : r = v := by
  have h1 := h.eq
  rwa [nf_not (by rw [← h.nanEq]; exact hn)] at h1

/-- What is read of a word that is a NaN. -/
theorem read_nan {k : FloatKind} {b : Nat} (h : isN k b = true) : ∃ s t, k.format.read b = .nan s t := by
  unfold isN Datum.isNaN at h
  split at h
  · exact ⟨_, _, ‹_›⟩
  · cases h

theorem floatBits_nan_left {op : BinOp} {k : FloatKind} {x : Nat} (h : isN k x = true) (y : Nat) : floatBits op k x y = none := by
  obtain ⟨s, t, hr⟩ := read_nan h
  unfold floatBits
  cases op <;> simp only [Format.add, Format.sub, Format.mul, Format.div, hr] <;> rfl

theorem floatBits_nan_right {op : BinOp} {k : FloatKind} {y : Nat} (h : isN k y = true) (x : Nat) : floatBits op k x y = none := by
  obtain ⟨s, t, hr⟩ := read_nan h
  unfold floatBits
  cases op <;> simp only [Format.add, Format.sub, Format.mul, Format.div, hr, Datum.opposite] <;> cases k.format.read x <;> rfl

theorem floatBits_nf (op : BinOp) (k : FloatKind) (x y : Nat) : floatBits op k (nf k x) (nf k y) = floatBits op k x y := by
  cases hx : isN k x
  · rw [nf_not hx]
    cases hy : isN k y
    · rw [nf_not hy]
    · rw [nf_nan hy, floatBits_nan_right hy, floatBits_nan_right (isN_nanW k)]
  · rw [nf_nan hx, floatBits_nan_left hx, floatBits_nan_left (isN_nanW k)]

/-- A word whose rung is at most that of infinity is no NaN. -/
theorem isN_word (k : FloatKind) (neg : Bool) {rung : Nat} (h : rung ≤ k.format.infRung) : isN k (k.format.word neg rung) = false := by
  have hlt : rung < k.format.signWeight := Nat.lt_of_le_of_lt h k.format.infRung_lt
  have hpos : 0 < k.format.signWeight := Nat.two_pow_pos _
  have hm : k.format.word neg rung % k.format.signWeight = rung := by
    unfold Format.word
    split
    · rw [Nat.add_mod_left, Nat.mod_eq_of_lt hlt]
    · exact Nat.mod_eq_of_lt hlt
  unfold isN Format.read
  simp only [hm]
  split
  · rfl
  · split
    · rfl
    · split
      · rfl
      · omega

theorem isN_write (k : FloatKind) {d : Datum} (h : d.isNaN = false) : isN k (k.format.write d) = false := by
  cases d with
  | number s m e =>
    show isN k (k.format.nearest s m e) = false
    unfold Format.nearest
    dsimp only
    split
    · exact isN_word k s (Nat.zero_le _)
    · exact isN_word k s (Nat.min_le_right ..)
  | infinity s => exact isN_word k s (Nat.le_refl _)
  | nan s t => cases h

theorem sum_notNaN {d e r : Datum} (h : d.sum e = some r) : r.isNaN = false := by
  cases d <;> cases e <;> simp only [Datum.sum] at h <;> (try split at h) <;> first | (cases h; done) | (cases h; rfl)
theorem product_notNaN {d e r : Datum} (h : d.product e = some r) : r.isNaN = false := by
  cases d <;> cases e <;> simp only [Datum.product] at h <;> (try split at h) <;> first | (cases h; done) | (cases h; rfl)
theorem quotient_notNaN {n : Nat} {d e r : Datum} (h : d.quotient n e = some r) : r.isNaN = false := by
  cases d <;> cases e <;> simp only [Datum.quotient] at h <;> (try split at h) <;> (try split at h) <;> first | (cases h; done) | (cases h; rfl)
theorem root_notNaN {n : Nat} {d r : Datum} (h : d.root n = some r) : r.isNaN = false := by
  cases d <;> simp only [Datum.root] at h <;> (try split at h) <;> (try split at h) <;> first | (cases h; done) | (cases h; rfl)

theorem isN_map_write (k : FloatKind) {o : Option Datum} {r : Nat} (hn : ∀ d, o = some d → d.isNaN = false) (h : o.map k.format.write = some r) : isN k r = false := by
  cases o with
  | none => cases h
  | some d => cases h; exact isN_write k (hn d rfl)

theorem isN_floatBits {op : BinOp} {k : FloatKind} {x y r : Nat} (h : floatBits op k x y = some r) : isN k r = false := by
  unfold floatBits at h
  split at h
  · exact isN_map_write k (fun _ => sum_notNaN) h
  · exact isN_map_write k (fun _ => sum_notNaN) h
  · exact isN_map_write k (fun _ => product_notNaN) h
  · exact isN_map_write k (fun _ => quotient_notNaN) h
  · cases h

theorem floatBits_lt {op : BinOp} {k : FloatKind} {x y r : Nat} (h : floatBits op k x y = some r) : r < 2 ^ k.format.width := by
  unfold floatBits at h
  split at h
  · exact k.format.add_lt h
  · exact k.format.sub_lt h
  · exact k.format.mul_lt h
  · exact k.format.div_lt h
  · cases h

/-! ### The pure functions -/

/-- '+', '-', '*', '/' of a kind: the word of the result. -/
def fbin (op : BinOp) (k : FloatKind) (x y : Nat) : Nat := (floatBits op k x y).getD (nanW k)
/-- The square root of a 64-bit number. -/
def fsqrt (x : Nat) : Nat := (FloatKind.f64.format.sqrt x).getD (nanW .f64)
/-- The opposite. -/
def fneg (k : FloatKind) (x : Nat) : Nat := nf k (Op.negFloat k x)
/-- 'float64(x)' of a 32-bit number. -/
def fwide (x : Nat) : Nat := if isN .f32 x then nanW .f64 else FloatKind.f64.format.write (FloatKind.f32.format.read x)
/-- 'float32(x)' of a 64-bit number (where it is fixed: 'NarrowOk'). -/
def fnarrow (x : Nat) : Nat := if isN .f64 x then nanW .f32 else FloatKind.f32.format.write (FloatKind.f64.format.read x)
/-- 'float32(x)' is fixed: not a finite number that is too great. -/
def NarrowOk (x : Nat) : Prop := ∀ s m e, FloatKind.f64.format.read x = .number s m e → (FloatKind.f32.format.read (FloatKind.f32.format.write (.number s m e))).isInfinity = false
/-- comparisons -/
def feq (k : FloatKind) (x y : Nat) : Bool := k.format.order x y == some .eq
def flt (k : FloatKind) (x y : Nat) : Bool := k.format.order x y == some .lt
def fle (k : FloatKind) (x y : Nat) : Bool := k.format.order x y == some .lt || k.format.order x y == some .eq
def fgt (k : FloatKind) (x y : Nat) : Bool := k.format.order x y == some .gt
def fge (k : FloatKind) (x y : Nat) : Bool := k.format.order x y == some .gt || k.format.order x y == some .eq
def fne (k : FloatKind) (x y : Nat) : Bool := k.format.order x y != some .eq

theorem order_nan_left {k : FloatKind} {x : Nat} (h : isN k x = true) (y : Nat) : k.format.order x y = none := by
  obtain ⟨s, t, hr⟩ := read_nan h
  simp only [Format.order, hr]; rfl
theorem order_nan_right {k : FloatKind} {y : Nat} (h : isN k y = true) (x : Nat) : k.format.order x y = none := by
  obtain ⟨s, t, hr⟩ := read_nan h
  simp only [Format.order, hr]
  cases k.format.read x <;> rfl
theorem order_nf (k : FloatKind) (x y : Nat) : k.format.order (nf k x) (nf k y) = k.format.order x y := by
  cases hx : isN k x
  · rw [nf_not hx]
    cases hy : isN k y
    · rw [nf_not hy]
    · rw [nf_nan hy, order_nan_right hy, order_nan_right (isN_nanW k)]
  · rw [nf_nan hx, order_nan_left hx, order_nan_left (isN_nanW k)]
theorem order_fl {k : FloatKind} {x y u v : Nat} (hx : Fl k x u) (hy : Fl k y v) : k.format.order x y = k.format.order u v := by
  rw [← hx.eq, ← hy.eq, order_nf]

/-- What the tape picks for a NaN is a NaN of the kind. -/
theorem isN_cut_bits (k : FloatKind) (x y t : Nat) : isN k ((Question.nanBits k x y).cut t) = true ∧ (Question.nanBits k x y).cut t < 2 ^ k.format.width := by
  cases k
  · have h1 : (t / 2) % (2 ^ 23 - 1) < 2 ^ 23 - 1 := Nat.mod_lt _ (by decide)
    have h2 : t % 2 < 2 := Nat.mod_lt _ (by decide)
    have e : (Question.nanBits .f32 x y).cut t = (t % 2) * 2 ^ 31 + 0x7f800000 + 1 + (t / 2) % (2 ^ 23 - 1) := rfl
    rw [e]
    generalize (t / 2) % (2 ^ 23 - 1) = a at *
    generalize t % 2 = b at *
    have hw : FloatKind.f32.format.width = 32 := rfl
    have hs : FloatKind.f32.format.signWeight = 2147483648 := by decide
    have hb : FloatKind.f32.format.binade = 8388608 := by decide
    have hi : FloatKind.f32.format.infRung = 2139095040 := by decide
    refine ⟨?_, by rw [hw]; omega⟩
    unfold isN Format.read
    simp only [hs, hb, hi]
    rw [if_neg (by omega), if_neg (by omega), if_neg (by omega)]
    rfl
  · have h1 : (t / 2) % (2 ^ 52 - 1) < 2 ^ 52 - 1 := Nat.mod_lt _ (by decide)
    have h2 : t % 2 < 2 := Nat.mod_lt _ (by decide)
    have e : (Question.nanBits .f64 x y).cut t = (t % 2) * 2 ^ 63 + 0x7ff0000000000000 + 1 + (t / 2) % (2 ^ 52 - 1) := rfl
    rw [e]
    generalize (t / 2) % (2 ^ 52 - 1) = a at *
    generalize t % 2 = b at *
    have hw : FloatKind.f64.format.width = 64 := rfl
    have hs : FloatKind.f64.format.signWeight = 9223372036854775808 := by decide
    have hb : FloatKind.f64.format.binade = 4503599627370496 := by decide
    have hi : FloatKind.f64.format.infRung = 9218868437227405312 := by decide
    refine ⟨?_, by rw [hw]; omega⟩
    unfold isN Format.read
    simp only [hs, hb, hi]
    rw [if_neg (by omega), if_neg (by omega), if_neg (by omega)]
    rfl

theorem isN_cut_conv (k : FloatKind) (x t : Nat) : isN k ((Question.nanConv k x).cut t) = true ∧ (Question.nanConv k x).cut t < 2 ^ k.format.width := by
  have h := isN_cut_bits k x x t
  cases k <;> exact h

theorem run_choose_ask {P : Program} {q : Question} (h : q.forced = false) (w : World) : (choose q).run P w = .ok (q.cut (w.tape w.drawn q)) (w.drewN 1) := by
  simp [choose, Sem.run, h, World.drewN]

/-! ### The runs -/
section
variable {P : Program} (w : World)

theorem run_farith {op : BinOp} (hop : op = .add ∨ op = .sub ∨ op = .mul ∨ op = .quo) (t : TypeId) {k : FloatKind} {x y u v : Nat} (hx : Fl k x u) (hy : Fl k y v) :
    ∃ r n, (binOp op t (.float k x) (.float k y)).run P w = .ok (.float k r) (w.drewN n) ∧ Fl k r (fbin op k u v) := by
  have e : floatBits op k u v = floatBits op k x y := by rw [← hx.eq, ← hy.eq, floatBits_nf]
  cases h : floatBits op k x y with
  | some r =>
    refine ⟨r, 0, run_float_arith w op t k x y r h, floatBits_lt h, ?_⟩
    rw [nf_not (isN_floatBits h), fbin, e, h]; rfl
  | none =>
    refine ⟨(Question.nanBits k x y).cut (w.tape w.drawn (.nanBits k x y)), 1, ?_, (isN_cut_bits ..).2, ?_⟩
    · unfold floatBits at h
      rcases hop with rfl | rfl | rfl | rfl <;> simp only at h <;> (simp [binOp, Op.floatArith, h, Question.forced]; rfl)
    · rw [nf_nan (isN_cut_bits ..).1, fbin, e, h]; rfl

/-- '==', '!=', '<', '<=', '>', '>=' as one function. -/
def fcmp (op : BinOp) (k : FloatKind) (x y : Nat) : Bool :=
  match op with
  | .eql => feq k x y
  | .neq => fne k x y
  | .lss => flt k x y
  | .leq => fle k x y
  | .gtr => fgt k x y
  | .geq => fge k x y
  | _ => false

theorem run_fcmp {op : BinOp} (hop : op = .eql ∨ op = .neq ∨ op = .lss ∨ op = .leq ∨ op = .gtr ∨ op = .geq) (t : TypeId) {k : FloatKind} {x y u v : Nat} (hx : Fl k x u) (hy : Fl k y v) :
    (binOp op t (.float k x) (.float k y)).run P w = .ok (.bool (fcmp op k u v)) w := by
  have e := order_fl hx hy
  rcases hop with rfl | rfl | rfl | rfl | rfl | rfl <;> simp [binOp, Op.floatCmp, fcmp, feq, fne, flt, fle, fgt, fge, e]

theorem run_eqGuard_float (op : BinOp) (t : TypeId) (x y : Operand) (k k' : FloatKind) (a b : Nat) : (eqGuard op t x y (.float k a) (.float k' b)).run P w = .ok () w := by
  cases op <;> rfl
end

/-! ### The walk's laws -/
section
variable {P : Program} {w : World} {ops : Array Oper} {rest : List Oper} {o : Oper} {a : Act} {Q : Exit → Act → World → Prop}

theorem wpList_of_run (hw : Region.wanted o (yielded ops a.tmps) = true) (R : Value → World → Prop)
    (hrun : ∃ v w', (execOp a.eval o).run P w = .ok (.value v) w' ∧ R v w')
    (hK : ∀ v w', R v w' → wpList P ops Q rest (a.put o.dst v) w') : wpList P ops Q (o :: rest) a w := by
  refine BigFrame.wpList_want hw fun K hK' => ?_
  obtain ⟨v, w', hr, hR⟩ := hrun
  unfold Oper.wp
  rw [hr]
  exact hK' _ _ (hK v w' hR)

theorem wpList_farith (hw : Region.wanted o (yielded ops a.tmps) = true) (op : BinOp) (t t' : TypeId) (x y : Operand) (hop : o.op = .binOp op t x y t') (k : FloatKind) (bx bY : Nat)
    (hx : a.eval x = .float k bx) (hy : a.eval y = .float k bY) (har : op = .add ∨ op = .sub ∨ op = .mul ∨ op = .quo) {u v : Nat} (fx : Fl k bx u) (fy : Fl k bY v)
    (hK : ∀ r n, Fl k r (fbin op k u v) → wpList P ops Q rest (a.put o.dst (.float k r)) (w.drewN n)) : wpList P ops Q (o :: rest) a w := by
  refine wpList_of_run hw (fun z w' => ∃ r n, z = .float k r ∧ w' = w.drewN n ∧ Fl k r (fbin op k u v)) ?_ ?_
  · obtain ⟨r, n, h1, h2⟩ := run_farith (P := P) w har t fx fy
    refine ⟨.float k r, w.drewN n, ?_, r, n, rfl, rfl, h2⟩
    have e : execOp a.eval o = (do pure (.value (← (do eqGuard op t x y (a.eval x) (a.eval y); binOp op t (a.eval x) (a.eval y))))) := by
      unfold execOp; rw [hop]
    rw [e, hx, hy]
    simp only [Sem.run_bind, run_eqGuard_float, Result.andThen, h1, Sem.run_pure]
  · rintro z w' ⟨r, n, rfl, rfl, h⟩
    exact hK r n h

theorem wpList_fcmp (hw : Region.wanted o (yielded ops a.tmps) = true) (op : BinOp) (t t' : TypeId) (x y : Operand) (hop : o.op = .binOp op t x y t') (k : FloatKind) (bx bY : Nat)
    (hx : a.eval x = .float k bx) (hy : a.eval y = .float k bY) (har : op = .eql ∨ op = .neq ∨ op = .lss ∨ op = .leq ∨ op = .gtr ∨ op = .geq) {u v : Nat} (fx : Fl k bx u) (fy : Fl k bY v)
    {b : Bool} (hb : fcmp op k u v = b)
    (hK : wpList P ops Q rest (a.put o.dst (.bool b)) w) : wpList P ops Q (o :: rest) a w := by
  refine wpList_of_run hw (fun z w' => z = .bool b ∧ w' = w) ?_ ?_
  · have h1 := run_fcmp (P := P) w har t fx fy
    refine ⟨.bool b, w, ?_, rfl, rfl⟩
    have e : execOp a.eval o = (do pure (.value (← (do eqGuard op t x y (a.eval x) (a.eval y); binOp op t (a.eval x) (a.eval y))))) := by
      unfold execOp; rw [hop]
    rw [e, hx, hy]
    simp only [Sem.run_bind, run_eqGuard_float, Result.andThen, h1, Sem.run_pure, hb]
  · rintro z w' ⟨rfl, rfl⟩
    exact hK

/-! ### Conversions, the sign -/

theorem fl_of_write {k : FloatKind} {d : Datum} (h : d.isNaN = false) : Fl k (k.format.write d) (k.format.write d) :=
  ⟨k.format.write_lt d, nf_not (isN_write k h)⟩

theorem run_fwide (w : World) (src dst : TypeId) {x u : Nat} (hs : (P.underlying src).isSome = true) (hd : P.underlying dst = some (.float .f64)) (hx : Fl .f32 x u)
    (hwide : ∀ s m e, FloatKind.f32.format.read u = .number s m e → (FloatKind.f64.format.read (FloatKind.f64.format.write (.number s m e))).isInfinity = false) :
    ∃ r n, (convert src dst (.float .f32 x)).run P w = .ok (.float .f64 r) (w.drewN n) ∧ Fl .f64 r (fwide u) := by
  cases hn : isN .f32 u
  · obtain rfl := hx.word hn
    unfold fwide
    rw [if_neg (by simp [hn])]
    cases hr : FloatKind.f32.format.read x with
    | number s m e =>
      refine ⟨_, 0, run_convert_float_float w src dst .f32 .f64 x _ hs hd ?_, fl_of_write rfl⟩
      unfold floatToFloatBits FloatKind.decode FloatKind.encode
      simp only [hr, hwide s m e hr]; rfl
    | infinity s =>
      refine ⟨_, 0, run_convert_float_float w src dst .f32 .f64 x _ hs hd ?_, fl_of_write rfl⟩
      unfold floatToFloatBits FloatKind.decode FloatKind.encode
      simp only [hr]; rfl
    | nan s t => unfold isN at hn; rw [hr] at hn; cases hn
  · have hn' : isN .f32 x = true := by rw [← hx.nanEq]; exact hn
    obtain ⟨s, t, hr⟩ := read_nan hn'
    obtain ⟨S, hs'⟩ := Option.isSome_iff_exists.1 hs
    refine ⟨(Question.nanConv .f64 x).cut (w.tape w.drawn (.nanConv .f64 x)), 1, ?_, (isN_cut_conv ..).2, ?_⟩
    · cases S <;> simp [convert, run_underlying hs', run_underlying hd, Conv.floatToFloat, FloatKind.decode, hr, Question.forced] <;> rfl
    · rw [nf_nan (isN_cut_conv ..).1]; unfold fwide; rw [if_pos hn]

theorem run_fnarrow (w : World) (src dst : TypeId) {x u : Nat} (hs : (P.underlying src).isSome = true) (hd : P.underlying dst = some (.float .f32)) (hx : Fl .f64 x u) (hok : NarrowOk u) :
    ∃ r n, (convert src dst (.float .f64 x)).run P w = .ok (.float .f32 r) (w.drewN n) ∧ Fl .f32 r (fnarrow u) := by
  cases hn : isN .f64 u
  · obtain rfl := hx.word hn
    unfold fnarrow
    rw [if_neg (by simp [hn])]
    cases hr : FloatKind.f64.format.read x with
    | number s m e =>
      refine ⟨_, 0, run_convert_float_float w src dst .f64 .f32 x _ hs hd ?_, fl_of_write rfl⟩
      unfold floatToFloatBits FloatKind.decode FloatKind.encode
      simp only [hr, hok s m e hr]; rfl
    | infinity s =>
      refine ⟨_, 0, run_convert_float_float w src dst .f64 .f32 x _ hs hd ?_, fl_of_write rfl⟩
      unfold floatToFloatBits FloatKind.decode FloatKind.encode
      simp only [hr]; rfl
    | nan s t => unfold isN at hn; rw [hr] at hn; cases hn
  · have hn' : isN .f64 x = true := by rw [← hx.nanEq]; exact hn
    obtain ⟨s, t, hr⟩ := read_nan hn'
    obtain ⟨S, hs'⟩ := Option.isSome_iff_exists.1 hs
    refine ⟨(Question.nanConv .f32 x).cut (w.tape w.drawn (.nanConv .f32 x)), 1, ?_, (isN_cut_conv ..).2, ?_⟩
    · cases S <;> simp [convert, run_underlying hs', run_underlying hd, Conv.floatToFloat, FloatKind.decode, hr, Question.forced] <;> rfl
    · rw [nf_nan (isN_cut_conv ..).1]; unfold fnarrow; rw [if_pos hn]

theorem fl_ofInt (k : FloatKind) (n : Int) : Fl k (floatOfInt k n) (floatOfInt k n) := fl_of_write (d := .number (n < 0) n.natAbs 0) rfl

theorem wpList_fofint (hw : Region.wanted o (yielded ops a.tmps) = true) (ts td : TypeId) (x : Operand) (hop : o.op = .convert ts td x) (q : IntKind) (n : Int) (hx : a.eval x = .int q n) {k : FloatKind}
    (hs : (P.underlying ts).isSome = true) (hd : P.underlying td = some (.float k))
    (hK : Fl k (floatOfInt k n) (floatOfInt k n) → wpList P ops Q rest (a.put o.dst (.float k (floatOfInt k n))) w) : wpList P ops Q (o :: rest) a w := by
  refine wpList_of_run hw (fun z w' => z = .float k (floatOfInt k n) ∧ w' = w) ?_ ?_
  · refine ⟨_, _, ?_, rfl, rfl⟩
    have e : execOp a.eval o = (do pure (.value (← convert ts td (a.eval x)))) := by unfold execOp; rw [hop]
    rw [e, hx]
    simp only [Sem.run_bind, run_convert_int_float w ts td q k n hs hd, Result.andThen, Sem.run_pure]
  · rintro z w' ⟨rfl, rfl⟩
    exact hK (fl_ofInt k n)

theorem wpList_fnarrow (hw : Region.wanted o (yielded ops a.tmps) = true) (ts td : TypeId) (x : Operand) (hop : o.op = .convert ts td x) (bx : Nat) (hx : a.eval x = .float .f64 bx)
    (hs : (P.underlying ts).isSome = true) (hd : P.underlying td = some (.float .f32)) {u : Nat} (fx : Fl .f64 bx u) (hok : NarrowOk u)
    (hK : ∀ r n, Fl .f32 r (fnarrow u) → wpList P ops Q rest (a.put o.dst (.float .f32 r)) (w.drewN n)) : wpList P ops Q (o :: rest) a w := by
  refine wpList_of_run hw (fun z w' => ∃ r n, z = .float .f32 r ∧ w' = w.drewN n ∧ Fl .f32 r (fnarrow u)) ?_ ?_
  · obtain ⟨r, n, h1, h2⟩ := run_fnarrow (P := P) w ts td hs hd fx hok
    refine ⟨.float .f32 r, w.drewN n, ?_, r, n, rfl, rfl, h2⟩
    have e : execOp a.eval o = (do pure (.value (← convert ts td (a.eval x)))) := by unfold execOp; rw [hop]
    rw [e, hx]
    simp only [Sem.run_bind, h1, Result.andThen, Sem.run_pure]
  · rintro z w' ⟨r, n, rfl, rfl, h⟩
    exact hK r n h

theorem wpList_fwide0 (hw : Region.wanted o (yielded ops a.tmps) = true) (ts td : TypeId) (x : Operand) (hop : o.op = .convert ts td x) (bx : Nat) (hx : a.eval x = .float .f32 bx)
    (hs : (P.underlying ts).isSome = true) (hd : P.underlying td = some (.float .f64)) {u : Nat} (fx : Fl .f32 bx u)
    (hwide : ∀ s m e, FloatKind.f32.format.read u = .number s m e → (FloatKind.f64.format.read (FloatKind.f64.format.write (.number s m e))).isInfinity = false)
    (hK : ∀ r n, Fl .f64 r (fwide u) → wpList P ops Q rest (a.put o.dst (.float .f64 r)) (w.drewN n)) : wpList P ops Q (o :: rest) a w := by
  refine wpList_of_run hw (fun z w' => ∃ r n, z = .float .f64 r ∧ w' = w.drewN n ∧ Fl .f64 r (fwide u)) ?_ ?_
  · obtain ⟨r, n, h1, h2⟩ := run_fwide (P := P) w ts td hs hd fx hwide
    refine ⟨.float .f64 r, w.drewN n, ?_, r, n, rfl, rfl, h2⟩
    have e : execOp a.eval o = (do pure (.value (← convert ts td (a.eval x)))) := by unfold execOp; rw [hop]
    rw [e, hx]
    simp only [Sem.run_bind, h1, Result.andThen, Sem.run_pure]
  · rintro z w' ⟨r, n, rfl, rfl, h⟩
    exact hK r n h

/-- 'int64(x)' where it is fixed. -/
theorem wpList_ftoint (hw : Region.wanted o (yielded ops a.tmps) = true) (ts td : TypeId) (x : Operand) (hop : o.op = .convert ts td x) {k : FloatKind} (bx : Nat) (hx : a.eval x = .float k bx) {q : IntKind}
    (hs : (P.underlying ts).isSome = true) (hd : P.underlying td = some (.int q)) {u : Nat} (fx : Fl k bx u) {n : Int} (hn : floatToIntVal k u q = some n)
    (hK : wpList P ops Q rest (a.put o.dst (.int q n)) w) : wpList P ops Q (o :: rest) a w := by
  refine wpList_of_run hw (fun z w' => z = .int q n ∧ w' = w) ?_ ?_
  · refine ⟨_, _, ?_, rfl, rfl⟩
    have hnn : isN k u = false := by
      cases hc : isN k u with
      | false => rfl
      | true =>
        obtain ⟨s, t, hr⟩ := read_nan hc
        unfold floatToIntVal FloatKind.decode at hn
        rw [hr] at hn
        simp [Datum.toInt, Datum.integral] at hn
    obtain rfl := fx.word hnn
    have e : execOp a.eval o = (do pure (.value (← convert ts td (a.eval x)))) := by unfold execOp; rw [hop]
    rw [e, hx]
    simp only [Sem.run_bind, run_convert_float_int w ts td k q bx n hs hd hn, Result.andThen, Sem.run_pure]
  · rintro z w' ⟨rfl, rfl⟩
    exact hK

end
end Go.Proofs.YtgfnchggflecgaaGreatDoor
