/-
  DECIMAL TEXTS THAT ARE READ: the walks. Own work; no condition beyond what each theorem names.
-/
import Derived.Test.YtgfnchggflecgabDoorTg
import Derived.Test.YtgfnchggflecgabDoorWd
namespace Go.Proofs.YtgfnchggflecgabDoor
open Go.RowKit
set_option linter.unusedVariables false

/-- The library's two error variables hold errors, whatever is done from block 'base' on. -/
def EV (base : Nat) (w : World) : Prop :=
  (∃ tp p, w.var? Tryd.prog "strconv.ErrSyntax" = some #[.iface tp p]) ∧ (∃ tp p, w.var? Tryd.prog "strconv.ErrRange" = some #[.iface tp p]) ∧ 0 < base ∧ 1 < base
theorem gSyn : Tryd.prog.globalNamed "strconv.ErrSyntax" = some 0 := by kernel_rfl
theorem gRan : Tryd.prog.globalNamed "strconv.ErrRange" = some 1 := by kernel_rfl
theorem var?_below {P : Program} {base g : Nat} {w w1 : World} {n : String} {cs : Array Value} (hg : P.globalNamed n = some g) (hl : g < base) (hb : Below base w w1) (h : w.var? P n = some cs) : w1.var? P n = some cs := by
  unfold World.var? at h ⊢
  simp only [hg, Option.bind_some] at h ⊢
  rw [hb.block g hl]
  exact h
theorem EV.on {base : Nat} {w w1 : World} (h : EV base w) (hb : Below base w w1) : EV base w1 := by
  obtain ⟨⟨a, b, h1⟩, ⟨c, d, h2⟩, h3, h4⟩ := h
  exact ⟨⟨a, b, var?_below gSyn h3 hb h1⟩, ⟨c, d, var?_below gRan h4 hb h2⟩, h3, h4⟩
theorem below_bytes (w w' : World) (h : w' = w ∨ ∃ t, w' = Lib.bytesWorld w 5 t) : Below w.heap.size w w' := by
  rcases h with rfl | ⟨t, rfl⟩
  · exact Below.refl _ _
  · exact Lib.bytesWorld_below _ _ _

theorem strOf_eq (l : List UInt8) (s : ByteArray) : strOf l = s ↔ l = s.data.toList := by
  unfold strOf
  constructor
  · rintro rfl; rfl
  · intro h
    rw [h]


theorem strq_t {l : List UInt8} {s : ByteArray} (h : l = s.data.toList) : ((strOf l).toList == s.toList) = true := by rw [(strOf_eq l s).2 h]; simp
theorem strq_f {l : List UInt8} {s : ByteArray} (h : l ≠ s.data.toList) : ((strOf l).toList == s.toList) = false := by
  rw [Lib.toList_data, Lib.toList_data]
  exact beq_eq_false_iff_ne.2 h

/-- What a reader of decimal texts hands back. -/
def rdT (l : List UInt8) : Value := .tuple #[.int .i64 ((rd l).getD 0), .bool (rd l).isSome]
theorem rdT_none {l : List UInt8} (h : rd l = none) : rdT l = .tuple #[.int .i64 0, .bool false] := by unfold rdT; rw [h]; rfl
theorem rdT_some {l : List UInt8} {v : Int} (h : rd l = some v) : rdT l = .tuple #[.int .i64 v, .bool true] := by unfold rdT; rw [h]; rfl

/-- A byte of a string, for the walk to take. -/
theorem idx_str (s : ByteArray) (k : Nat) (hk : k < s.size) (W : World) : (Instr.index 9 (.string s) (.int .i64 (k : Int))).run Tryd.prog W = .ok (.int .u8 ((s[k].toNat : Nat) : Int)) W := by
  rw [run_index_string W 9 s .i64 _ Tryd.underlying9, dif_pos ⟨by omega, by omega⟩]
  have e : ((k : Int)).toNat = k := by omega
  simp only [e]
/-- strconv.ParseInt at base 10 and 64 bits, at every string. -/
theorem ParseInt_any (base : Nat) (s : ByteArray) (hs : s.size ≤ 1048576) (w : World) (hE : EV base w) :
    Calls Tryd.prog 13 #[.string s, .int .i64 10, .int .i64 64] w fun e w' =>
      ((∃ v, Lib.parseIntB 64 s.data.toList = .ok v ∧ e = .returned (.tuple #[.int .i64 v, .nilIface])) ∨ (∃ v t p, rd s.data.toList = none ∧ e = .returned (.tuple #[.int .i64 v, .iface t p]))) ∧ Below w.heap.size w w' := by
  obtain ⟨⟨a, b, h1⟩, ⟨c, d, h2⟩, _, _⟩ := hE
  cases h : Lib.parseIntB 64 s.data.toList with
  | ok v =>
    refine (Tryd.strconv_ParseInt_10_at64_ok s (by omega) v h w).mono ?_
    rintro e w' ⟨rfl, hw⟩
    exact ⟨Or.inl ⟨v, rfl, rfl⟩, below_bytes w w' hw⟩
  | «syntax» =>
    refine (Tryd.strconv_ParseInt_10_at64_syntax_var s (by omega) h a b w h1).mono ?_
    rintro e w' ⟨N, rfl, _, _, hw⟩
    exact ⟨Or.inr ⟨_, _, _, by unfold rd; rw [h], rfl⟩, hw⟩
  | range =>
    refine (Tryd.strconv_ParseInt_10_at64_range_var s (by omega) h c d w h2).mono ?_
    rintro e w' ⟨N, rfl, _, _, hw⟩
    exact ⟨Or.inr ⟨_, _, _, by unfold rd; rw [h], rfl⟩, hw⟩
theorem ReadDecimal_any (B : Nat) (s : ByteArray) (hs : s.size ≤ 1048576) (w : World) (hT : T10 B w) (hE : EV B w) (hB : B ≤ w.heap.size) :
    Calls Tryd.prog 6 #[.string s] w fun e w' => e = .returned (rdT s.data.toList) ∧ Below w.heap.size w w' := by
  have HC := hid (ParseInt_any B s hs w hE)
  have HT := hid hT
  clear hT hE
  go_enter Tryd.func6, Tryd.ntmps6
  go_wp2_with (fail)
  refine HC.out.mono ?_
  rintro e w1 ⟨⟨v, hv, rfl⟩ | ⟨v, t, p, hr, rfl⟩, hb⟩
  · have HB := hid hb
    have HI := hid (isValue_any v)
    cases hi : inV v
    · have HR := hid (rdT_none (show rd s.data.toList = none by unfold rd; rw [hv]; simp [hi]))
      rw [hi] at HI
      clear hv hi hb
      go_wp2_with (fail)
      refine (HI.out _).mono ?_
      rintro e w2 ⟨rfl, rfl⟩
      go_wp2_with (fail)
      go_ret2
      exact ⟨by rw [HR.out]; rfl, HB.out⟩
    · have hbd := inV_bounds hi
      have HD := hid (Decimal_any B v (by omega) (by omega) w1 (T10.on HT.out (hb.mono hB)))
      rw [hi] at HI
      have HS := hid (strOf_eq (Lib.itoa v) s)
      by_cases he : Lib.itoa v = s.data.toList
      · have HR := hid (rdT_some (show rd s.data.toList = some v by unfold rd; rw [hv]; simp [hi, he]))
        have hne : ((strOf (Lib.itoa v)).toList == s.toList) = true := strq_t he
        generalize strOf (Lib.itoa v) = S at *
        clear hv hi hb he hbd HS
        go_wp2_with (fail)
        refine (HI.out _).mono ?_
        rintro e w2 ⟨rfl, rfl⟩
        go_wp2_with (fail)
        refine HD.out.mono ?_
        rintro e w3 ⟨rfl, hb3⟩
        have HB3 := hid (HB.out.trans (hb3.mono HB.out.size))
        clear hb3
        go_wp2_with (fail)
        go_ret2
        exact ⟨by rw [HR.out]; rfl, HB3.out⟩
      · have HR := hid (rdT_none (show rd s.data.toList = none by unfold rd; rw [hv]; simp [hi, he]))
        have hne : ((strOf (Lib.itoa v)).toList == s.toList) = false := strq_f he
        generalize strOf (Lib.itoa v) = S at *
        clear hv hi hb he hbd HS
        go_wp2_with (fail)
        refine (HI.out _).mono ?_
        rintro e w2 ⟨rfl, rfl⟩
        go_wp2_with (fail)
        refine HD.out.mono ?_
        rintro e w3 ⟨rfl, hb3⟩
        have HB3 := hid (HB.out.trans (hb3.mono HB.out.size))
        clear hb3
        go_wp2_with (fail)
        go_ret2
        exact ⟨by rw [HR.out]; rfl, HB3.out⟩
  · have HB := hid hb
    have HR := hid (rdT_none hr)
    clear hr hb
    go_wp2_with (fail)
    go_ret2
    exact ⟨by rw [HR.out]; rfl, HB.out⟩
end Go.Proofs.YtgfnchggflecgabDoor
