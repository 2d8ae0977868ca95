/-
  WHAT THE LISTED VARIABLES GIVE THE WALKS, more: the error variables, the table of trailing zeros; the frame that hands on the shape. Own work (the frame: after the kit's two frames of that kind); no condition beyond what each theorem names.
-/
import Derived.Test.YtgfnchggflecgaaGreatDoorTc
import Derived.Test.YtgfnchggflecgaaGreatDoorTi
import Derived.Stop.LaidErr
import Derived.Handed
namespace Go.Proofs.YtgfnchggflecgaaGreatDoor
open Go.RowKit
set_option linter.unusedVariables false

theorem starE : "*" ++ "errors.errorString" = "*errors.errorString" := by decide
theorem rowE (u : TypeId) (h : Tryz.prog.typeName? 3 u = some "*errors.errorString") : u = 131 :=
  typeName_ptr_named (nm := "errors.errorString") (by rw [starE]; kernel_rfl) (by kernel_rfl) (by decide) u (by rw [starE]; exact h)
theorem cellsE : Tryz.prog.cellsOf 133 = 1 := by kernel_rfl
theorem cellsS : Tryz.prog.cellsOf 9 = 1 := by kernel_rfl
theorem gSynT : (Tryz.prog.globals[2]?).map (·.type) = some 77 := by kernel_rfl
theorem gRanT : (Tryz.prog.globals[3]?).map (·.type) = some 77 := by kernel_rfl
theorem var?_lt {P : Program} {w : World} {n : String} {g : Nat} {cs : Array Value} (hg : P.globalNamed n = some g) (h : w.var? P n = some cs) : g < w.heap.size := by
  unfold World.var? at h
  simp only [hg, Option.bind_some] at h
  rcases Nat.lt_or_ge g w.heap.size with h' | h'
  · exact h'
  · simp [Array.getElem?_eq_none h'] at h
theorem ev_of {W : World} {nm1 nm2 : List UInt8} {r1 r2 : List (String × DataW Unit)}
    (h1 : laidMet Tryz.prog (("strconv.ErrRange", .iface "*errors.errorString" (.ptr (.agg [.lit (.string nm1)]))) :: r1) W)
    (h2 : laidMet Tryz.prog (("strconv.ErrSyntax", .iface "*errors.errorString" (.ptr (.agg [.lit (.string nm2)]))) :: r2) W) : EV W.heap.size W := by
  obtain ⟨a1, s1, hv1, _, _, _⟩ := laid_sentinel h1 gRan gRanT Tryz.underlying77 rowE Tryz.underlying131 Tryz.underlying133 rfl rfl Tryz.underlying9 cellsE cellsS
  obtain ⟨a2, s2, hv2, _, _, _⟩ := laid_sentinel h2 gSyn gSynT Tryz.underlying77 rowE Tryz.underlying131 Tryz.underlying133 rfl rfl Tryz.underlying9 cellsE cellsS
  exact ⟨⟨_, _, hv2⟩, ⟨_, _, hv1⟩, var?_lt gSyn hv2, var?_lt gRan hv1⟩
theorem ev_of_laid5 {x y z : String × DataW Unit} {nm1 nm2 : List UInt8} {W : World}
    (h : laidMet Tryz.prog [x, y, z, ("strconv.ErrRange", .iface "*errors.errorString" (.ptr (.agg [.lit (.string nm1)]))), ("strconv.ErrSyntax", .iface "*errors.errorString" (.ptr (.agg [.lit (.string nm2)])))] W) : EV W.heap.size W :=
  ev_of (laidMet_tail (laidMet_tail (laidMet_tail h))) (laidMet_tail (laidMet_tail (laidMet_tail (laidMet_tail h))))
theorem ev_of_laid7 {x y z u v : String × DataW Unit} {nm1 nm2 : List UInt8} {W : World}
    (h : laidMet Tryz.prog [x, y, z, u, ("strconv.ErrRange", .iface "*errors.errorString" (.ptr (.agg [.lit (.string nm1)]))), ("strconv.ErrSyntax", .iface "*errors.errorString" (.ptr (.agg [.lit (.string nm2)]))), v] W) : EV W.heap.size W :=
  ev_of (laidMet_tail (laidMet_tail (laidMet_tail (laidMet_tail h)))) (laidMet_tail (laidMet_tail (laidMet_tail (laidMet_tail (laidMet_tail h)))))

/-- The library's variable MaxLen holds some integer, whatever is done from block 'base' on. -/
def ML (base : Nat) (w : World) : Prop := (∃ m, w.cell? ⟨4, 0, none⟩ = some (.int .i64 m)) ∧ 4 < base
theorem ML.on {base : Nat} {w w1 : World} (h : ML base w) (hb : Below base w w1) : ML base w1 := by
  obtain ⟨⟨m, h1⟩, h2⟩ := h
  exact ⟨⟨m, (hb.cell (p := ⟨_, _, _⟩) h2).trans h1⟩, h2⟩
theorem ml_of_shaped {W : World} (h : W.ShapedOpen Tryz.prog) : ML W.heap.size W := by
  obtain ⟨m, hm⟩ := Tryz.laysM146.s1_3 W h
  exact ⟨⟨m, hm⟩, World.block_lt_of_cell? W _ hm⟩

/-- A law's frame over a condition on the first world, with that world's shape handed on. -/
theorem handed_and_shaped {H : Type} {enc : TypeId × Value → H} {a : Assume} {C : Checked} {os : Os} {f : FuncId} {fn : Func} {s : ChangeSpec} {conds : List PathCond} {apart fresh handsOn again : Bool} {X : World → Array Value → Prop}
    (hX : ∀ (w w' : World) (args : Array Value), w.heap = w'.heap → X w args → X w' args)
    (own : ownKnob C.prog.godebug = none) (started : os.Started) (noInit : C.prog.inits.idxOf? f = none) (hfn : C.prog.funcs[f]? = some fn)
    (witness : ∃ (w : World) (tape : Tape) (i : Input), w.os = os ∧ (w.forCall tape i).Shaped C.prog ∧ i.vars = [] ∧ Input.okWide C.prog (w.forCall tape i) .any w.heap.size f i ∧
      ((s.pre enc C.prog fn conds apart (w.forCall tape i).memory i.args ∧ X (w.forCall tape i).memory i.args) ∧ sizedMet enc C.prog fn (OpenSpec.ofChange s) apart (w.forCall tape i).memory i.args) ∧ a.holds C.prog (lone (Frame.enter C.prog f i.args .normal) [] (w.forCall tape i)))
    (contract : ∀ (W : World) (base : Nat) (args : Array Value) (ds gs : List (DataW H)) (before : List MemPlace),
      (∀ (j : Nat) t v, fn.params[j]? = some t → args[j]? = some v → Value.okWide C.prog W .any base t v) →
      DataW.Whole enc C.prog fn.params.toList s.vars apart W args.toList ds gs before →
      conds.all (PathCond.test C.prog ⟨fn.params.toList, ds, s.plain.varTypes C.prog, gs⟩) = true →
      (DataW.weightsEach C.prog (fn.params.toList ++ s.plain.varTypes C.prog) (ds ++ gs)).all (· ≤ reachBytes) = true → X W args → W.ShapedOpen C.prog →
      a.holds C.prog (lone (Frame.enter C.prog f args .normal) [] W) →
      Calls C.prog f args W fun e W' => ∃ v, e = .returned v ∧ s.post enc C.prog fn apart fresh handsOn again W args v W') :
    ReturnsInHanded a C os f .any (fun w args => (s.pre enc C.prog fn conds apart w args ∧ X w args) ∧ sizedMet enc C.prog fn (OpenSpec.ofChange s) apart w args) (s.post enc C.prog fn apart fresh handsOn again) := by
  refine returnsInHanded_of_calls own started noInit witness fun w tape i _ hsh _ hok hpre hholds => ?_
  obtain ⟨_, _, _, fn', hfn', _, _, _, _, hval⟩ := hok
  obtain rfl : fn' = fn := Option.some.inj (hfn'.symm.trans hfn)
  obtain ⟨⟨⟨ds, gs, before, hw, hc⟩, hx⟩, hz⟩ := hpre
  have hw' := DataW.Whole.of_heap (w' := w.forCall tape i) (by rfl) hw
  refine (contract (w.forCall tape i) w.heap.size i.args ds gs before hval hw' hc (hz.weights hw) (hX _ _ _ (by rfl) hx) hsh hholds).mono fun e W' ⟨v, he, hp⟩ => ?_
  subst he
  exact ChangeSpec.post_blind hp
end Go.Proofs.YtgfnchggflecgaaGreatDoor
