/-
  FLOATS in a region that draws its order. Own work; no condition beyond what each lemma names.
-/
import Derived.Test.YtgfnchggflecgaaGreatDoorQs
import Derived.Test.YtgfnchggflecgaaGreatDoorFe
namespace Go.Proofs.YtgfnchggflecgaaGreatDoor
open Go
section
variable {P : Program} {w : World} {ops : Array Oper} {G : FuncId → Array Value → Value → Prop} {o : Oper} {a : Act} {K : Act → Prop}

theorem opS_farith (hw : Region.wanted o (yielded ops a.tmps) = true) (op : BinOp) (t t' : TypeId) (x y : Operand) (hop : o.op = .binOp op t x y t') (k : FloatKind) (bx bY : Nat)
    (hx : a.eval x = .float k bx) (hy : a.eval y = .float k bY) (har : op = .add ∨ op = .sub ∨ op = .mul ∨ op = .quo) {u v : Nat} (fx : Fl k bx u) (fy : Fl k bY v)
    (hK : ∀ r, Fl k r (fbin op k u v) → K (a.put o.dst (.float k r))) : opS P ops (fun w' => ∃ n, w' = w.drewN n) G o a K := by
  refine opS_of_run hw (fun z => ∃ r, z = .float k r ∧ Fl k r (fbin op k u v)) (fun n => ?_) ?_
  · obtain ⟨r, m, h1, h2⟩ := run_farith (P := P) (w.drewN n) har t fx fy
    refine ⟨.float k r, n + m, ?_, r, rfl, h2⟩
    have e : execOp a.eval o = (do pure (.value (← (do eqGuard op t x y (a.eval x) (a.eval y); binOp op t (a.eval x) (a.eval y))))) := by
      unfold execOp; rw [hop]
    rw [e, hx, hy]
    simp only [Sem.run_bind, run_eqGuard_float, Result.andThen, h1, Sem.run_pure, World.drewN_drewN]
  · rintro z ⟨r, rfl, h⟩
    exact hK r h

theorem opS_fcmp (hw : Region.wanted o (yielded ops a.tmps) = true) (op : BinOp) (t t' : TypeId) (x y : Operand) (hop : o.op = .binOp op t x y t') (k : FloatKind) (bx bY : Nat)
    (hx : a.eval x = .float k bx) (hy : a.eval y = .float k bY) (har : op = .eql ∨ op = .neq ∨ op = .lss ∨ op = .leq ∨ op = .gtr ∨ op = .geq) {u v : Nat} (fx : Fl k bx u) (fy : Fl k bY v)
    {b : Bool} (hb : fcmp op k u v = b) (hK : K (a.put o.dst (.bool b))) : opS P ops (fun w' => ∃ n, w' = w.drewN n) G o a K := by
  refine opS_of_run hw (fun z => z = .bool b) (fun n => ?_) ?_
  · have h1 := run_fcmp (P := P) (w.drewN n) har t fx fy
    refine ⟨.bool b, n, ?_, rfl⟩
    have e : execOp a.eval o = (do pure (.value (← (do eqGuard op t x y (a.eval x) (a.eval y); binOp op t (a.eval x) (a.eval y))))) := by
      unfold execOp; rw [hop]
    rw [e, hx, hy]
    simp only [Sem.run_bind, run_eqGuard_float, Result.andThen, h1, Sem.run_pure, hb]
  · rintro z rfl
    exact hK

theorem opS_fwide (hw : Region.wanted o (yielded ops a.tmps) = true) (ts td : TypeId) (x : Operand) (hop : o.op = .convert ts td x) (bx : Nat) (hx : a.eval x = .float .f32 bx)
    (hs : (P.underlying ts).isSome = true) (hd : P.underlying td = some (.float .f64)) {u : Nat} (fx : Fl .f32 bx u)
    (hK : ∀ r, Fl .f64 r (fwide u) → K (a.put o.dst (.float .f64 r))) : opS P ops (fun w' => ∃ n, w' = w.drewN n) G o a K := by
  refine opS_of_run hw (fun z => ∃ r, z = .float .f64 r ∧ Fl .f64 r (fwide u)) (fun n => ?_) ?_
  · obtain ⟨r, m, h1, h2⟩ := run_fwide (P := P) (w.drewN n) ts td hs hd fx (fun s m e h => wide_ok s m e h)
    refine ⟨.float .f64 r, n + m, ?_, r, rfl, h2⟩
    have e : execOp a.eval o = (do pure (.value (← convert ts td (a.eval x)))) := by unfold execOp; rw [hop]
    rw [e, hx]
    simp only [Sem.run_bind, h1, Result.andThen, Sem.run_pure, World.drewN_drewN]
  · rintro z ⟨r, rfl, h⟩
    exact hK r h

theorem opS_fnarrow (hw : Region.wanted o (yielded ops a.tmps) = true) (ts td : TypeId) (x : Operand) (hop : o.op = .convert ts td x) (bx : Nat) (hx : a.eval x = .float .f64 bx)
    (hs : (P.underlying ts).isSome = true) (hd : P.underlying td = some (.float .f32)) {u : Nat} (fx : Fl .f64 bx u) (hok : NarrowOk u)
    (hK : ∀ r, Fl .f32 r (fnarrow u) → K (a.put o.dst (.float .f32 r))) : opS P ops (fun w' => ∃ n, w' = w.drewN n) G o a K := by
  refine opS_of_run hw (fun z => ∃ r, z = .float .f32 r ∧ Fl .f32 r (fnarrow u)) (fun n => ?_) ?_
  · obtain ⟨r, m, h1, h2⟩ := run_fnarrow (P := P) (w.drewN n) ts td hs hd fx hok
    refine ⟨.float .f32 r, n + m, ?_, r, rfl, h2⟩
    have e : execOp a.eval o = (do pure (.value (← convert ts td (a.eval x)))) := by unfold execOp; rw [hop]
    rw [e, hx]
    simp only [Sem.run_bind, h1, Result.andThen, Sem.run_pure, World.drewN_drewN]
  · rintro z ⟨r, rfl, h⟩
    exact hK r h

theorem opS_fofint (hw : Region.wanted o (yielded ops a.tmps) = true) (ts td : TypeId) (x : Operand) (hop : o.op = .convert ts td x) (q : IntKind) (n : Int) (hx : a.eval x = .int q n) {k : FloatKind}
    (hs : (P.underlying ts).isSome = true) (hd : P.underlying td = some (.float k))
    (hK : Fl k (floatOfInt k n) (floatOfInt k n) → K (a.put o.dst (.float k (floatOfInt k n)))) : opS P ops (fun w' => ∃ n, w' = w.drewN n) G o a K := by
  refine opS_of_run hw (fun z => z = .float k (floatOfInt k n)) (fun m => ?_) ?_
  · refine ⟨_, m, ?_, rfl⟩
    have e : execOp a.eval o = (do pure (.value (← convert ts td (a.eval x)))) := by unfold execOp; rw [hop]
    rw [e, hx]
    simp only [Sem.run_bind, run_convert_int_float (w.drewN m) ts td q k n hs hd, Result.andThen, Sem.run_pure]
  · rintro z rfl
    exact hK (fl_ofInt k n)

/-- What a function of one number gives in a region. -/
def callG (V : Nat → Nat) : FuncId → Array Value → Value → Prop := fun _ args v => ∃ x r, args = #[.float .f32 x] ∧ v = .float .f32 r ∧ Fl .f32 r (V (nf .f32 x))
theorem opS_callf {V : Nat → Nat} {x u : Nat} {f : FuncId} (hw : Region.wanted o (yielded ops a.tmps) = true) (hrun : ∀ w', (execOp a.eval o).run P w' = .ok (.enter f #[.float .f32 x]) w') (hx : Fl .f32 x u)
    (hc : ∀ w', Calls P f #[.float .f32 x] w' fun e w2 => (∃ r, e = .returned (.float .f32 r) ∧ Fl .f32 r (V u)) ∧ ∃ n, w2 = w'.drewN n)
    (hK : ∀ r, Fl .f32 r (V u) → K (a.put o.dst (.float .f32 r))) : opS P ops (fun w' => ∃ n, w' = w.drewN n) (callG V) o a K := by
  unfold opS
  rw [if_pos hw]
  rintro w' ⟨n, rfl⟩
  rw [hrun]
  refine ⟨⟨⟨n, rfl⟩, ?_⟩, ?_⟩
  · rintro w1 ⟨m, rfl⟩
    refine (hc _).mono ?_
    rintro e w2 ⟨⟨r, rfl, hr⟩, k, rfl⟩
    exact ⟨_, rfl, ⟨x, r, rfl, rfl, by rw [hx.eq]; exact hr⟩, m + k, by rw [World.drewN_drewN]⟩
  · rintro v ⟨x', r, he, rfl, hr⟩
    have : x' = x := by cases he; rfl
    subst this
    rw [hx.eq] at hr
    exact hK r hr
end
end Go.Proofs.YtgfnchggflecgaaGreatDoor
