/-
  A REGION THAT DRAWS ITS ORDER, WHOSE OPERATIONS MAY YIELD ONE OF SEVERAL VALUES (a float operation whose NaN bits the tape picks): one walk in the order of the text serves every order.
  'C': the worlds that the region may pass through; 'G': what a call of a function gives back. Own work; no condition beyond what each lemma names.
-/
import Derived.WalkKit
import Derived.Still
import Derived.Deep.Draws
namespace Go.Proofs.YtgfnchggflecgaaGreatDoor
open Go

section
variable (P : Program) (ops : Array Oper) (C : World → Prop) (G : FuncId → Array Value → Value → Prop)

/-- The operation goes well. -/
def fineS : Result Next → Prop
  | .ok (.value _) w' => C w'
  | .ok .skip w' => C w'
  | .ok (.enter f args) w' => C w' ∧ ∀ w1, C w1 → Calls P f args w1 fun e w2 => ∃ u, e = .returned u ∧ G f args u ∧ C w2
  | _ => False
/-- A value that it may give. -/
def givesS : Result Next → Value → Prop
  | .ok (.value v) _, u => u = v
  | .ok .skip _, u => u = undef
  | .ok (.enter f args) _, u => G f args u
  | _, _ => False
/-- One operation, in every world of the class, whatever it gives. -/
def opS (o : Oper) (a : Act) (next : Act → Prop) : Prop :=
  if Region.wanted o (yielded ops a.tmps) then ∀ w, C w → fineS P C G ((execOp a.eval o).run P w) ∧ ∀ u, givesS G ((execOp a.eval o).run P w) u → next (a.put o.dst u)
  else next (a.put o.dst undef)
/-- The operations that have not come up, in the order of the text. -/
def mixS (Q : Act → Prop) : List (Bool × Oper) → Act → Prop
  | [], a => Q a
  | (true, _) :: l, a => mixS Q l a
  | (false, o) :: l, a => opS P ops C G o a (mixS Q l)
end

section
variable {P : Program} {ops : Array Oper} {C : World → Prop} {G : FuncId → Array Value → Value → Prop}

theorem fineS_gives {r : Result Next} (h : fineS P C G r) : ∃ u, givesS G r u := by
  unfold fineS at h
  split at h
  · exact ⟨_, rfl⟩
  · exact ⟨_, rfl⟩
  · obtain ⟨e, _, _, ⟨u, _, hu, _⟩, _⟩ := h.2 _ h.1 []
    exact ⟨u, hu⟩
  · exact h.elim

theorem opS_mono {o : Oper} {a : Act} {K K' : Act → Prop} (h : ∀ a, K a → K' a) (hh : opS P ops C G o a K) : opS P ops C G o a K' := by
  unfold opS at *
  split
  · rename_i hw
    rw [if_pos hw] at hh
    exact fun w hc => ⟨(hh w hc).1, fun u hu => h _ ((hh w hc).2 u hu)⟩
  · rename_i hw
    rw [if_neg hw] at hh
    exact h _ hh

/-- Two operations that are apart. -/
theorem opS_swap {oi oj : Oper} (hap : oi.apart ops oj = true) (hsi : ∀ cs b, oi.op ≠ .select cs b) (hsj : ∀ cs b, oj.op ≠ .select cs b) {a : Act} {N : Act → Prop}
    (h : opS P ops C G oi a (fun a' => opS P ops C G oj a' N)) : opS P ops C G oj a (fun a' => opS P ops C G oi a' N) := by
  obtain ⟨h1, h2, h3⟩ := Oper.apart_spec hap
  have ej : ∀ v, execOp (a.put oi.dst v).eval oj = execOp a.eval oj := fun v => execOp_put oj hsj a oi.dst v h1
  have ei : ∀ v, execOp (a.put oj.dst v).eval oi = execOp a.eval oi := fun v => execOp_put oi hsi a oj.dst v h3
  have wj : ∀ v, Region.wanted oj (yielded ops (a.put oi.dst v).tmps) = Region.wanted oj (yielded ops a.tmps) := fun v => wanted_put oj a oi.dst v h1
  have wi : ∀ v, Region.wanted oi (yielded ops (a.put oj.dst v).tmps) = Region.wanted oi (yielded ops a.tmps) := fun v => wanted_put oi a oj.dst v h3
  have cm : ∀ v u, (a.put oi.dst v).put oj.dst u = (a.put oj.dst u).put oi.dst v := fun v u => Act.put_comm a v u h2
  unfold opS at *
  simp only [ej, wj] at h
  simp only [ei, wi]
  by_cases hi : Region.wanted oi (yielded ops a.tmps) = true <;> by_cases hj : Region.wanted oj (yielded ops a.tmps) = true
  · simp only [hi, hj, if_true] at h ⊢
    intro w2 hw2
    obtain ⟨hf, hg⟩ := h w2 hw2
    obtain ⟨v0, hv0⟩ := fineS_gives hf
    refine ⟨(hg v0 hv0 w2 hw2).1, fun u hu w hw => ⟨(h w hw).1, fun v hv => ?_⟩⟩
    rw [← cm]
    exact ((h w hw).2 v hv w2 hw2).2 u hu
  · simp only [hi, hj, if_true, if_false, Bool.false_eq_true] at h ⊢
    intro w hw
    exact ⟨(h w hw).1, fun v hv => by rw [← cm]; exact (h w hw).2 v hv⟩
  · simp only [hi, hj, if_true, if_false, Bool.false_eq_true] at h ⊢
    intro w hw
    exact ⟨(h w hw).1, fun u hu => by rw [← cm]; exact (h w hw).2 u hu⟩
  · simp only [hi, hj, if_false, Bool.false_eq_true] at h ⊢
    rw [← cm]; exact h

/-- An operation that all that stand before it are apart from may be taken now. -/
theorem mixS_take {Q : Act → Prop} : ∀ (L : List (Bool × Oper)) (j : Nat) (o : Oper) (a : Act), L[j]? = some (false, o) →
    (∀ i oi, i < j → L[i]? = some (false, oi) → oi.apart ops o = true) → (∀ x ∈ L, ∀ cs b, x.2.op ≠ .select cs b) →
    mixS P ops C G Q L a → opS P ops C G o a (mixS P ops C G Q (L.set j (true, o)))
  | [], j, o, a, hj, _, _, _ => by simp at hj
  | x :: L, 0, o, a, hj, _, _, h => by
    simp at hj
    subst hj
    exact h
  | (true, ox) :: L, j + 1, o, a, hj, hap, hs, h =>
    mixS_take L j o a (by simpa using hj) (fun i oi hi hx => hap (i + 1) oi (by omega) (by simpa using hx)) (fun x hx => hs x (List.mem_cons_of_mem _ hx)) h
  | (false, ox) :: L, j + 1, o, a, hj, hap, hs, h => by
    have hj' : L[j]? = some (false, o) := by simpa using hj
    have hap' := hap 0 ox (by omega) rfl
    have h1 : opS P ops C G ox a (fun a' => opS P ops C G o a' (mixS P ops C G Q (L.set j (true, o)))) :=
      opS_mono (fun a' ha' => mixS_take L j o a' hj' (fun i oi hi hx => hap (i + 1) oi (by omega) (by simpa using hx)) (fun x hx => hs x (List.mem_cons_of_mem _ hx)) ha') h
    exact opS_swap hap' (hs (false, ox) (List.mem_cons_self ..)) (hs (false, o) (List.mem_cons_of_mem _ (List.mem_of_getElem? hj'))) h1

/-- It is a wp, from every world of the class. -/
theorem wpOp_of_opS {j : Nat} {o : Oper} (ho : ops[j]? = some o) {a : Act} {K : Act → Prop} {K' : Act → World → Prop} {Q' : Exit → Act → World → Prop} {w : World} (hC : C w) (h : ∀ a w', C w' → K a → K' a w')
    (hh : opS P ops C G o a K) : wpOp P ops Q' j K' a w := by
  unfold opS at hh
  unfold wpOp
  simp only [ho]
  split
  · rename_i hw
    rw [if_pos hw] at hh
    obtain ⟨hf, hg⟩ := hh w hC
    refine .inl ?_
    unfold Oper.wp
    generalize (execOp a.eval o).run P w = r at *
    unfold fineS at hf
    split at hf
    · exact h _ _ hf (hg _ rfl)
    · exact h _ _ hf (hg _ rfl)
    · refine (hf.2 _ hf.1).mono fun e w2 ⟨u, he, hu, hc2⟩ => ?_
      subst he
      exact h _ _ hc2 (hg u hu)
    · exact hf.elim
  · rename_i hw
    rw [if_neg hw] at hh
    exact h _ _ hC hh

/-- The operations with their marks. -/
def flagsS (ops : Array Oper) (listed : Array Bool) : List (Bool × Oper) := ops.toList.zipIdx.map fun x => (listed.getD x.2 true, x.1)

theorem flagsS_get (listed : Array Bool) (j : Nat) : (flagsS ops listed)[j]? = (ops[j]?).map fun o => (listed.getD j true, o) := by
  unfold flagsS
  rw [List.getElem?_map, List.getElem?_zipIdx]
  cases h : ops[j]? with
  | none => simp [h]
  | some o => simp [h]

theorem flagsS_set {listed : Array Bool} {j : Nat} {o : Oper} (ho : ops[j]? = some o) (hl : j < listed.size) : flagsS ops (listed.setIfInBounds j true) = (flagsS ops listed).set j (true, o) := by
  refine List.ext_getElem? fun i => ?_
  rw [flagsS_get, List.getElem?_set]
  by_cases h : j = i
  · subst h
    have hlt : j < (flagsS ops listed).length := by
      have := flagsS_get (ops := ops) listed j
      rw [ho] at this
      exact (List.getElem?_eq_some_iff.1 this).1
    rw [if_pos rfl, if_pos hlt, ho]
    simp [hl]
  · rw [if_neg h, flagsS_get, getD_set_ne true h]

/-- What is asked of the region's edges: each waits for earlier ones alone; two of which the later does not wait for the earlier are apart. -/
def pairS (md : Region.Mode) (ops : Array Oper) : Bool :=
  Region.noSelect ops && ((List.range ops.size).all fun j => match ops[j]? with
    | some oj => (oj.after.all fun e => !Region.binds md e || decide (e.on < j)) && ((List.range j).all fun i => match ops[i]? with
        | some oi => oj.after.any (fun e => Region.binds md e && e.on == i) || oi.apart ops oj
        | none => true)
    | none => true)

theorem pairS_edge {md : Region.Mode} (h : pairS md ops = true) {j : Nat} {oj : Oper} (hj : ops[j]? = some oj) {e : Edge} (he : e ∈ oj.after) (hb : Region.binds md e = true) : e.on < j := by
  unfold pairS at h
  rw [Bool.and_eq_true, List.all_eq_true] at h
  have h1 := h.2 j (List.mem_range.2 (Array.getElem?_eq_some_iff.1 hj).1)
  simp only [hj, Bool.and_eq_true] at h1
  have h2 := Array.all_eq_true_iff_forall_mem.1 h1.1 e he
  simpa [hb] using h2

theorem pairS_apart {md : Region.Mode} (h : pairS md ops = true) {i j : Nat} {oi oj : Oper} (hi : ops[i]? = some oi) (hj : ops[j]? = some oj) (hlt : i < j) (hno : ∀ e ∈ oj.after, Region.binds md e = true → e.on ≠ i) : oi.apart ops oj = true := by
  unfold pairS at h
  rw [Bool.and_eq_true, List.all_eq_true] at h
  have h1 := h.2 j (List.mem_range.2 (Array.getElem?_eq_some_iff.1 hj).1)
  simp only [hj, Bool.and_eq_true, List.all_eq_true] at h1
  have h2 := h1.2 i (List.mem_range.2 hlt)
  simp only [hi, Bool.or_eq_true] at h2
  rcases h2 with h2 | h2
  · obtain ⟨x, hx, hb⟩ := Array.any_eq_true.1 h2
    simp at hb
    exact absurd hb.2 (hno _ (Array.getElem_mem hx) hb.1)
  · exact h2

/-- How many have not come up. -/
def leftS (listed : Array Bool) : Nat := listed.toList.count false

theorem leftS_set {listed : Array Bool} {j : Nat} (h : listed.getD j true = false) : leftS (listed.setIfInBounds j true) + 1 = leftS listed ∧ j < listed.size := by
  have hlt : j < listed.size := by
    rcases Nat.lt_or_ge j listed.size with h' | h'
    · exact h'
    · simp [Array.getElem?_eq_none h'] at h
  have hv : listed.toList[j]? = some false := by
    simp [hlt] at h ⊢; exact h
  refine ⟨?_, hlt⟩
  unfold leftS
  rw [Array.toList_setIfInBounds]
  have hl : j < listed.toList.length := by simpa using hlt
  have hg : listed.toList[j] = false := by
    rw [List.getElem?_eq_getElem hl] at hv
    exact Option.some.inj hv
  have hpos : 0 < listed.toList.count false := List.count_pos_iff.2 (by rw [← hg]; exact List.getElem_mem hl)
  have e := List.count_set (l := listed.toList) (i := j) (a := true) (b := false) hl
  rw [hg] at e
  rw [e]
  generalize listed.toList.count false = m at *
  show m - 1 + 0 + 1 = m
  omega

theorem mixS_done {Q : Act → Prop} : ∀ (L : List (Bool × Oper)) (a : Act), (∀ x ∈ L, x.1 = true) → mixS P ops C G Q L a → Q a
  | [], _, _, h => h
  | (true, _) :: L, a, hx, h => mixS_done L a (fun x hm => hx x (List.mem_cons_of_mem _ hm)) h
  | (false, o) :: L, a, hx, h => by have := hx (false, o) (List.mem_cons_self ..); cases this

theorem ready_nil_all {md : Region.Mode} (hp : pairS md ops = true) {listed : Array Bool} (hs : listed.size = ops.size) (h : Region.ready md ops listed = []) : ∀ j, j < ops.size → listed.getD j true = true := by
  intro j
  induction j using Nat.strongRecOn with
  | _ j ih =>
    intro hj
    cases hc : listed.getD j true with
    | true => rfl
    | false =>
      have hm : j ∈ Region.ready md ops listed := by
        rw [mem_ready]
        refine ⟨hc, ops[j], by simp [hj], fun e he hb => ?_⟩
        have hlt := pairS_edge hp (j := j) (oj := ops[j]) (by simp [hj]) he hb
        have h1 := ih e.on hlt (by omega)
        have hsz : e.on < listed.size := by omega
        simp [hsz] at h1 ⊢; exact h1
      rw [h] at hm; cases hm

theorem wpAny_of_mixS {md : Region.Mode} (hp : pairS md ops = true) {Q : Act → Prop} {Q' : Exit → Act → World → Prop} (hQ : ∀ a w, C w → Q a → Q' .normal a w) :
    ∀ (fuel : Nat) (listed : Array Bool) (a : Act) (w : World), listed.size = ops.size → leftS listed ≤ fuel → C w → mixS P ops C G Q (flagsS ops listed) a → wpAny P md ops Q' fuel listed a w := by
  have hsel : ∀ (listed : Array Bool), ∀ x ∈ flagsS ops listed, ∀ cs b, x.2.op ≠ .select cs b := by
    intro listed x hx cs b
    obtain ⟨j, hj⟩ := List.getElem?_of_mem hx
    rw [flagsS_get] at hj
    cases ho : ops[j]? with
    | none => rw [ho] at hj; cases hj
    | some o =>
      rw [ho] at hj
      cases hj
      unfold pairS at hp
      rw [Bool.and_eq_true] at hp
      exact Region.noSelect_spec hp.1 j o cs b ho
  have hend : ∀ (listed : Array Bool) (a : Act) (w : World), listed.size = ops.size → C w → mixS P ops C G Q (flagsS ops listed) a → Region.ready md ops listed = [] → Q' .normal a w := by
    intro listed a w hs hc hm hr
    refine hQ a w hc (mixS_done _ a (fun x hx => ?_) hm)
    obtain ⟨j, hj⟩ := List.getElem?_of_mem hx
    rw [flagsS_get] at hj
    cases ho : ops[j]? with
    | none => rw [ho] at hj; cases hj
    | some o =>
      rw [ho] at hj
      cases hj
      exact ready_nil_all hp hs hr j (Array.getElem?_eq_some_iff.1 ho).1
  intro fuel
  induction fuel with
  | zero =>
    intro listed a w hs hf hc hm
    have hr : Region.ready md ops listed = [] := by
      rw [List.eq_nil_iff_forall_not_mem]
      intro j hj
      have := leftS_set (mem_ready.1 hj).1
      omega
    exact ⟨hr, hend listed a w hs hc hm hr⟩
  | succ fuel ih =>
    intro listed a w hs hf hc hm
    refine ⟨hend listed a w hs hc hm, fun j hj => ?_⟩
    obtain ⟨hjun, oj, hoj, hall⟩ := mem_ready.1 hj
    have hl := leftS_set hjun
    have ht := mixS_take (flagsS ops listed) j oj a (by rw [flagsS_get, hoj, hjun]; rfl) (fun i oi hi hx => by
      rw [flagsS_get] at hx
      cases hoi : ops[i]? with
      | none => rw [hoi] at hx; cases hx
      | some o =>
        rw [hoi] at hx
        simp at hx
        obtain ⟨hx1, rfl⟩ := hx
        refine pairS_apart hp hoi hoj hi (fun e he hb heq => ?_)
        have h1 := hall e he hb
        rw [heq] at h1
        rcases Nat.lt_or_ge i listed.size with h' | h'
        · simp [h'] at h1 hx1; rw [h1] at hx1; cases hx1
        · simp [Array.getElem?_eq_none h'] at h1) (hsel listed) hm
    rw [← flagsS_set hoj hl.2] at ht
    exact wpOp_of_opS hoj hc (fun a' w' hc' hk => ih _ a' w' (by simpa using hs) (by omega) hc' hk) ht

/-- ONE WALK OF THE TEXT's ORDER SERVES EVERY ORDER. -/
theorem wp_region_mixN {id : Nat} {Q : Exit → Act → World → Prop} {a : Act} {w : World} {l : List Oper} {k : Nat} (G : FuncId → Array Value → Value → Prop) (hm : P.follows .mixedOrders = true) (hB : pairS .any l.toArray = true)
    (h : mixS P l.toArray (fun w' => ∃ n, w' = w.drewN n) G (fun a' => ∀ w', (∃ n, w' = w.drewN n) → Q .normal a' w') (l.map fun o => (false, o)) a) : (Code.region id l.toArray true).wp P Q a (w.drewN k) := by
  refine wp_region_any hm (wpAny_of_mixS (C := fun w' => ∃ n, w' = w.drewN n) (G := G) hB (Q := fun a' => ∀ w', (∃ n, w' = w.drewN n) → Q .normal a' w') (fun a' w' hc hq => hq w' hc) _ _ _ _ (by simp) ?_ ⟨k + 1, rfl⟩ ?_)
  · unfold leftS; simp
  · have e : flagsS l.toArray (Array.replicate l.toArray.size false) = l.map fun o => (false, o) := by
      refine List.ext_getElem? fun i => ?_
      rw [flagsS_get, List.getElem?_map]
      cases hi : l[i]? with
      | none => simp [hi]
      | some o =>
        obtain ⟨hlt, he⟩ := List.getElem?_eq_some_iff.1 hi
        simp [hlt, he]
    rw [e]; exact h
theorem wp_region_mixS {id : Nat} {Q : Exit → Act → World → Prop} {a : Act} {w : World} {l : List Oper} (G : FuncId → Array Value → Value → Prop) (hm : P.follows .mixedOrders = true) (hB : pairS .any l.toArray = true)
    (h : mixS P l.toArray (fun w' => ∃ n, w' = w.drewN n) G (fun a' => ∀ w', (∃ n, w' = w.drewN n) → Q .normal a' w') (l.map fun o => (false, o)) a) : (Code.region id l.toArray true).wp P Q a w :=
  wp_region_mixN (k := 0) G hm hB h

/-! ### The walk of such a region -/

theorem mixS_step {Q : Act → Prop} {a : Act} {o : Oper} {l : List (Bool × Oper)} (h : ∀ K : Act → Prop, (∀ a, mixS P ops C G Q l a → K a) → opS P ops C G o a K) : mixS P ops C G Q ((false, o) :: l) a :=
  h _ (fun _ h => h)
theorem mixS_nil {Q : Act → Prop} {a : Act} (h : Q a) : mixS P ops C G Q [] a := h
end

@[simp] theorem exists_drewN (w : World) (n : Nat) : (∃ m, w.drewN n = w.drewN m) ↔ True := ⟨fun _ => trivial, fun _ => ⟨n, rfl⟩⟩

section
variable {P : Program} {w : World} {ops : Array Oper} {G : FuncId → Array Value → Value → Prop} {o : Oper} {a : Act} {K : Act → Prop}

/-- An operation that gives one value and leaves the world alone. -/
theorem opS_of_run (hw : Region.wanted o (yielded ops a.tmps) = true) (R : Value → Prop)
    (hrun : ∀ n, ∃ v m, (execOp a.eval o).run P (w.drewN n) = .ok (.value v) (w.drewN m) ∧ R v) (hK : ∀ v, R v → K (a.put o.dst v)) : opS P ops (fun w' => ∃ n, w' = w.drewN n) G o a K := by
  unfold opS
  rw [if_pos hw]
  rintro w' ⟨n, rfl⟩
  obtain ⟨v, m, hr, hR⟩ := hrun n
  rw [hr]
  exact ⟨⟨m, rfl⟩, fun u hu => by cases hu; exact hK v hR⟩

/-- An operation whose guard says no. -/
theorem opS_skip {C : World → Prop} (hw : Region.wanted o (yielded ops a.tmps) = false) (h : K (a.put o.dst undef)) : opS P ops C G o a K := by
  unfold opS
  rw [if_neg (by rw [hw]; decide)]
  exact h
end
end Go.Proofs.YtgfnchggflecgaaGreatDoor
