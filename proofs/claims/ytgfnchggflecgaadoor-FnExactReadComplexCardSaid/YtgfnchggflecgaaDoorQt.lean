/-
  A REGION THAT DRAWS ITS ORDER AND ENDS IN ONE FORCED ORDER (a new block, an append, a store): its first operation, a mere copy, is taken first; those up to the tail in the text's order; the tail as it stands.
  Own work; no condition beyond what each lemma names.
-/
import Derived.Test.YtgfnchggflecgaaDoorQf
import Derived.StillTail
namespace Go.Proofs.YtgfnchggflecgaaDoor
open Go

section
variable {P : Program} {ops : Array Oper} {C : World → Prop} {G : FuncId → Array Value → Value → Prop} {md : Region.Mode}

/-- Each operation of the head (from 'lo' on) is waited for by a later one, at most the first of the tail. -/
def sinkF (md : Region.Mode) (ops : Array Oper) (lo n : Nat) : Bool := (List.range n).all fun i => decide (i < lo) || (List.range (n + 1)).any fun j => decide (i < j) && Region.waitsFor md ops j i
/-- Edges lead back; two of the head of which the later does not wait for the earlier are apart. -/
def pairF (md : Region.Mode) (ops : Array Oper) (lo n : Nat) : Bool :=
  Region.noSelect ops && ((List.range ops.size).all fun j => match ops[j]? with
    | some oj => oj.after.all fun e => !Region.binds md e || decide (e.on < j)
    | none => true) && ((List.range n).all fun j => (List.range j).all fun i => decide (i < lo) || Region.waitsFor md ops j i || match ops[i]?, ops[j]? with
    | some oi, some oj => oi.apart ops oj
    | _, _ => true)

theorem pairF_edge {lo n : Nat} (h : pairF md ops lo n = true) {j : Nat} {oj : Oper} (hj : ops[j]? = some oj) {e : Edge} (he : e ∈ oj.after) (hb : Region.binds md e = true) : e.on < j := by
  unfold pairF at h
  rw [Bool.and_eq_true, Bool.and_eq_true, List.all_eq_true] at h
  have h1 := h.1.2 j (List.mem_range.2 (Array.getElem?_eq_some_iff.1 hj).1)
  simp only [hj] at h1
  have h2 := Array.all_eq_true_iff_forall_mem.1 h1 e he
  simpa [hb] using h2
theorem pairF_apart {lo n : Nat} (h : pairF md ops lo n = true) {i j : Nat} {oi oj : Oper} (hi : ops[i]? = some oi) (hj : ops[j]? = some oj) (hij : i < j) (hjn : j < n) (hlo : lo ≤ i) (hno : ∀ e ∈ oj.after, Region.binds md e = true → e.on ≠ i) : oi.apart ops oj = true := by
  unfold pairF at h
  rw [Bool.and_eq_true, List.all_eq_true] at h
  have h1 := List.all_eq_true.1 (h.2 j (List.mem_range.2 hjn)) i (List.mem_range.2 hij)
  simp only [hi, hj, Bool.or_eq_true, decide_eq_true_eq] at h1
  rcases h1 with (h1 | h1) | h1
  · omega
  · obtain ⟨o', ho', e, he, hb, hon⟩ := Region.waitsFor_spec h1
    rw [hj] at ho'
    cases ho'
    exact absurd hon (hno e he hb)
  · exact h1

theorem not_ready_of_wait {listed : Array Bool} {j i : Nat} (hw : Region.waitsFor md ops j i = true) (hun : listed.getD i false = false) : j ∉ Region.ready md ops listed := by
  intro hr
  obtain ⟨_, oj, hoj, hall⟩ := mem_ready.1 hr
  obtain ⟨o', ho', e, he, hb, hon⟩ := Region.waitsFor_spec hw
  rw [hoj] at ho'
  cases ho'
  have := hall e he hb
  rw [hon, hun] at this
  cases this

/-- While one of the head has not come up, none of the tail may. -/
theorem tail_not {lo n : Nat} {listed : Array Bool} (hs : sinkF md ops lo n = true) (hc : Region.chainB md ops n = true) (hn : n < ops.size) (inv : HeadInv md ops n listed) :
    ∀ (d i : Nat), n - i ≤ d → lo ≤ i → i < n → listed.getD i true = false → ∀ t ∈ Region.ready md ops listed, t < n := by
  have hhead : ∀ (d i : Nat), n - i ≤ d → lo ≤ i → i < n → listed.getD i true = false → n ∉ Region.ready md ops listed := by
    intro d
    induction d with
    | zero => intro i h1 _ h2; omega
    | succ d ih =>
      intro i h1 hlo hi hun
      unfold sinkF at hs
      have h2 := List.all_eq_true.1 hs i (List.mem_range.2 hi)
      simp only [Bool.or_eq_true, decide_eq_true_eq, List.any_eq_true, List.mem_range, Bool.and_eq_true] at h2
      rcases h2 with h2 | ⟨j, hj, hij, hw⟩
      · omega
      · have huf := getD_both hun
        by_cases hjn : j = n
        · subst hjn
          exact not_ready_of_wait hw huf
        · refine ih j (by omega) (by omega) (by omega) ?_
          cases hl : listed.getD j false with
          | false =>
            exact getD_in (by rw [inv.size]; omega) hl
          | true =>
            exfalso
            obtain ⟨oj, hoj, e, he, hb, hon⟩ := Region.waitsFor_spec hw
            have := inv.closed j oj hoj hl e he hb
            rw [hon, huf] at this
            cases this
  intro d i h1 hlo hi hun t ht
  refine Nat.lt_of_not_le fun htn => ?_
  rcases Nat.lt_or_eq_of_le htn with h | h
  · have hts : t < ops.size := by
      obtain ⟨_, ot, hot, _⟩ := mem_ready.1 ht
      exact (Array.getElem?_eq_some_iff.1 hot).1
    unfold Region.chainB at hc
    have h2 := List.all_eq_true.1 hc t (List.mem_range.2 hts)
    simp only [Bool.or_eq_true, decide_eq_true_eq] at h2
    rcases h2 with h2 | h2
    · omega
    · exact not_ready_of_wait h2 (getD_both (inv.tail (t - 1) (by omega) (by omega))) ht
  · subst h
    exact hhead d i h1 hlo hi hun ht

theorem ready_nil_allF {lo n : Nat} (hp : pairF md ops lo n = true) {listed : Array Bool} (hs : listed.size = ops.size) (h : Region.ready md ops listed = []) : ∀ j, j < ops.size → listed.getD j true = true := by
  intro j
  induction j using Nat.strongRecOn with
  | _ j ih =>
    intro hj
    cases hc : listed.getD j true with
    | true => rfl
    | false =>
      have hm : j ∈ Region.ready md ops listed := by
        rw [mem_ready]
        refine ⟨hc, ops[j], by simp [hj], fun e he hb => ?_⟩
        have hlt := pairF_edge hp (j := j) (oj := ops[j]) (by simp [hj]) he hb
        have h1 := ih e.on hlt (by omega)
        have hsz : e.on < listed.size := by omega
        simp [hsz] at h1 ⊢; exact h1
      rw [h] at hm; cases hm

/-- How many of the head have not come up. -/
def leftN (n : Nat) (listed : Array Bool) : Nat := (listed.toList.take n).count false
theorem leftN_set {n : Nat} {listed : Array Bool} {j : Nat} (hj : j < n) (h : listed.getD j true = false) : leftN n (listed.setIfInBounds j true) + 1 = leftN n listed := by
  have hlt : j < listed.size := by
    rcases Nat.lt_or_ge j listed.size with h' | h'
    · exact h'
    · simp [Array.getElem?_eq_none h'] at h
  unfold leftN
  rw [Array.toList_setIfInBounds, List.take_set]
  have hl : j < (listed.toList.take n).length := by simp; omega
  have hg : (listed.toList.take n)[j] = false := by
    simp [hlt] at h ⊢; exact h
  have hpos : 0 < (listed.toList.take n).count false := List.count_pos_iff.2 (by rw [← hg]; exact List.getElem_mem hl)
  have e := List.count_set (l := listed.toList.take n) (i := j) (a := true) (b := false) hl
  rw [hg] at e
  rw [e]
  generalize (listed.toList.take n).count false = m at *
  show m - 1 + 0 + 1 = m
  omega
theorem leftN_zero {n : Nat} {listed : Array Bool} (h : leftN n listed = 0) {j : Nat} (hj : j < n) : listed.getD j true = true := by
  rcases Nat.lt_or_ge j listed.size with h' | h'
  · unfold leftN at h
    rw [List.count_eq_zero] at h
    cases hc : listed.getD j true with
    | true => rfl
    | false =>
      exfalso
      refine h ?_
      have hl : j < (listed.toList.take n).length := by simp; omega
      have hg : (listed.toList.take n)[j] = false := by
        simp [h'] at hc ⊢; exact hc
      rw [← hg]; exact List.getElem_mem hl
  · simp [Array.getElem?_eq_none h']
theorem leftN_pos {n : Nat} {listed : Array Bool} (h : leftN n listed ≠ 0) : ∃ j, j < n ∧ listed.getD j true = false := by
  unfold leftN at h
  have hm : false ∈ listed.toList.take n := List.count_pos_iff.1 (Nat.pos_of_ne_zero h)
  obtain ⟨j, hj, he⟩ := List.getElem_of_mem hm
  have hj2 : j < n ∧ j < listed.size := by simp at hj; exact Nat.lt_min.1 hj
  exact ⟨j, hj2.1, by simp at he; simp [hj2.2, he]⟩

/-- The list of what has come up when the head is done. -/
def doneN (n m : Nat) : Array Bool := (List.replicate n true ++ List.replicate m false).toArray
theorem done_of {n : Nat} {listed : Array Bool} (inv : HeadInv md ops n listed) (hn : n ≤ ops.size) (h : ∀ j, j < n → listed.getD j true = true) : listed = doneN n (ops.size - n) := by
  have hsz := inv.size
  have e : listed.toList = List.replicate n true ++ List.replicate (ops.size - n) false := by
    refine List.ext_getElem (by simp; omega) fun j h1 h2 => ?_
    have hjs : j < listed.size := by simpa using h1
    rw [List.getElem_append]
    simp only [List.length_replicate, List.getElem_replicate, Array.getElem_toList]
    by_cases hj : j < n
    · have := h j hj
      simp [hjs] at this
      simp [hj, this]
    · have := inv.tail j (by omega) (by omega)
      simp [hjs] at this
      simp [hj, this]
  unfold doneN
  rw [← e]

theorem wpAny_mixT {lo n : Nat} {l : List Oper} (ho : ops = l.toArray) (hp : pairF md ops lo n = true) (hs : sinkF md ops lo n = true) (hc : Region.chainB md ops n = true) (hn : n < ops.size) (hq : Region.seqB md ops (ops.size - n) n (doneN n (ops.size - n)) = true)
    {Q : Act → Prop} {Q' : Exit → Act → World → Prop} (hQ : ∀ a w, C w → Q a → wpList P ops Q' (l.drop n) a w) :
    ∀ (f : Nat) (listed : Array Bool) (a : Act) (w : World), HeadInv md ops n listed → (∀ i, i < lo → listed.getD i true = true) → leftN n listed = f → C w → mixS P ops C G Q ((flagsS ops listed).take n) a → wpAny P md ops Q' (f + (ops.size - n)) listed a w := by
  have hsel : ∀ (listed : Array Bool), ∀ x ∈ (flagsS ops listed).take n, ∀ cs b, x.2.op ≠ .select cs b := by
    intro listed x hx cs b
    obtain ⟨j, hj⟩ := List.getElem?_of_mem (List.mem_of_mem_take hx)
    rw [flagsS_get] at hj
    cases ho : ops[j]? with
    | none => rw [ho] at hj; cases hj
    | some o =>
      rw [ho] at hj
      cases hj
      unfold pairF at hp
      rw [Bool.and_eq_true, Bool.and_eq_true] at hp
      exact Region.noSelect_spec hp.1.1 j o cs b ho
  have hget : ∀ (listed : Array Bool) (j : Nat), j < n → ((flagsS ops listed).take n)[j]? = (ops[j]?).map fun o => (listed.getD j true, o) := fun listed j hj => by
    rw [List.getElem?_take_of_lt hj, flagsS_get]
  have hdl : (l.drop n).length = ops.size - n := by rw [ho]; simp
  intro f
  induction f with
  | zero =>
    intro listed a w inv hlo hf hC hm
    have hall := fun j hj => leftN_zero hf (j := j) hj
    have hd := done_of inv (Nat.le_of_lt hn) hall
    have hQa := mixS_done _ a (fun x hx => by
      obtain ⟨j, hj⟩ := List.getElem?_of_mem hx
      have hjn : j < n := by
        have := (List.getElem?_eq_some_iff.1 hj).1
        simp at this; omega
      rw [hget listed j hjn] at hj
      cases ho : ops[j]? with
      | none => rw [ho] at hj; cases hj
      | some o =>
        rw [ho] at hj
        cases hj
        exact hall j hjn) hm
    have h := wpAny_of_seq (md := md) (Q' := Q') (l.drop n) n listed a w (fun j => by rw [ho, List.getElem?_drop]; simp) (by rw [hdl, hd]; exact hq) (hQ a w hC hQa)
    rw [hdl] at h
    rwa [Nat.zero_add]
  | succ f ih =>
    intro listed a w inv hlo hf hC hm
    obtain ⟨i0, hi0, hu0⟩ := leftN_pos (n := n) (listed := listed) (by omega)
    have hlo0 : lo ≤ i0 := by
      refine Nat.le_of_not_lt fun h => ?_
      rw [hlo i0 h] at hu0; cases hu0
    rw [show f + 1 + (ops.size - n) = (f + (ops.size - n)) + 1 by omega]
    refine ⟨fun h => ?_, fun j hj => ?_⟩
    · have := ready_nil_allF hp inv.size h i0 (by omega)
      rw [this] at hu0; cases hu0
    · have hjn := tail_not hs hc hn inv _ i0 (Nat.le_refl _) hlo0 hi0 hu0 j hj
      obtain ⟨hjun, oj, hoj, hall⟩ := mem_ready.1 hj
      have ht := mixS_take ((flagsS ops listed).take n) j oj a (by rw [hget listed j hjn, hoj, hjun]; rfl) (fun i oi hi hx => by
        rw [hget listed i (by omega)] at hx
        cases hoi : ops[i]? with
        | none => rw [hoi] at hx; cases hx
        | some o =>
          rw [hoi] at hx
          simp at hx
          obtain ⟨hx1, rfl⟩ := hx
          have hiu : listed.getD i true = false := by simpa using hx1
          have hloi : lo ≤ i := by
            refine Nat.le_of_not_lt fun h => ?_
            rw [hlo i h] at hiu; cases hiu
          refine pairF_apart hp hoi hoj hi hjn hloi (fun e he hb heq => ?_)
          have h1 := hall e he hb
          rw [heq, getD_both hiu] at h1
          cases h1) (hsel listed) hm
      rw [← List.take_set, ← flagsS_set hoj (leftS_set hjun).2] at ht
      have hl := leftN_set hjn hjun
      exact wpOp_of_opS hoj hC (fun a' w' hc' hk => ih _ a' w' (inv.set hj hjn) (fun i hi => by
        by_cases e : j = i
        · subst e; rw [hlo j hi] at hjun; cases hjun
        · rw [getD_set_ne true e]; exact hlo i hi) (by omega) hc' hk) ht

/-- THE REGION: its first operation copies; the head in the text's order; the tail as it stands. -/
theorem wp_region_mixT {id : Nat} {Q : Exit → Act → World → Prop} {a : Act} {w : World} {o0 : Oper} {l : List Oper} {v : Value} (n : Nat) (G : FuncId → Array Value → Value → Prop) (hm : P.follows .mixedOrders = true)
    (hp : pairF .any (o0 :: l).toArray 1 (n + 1) = true) (hs : sinkF .any (o0 :: l).toArray 1 (n + 1) = true) (hc : Region.chainB .any (o0 :: l).toArray (n + 1) = true) (hn : decide (n < l.length) = true)
    (hq : Region.seqB .any (o0 :: l).toArray (l.length - n) (n + 1) (doneN (n + 1) (l.length - n)) = true) (hf : Region.free .any (o0 :: l).toArray (Array.replicate (l.length + 1) false) 0 = true) (hr : (Region.ready .any (o0 :: l).toArray (Array.replicate (l.length + 1) false)).contains 0 = true)
    (hpan : ∀ c a w, Q (.panic c) (a.put o0.dst v) w → Q (.panic c) a w) (hy : Yields P (o0 :: l).toArray o0 v a) (hA : o0.after = #[])
    (h : mixS P (o0 :: l).toArray (fun w' => ∃ n, w' = w.drewN n) G (fun a' => ∀ w', (∃ n, w' = w.drewN n) → wpList P (o0 :: l).toArray Q (l.drop n) a' w') ((l.take n).map fun o => (false, o)) (a.put o0.dst v)) :
    (Code.region id (o0 :: l).toArray true).wp P Q a w := by
  have hn := of_decide_eq_true hn
  have hsz : (o0 :: l).toArray.size = l.length + 1 := by simp
  refine wp_region_any hm ?_
  rw [hsz]
  refine wpAny_take (i := 0) (oi := o0) (v := v) (by simp) (by unfold pairF at hp; rw [Bool.and_eq_true, Bool.and_eq_true] at hp; exact hp.1.1) hf hr hpan hy ?_
  have inv : HeadInv .any (o0 :: l).toArray (n + 1) ((Array.replicate (l.length + 1) false).setIfInBounds 0 true) := by
    refine ⟨by simp, fun j oj hj hl e he hb => ?_, fun t ht ht' => ?_⟩
    · by_cases hj0 : 0 = j
      · subst hj0
        have : oj = o0 := by simpa using hj.symm
        subst this
        rw [hA] at he; simp at he
      · rw [getD_set_ne false hj0, getD_replicate_false] at hl; cases hl
    · rw [getD_set_ne true (by omega)]
      exact getD_in (by simp; rw [hsz] at ht'; omega) (getD_replicate_false _ _)
  have hfl : (flagsS (o0 :: l).toArray ((Array.replicate (l.length + 1) false).setIfInBounds 0 true)).take (n + 1) = (true, o0) :: ((l.take n).map fun o => (false, o)) := by
    refine List.ext_getElem? fun i => ?_
    by_cases hi : i < n + 1
    · rw [List.getElem?_take_of_lt hi, flagsS_get]
      cases i with
      | zero => simp
      | succ i =>
        have hil : i < l.length := by omega
        simp [List.getElem?_take_of_lt (show i < n by omega), hil]
    · rw [List.getElem?_eq_none (by simp; omega), List.getElem?_eq_none (by simp; omega)]
  have hcount : leftN (n + 1) ((Array.replicate (l.length + 1) false).setIfInBounds 0 true) = n := by
    unfold leftN
    rw [Array.toList_setIfInBounds, Array.toList_replicate, List.replicate_succ, List.set_cons_zero, List.take_succ_cons, List.take_replicate, List.count_cons, Nat.min_eq_left (by omega)]
    simp
  have e := wpAny_mixT (P := P) (C := fun w' => ∃ n, w' = w.drewN n) (G := G) (md := .any) (lo := 1) (n := n + 1) (l := o0 :: l) rfl hp hs hc (by rw [hsz]; omega) (by rw [hsz, show l.length + 1 - (n + 1) = l.length - n by omega]; exact hq) (Q' := Q)
    (Q := fun a' => ∀ w', (∃ n, w' = w.drewN n) → wpList P (o0 :: l).toArray Q (l.drop n) a' w') (fun a w' hc hq => by rw [List.drop_succ_cons]; exact hq w' hc) n _ (a.put o0.dst v) (w.drewN 1) inv (fun i hi => by
      have : i = 0 := by omega
      subst this; simp) hcount ⟨1, rfl⟩ (by rw [hfl]; exact h)
  rw [hsz, show n + (l.length + 1 - (n + 1)) = l.length by omega] at e
  exact e
/-- The same over any class of worlds that the head keeps. -/
theorem wp_region_mixC {C : World → Prop} {id : Nat} {Q : Exit → Act → World → Prop} {a : Act} {w : World} {o0 : Oper} {l : List Oper} {v : Value} (n : Nat) (G : FuncId → Array Value → Value → Prop) (hm : P.follows .mixedOrders = true)
    (hp : pairF .any (o0 :: l).toArray 1 (n + 1) = true) (hs : sinkF .any (o0 :: l).toArray 1 (n + 1) = true) (hc : Region.chainB .any (o0 :: l).toArray (n + 1) = true) (hn : decide (n < l.length) = true)
    (hq : Region.seqB .any (o0 :: l).toArray (l.length - n) (n + 1) (doneN (n + 1) (l.length - n)) = true) (hf : Region.free .any (o0 :: l).toArray (Array.replicate (l.length + 1) false) 0 = true) (hr : (Region.ready .any (o0 :: l).toArray (Array.replicate (l.length + 1) false)).contains 0 = true)
    (hpan : ∀ c a w, Q (.panic c) (a.put o0.dst v) w → Q (.panic c) a w) (hy : Yields P (o0 :: l).toArray o0 v a) (hA : o0.after = #[]) (hC1 : C (w.drewN 1))
    (h : mixS P (o0 :: l).toArray C G (fun a' => ∀ w', C w' → wpList P (o0 :: l).toArray Q (l.drop n) a' w') ((l.take n).map fun o => (false, o)) (a.put o0.dst v)) :
    (Code.region id (o0 :: l).toArray true).wp P Q a w := by
  have hn := of_decide_eq_true hn
  have hsz : (o0 :: l).toArray.size = l.length + 1 := by simp
  refine wp_region_any hm ?_
  rw [hsz]
  refine wpAny_take (i := 0) (oi := o0) (v := v) (by simp) (by unfold pairF at hp; rw [Bool.and_eq_true, Bool.and_eq_true] at hp; exact hp.1.1) hf hr hpan hy ?_
  have inv : HeadInv .any (o0 :: l).toArray (n + 1) ((Array.replicate (l.length + 1) false).setIfInBounds 0 true) := by
    refine ⟨by simp, fun j oj hj hl e he hb => ?_, fun t ht ht' => ?_⟩
    · by_cases hj0 : 0 = j
      · subst hj0
        have : oj = o0 := by simpa using hj.symm
        subst this
        rw [hA] at he; simp at he
      · rw [getD_set_ne false hj0, getD_replicate_false] at hl; cases hl
    · rw [getD_set_ne true (by omega)]
      exact getD_in (by simp; rw [hsz] at ht'; omega) (getD_replicate_false _ _)
  have hfl : (flagsS (o0 :: l).toArray ((Array.replicate (l.length + 1) false).setIfInBounds 0 true)).take (n + 1) = (true, o0) :: ((l.take n).map fun o => (false, o)) := by
    refine List.ext_getElem? fun i => ?_
    by_cases hi : i < n + 1
    · rw [List.getElem?_take_of_lt hi, flagsS_get]
      cases i with
      | zero => simp
      | succ i =>
        have hil : i < l.length := by omega
        simp [List.getElem?_take_of_lt (show i < n by omega), hil]
    · rw [List.getElem?_eq_none (by simp; omega), List.getElem?_eq_none (by simp; omega)]
  have hcount : leftN (n + 1) ((Array.replicate (l.length + 1) false).setIfInBounds 0 true) = n := by
    unfold leftN
    rw [Array.toList_setIfInBounds, Array.toList_replicate, List.replicate_succ, List.set_cons_zero, List.take_succ_cons, List.take_replicate, List.count_cons, Nat.min_eq_left (by omega)]
    simp
  have e := wpAny_mixT (P := P) (C := C) (G := G) (md := .any) (lo := 1) (n := n + 1) (l := o0 :: l) rfl hp hs hc (by rw [hsz]; omega) (by rw [hsz, show l.length + 1 - (n + 1) = l.length - n by omega]; exact hq) (Q' := Q)
    (Q := fun a' => ∀ w', C w' → wpList P (o0 :: l).toArray Q (l.drop n) a' w') (fun a w' hc hq => by rw [List.drop_succ_cons]; exact hq w' hc) n _ (a.put o0.dst v) (w.drewN 1) inv (fun i hi => by
      have : i = 0 := by omega
      subst this; simp) hcount hC1 (by rw [hfl]; exact h)
  rw [hsz, show n + (l.length + 1 - (n + 1)) = l.length by omega] at e
  exact e
end
end Go.Proofs.YtgfnchggflecgaaDoor
