/- A region that draws its order, walked by what holds: each operation is shown once, whatever has come up before it. (Plain theorems over any program.) -/
import Derived.Orders
import Derived.RegionTactic
set_option linter.unusedVariables false
set_option linter.unusedSimpArgs false
namespace Go.Proofs.YtjcocepmmjmckaaDoor.RegInv
open Go

/-- A frame of N slots. -/
def actOf (N : Nat) (g : Nat → Value) (ds : List Deferred) : Act := ⟨((List.range N).map g).toArray, ds⟩
def upd (g : Nat → Value) (k : Nat) (v : Value) : Nat → Value := fun j => if j = k then v else g j
def updO (g : Nat → Value) : Option Tmp → Value → Nat → Value
  | some k, v => upd g k v
  | none, _ => g
theorem upd_same (g : Nat → Value) (k : Nat) (v : Value) : upd g k v k = v := by simp [upd]
theorem upd_ne (g : Nat → Value) {k j : Nat} (v : Value) (h : j ≠ k) : upd g k v j = g j := by simp [upd, h]
theorem actOf_eval (N : Nat) (g : Nat → Value) (ds : List Deferred) (k : Nat) (h : k < N) : (actOf N g ds).eval (.tmp k) = g k := by
  simp [actOf, Act.eval, h]
theorem actOf_getD (N : Nat) (g : Nat → Value) (ds : List Deferred) (k : Nat) (h : k < N) : (actOf N g ds).tmps.getD k undef = g k := by
  simp [actOf, h]
theorem actOf_q (N : Nat) (g : Nat → Value) (ds : List Deferred) (k : Nat) (h : k < N) : (actOf N g ds).tmps[k]?.getD undef = g k := by
  simp [actOf, h]
theorem actOf_const (N : Nat) (g : Nat → Value) (ds : List Deferred) (v : Value) : (actOf N g ds).eval (.const v) = v := rfl
theorem actOf_put (N : Nat) (g : Nat → Value) (ds : List Deferred) (k : Nat) (v : Value) : (actOf N g ds).put (some k) v = actOf N (upd g k v) ds := by
  show (⟨((List.range N).map g).toArray.setIfInBounds k v, ds⟩ : Act) = ⟨((List.range N).map (upd g k v)).toArray, ds⟩
  congr 1
  apply Array.ext'
  rw [Array.toList_setIfInBounds]
  refine List.ext_getElem? fun j => ?_
  rw [List.getElem?_set]
  by_cases hj : j < N
  · by_cases e : k = j
    · subst e
      simp [hj, upd]
    · have e' : ¬ j = k := fun x => e x.symm
      simp [e, e', hj, upd]
  · by_cases e : k = j
    · subst e; simp [hj]
    · simp [e, hj]
theorem actOf_putO (N : Nat) (g : Nat → Value) (ds : List Deferred) (d : Option Tmp) (v : Value) : (actOf N g ds).put d v = actOf N (updO g d v) ds := by
  cases d with
  | none => rfl
  | some k => exact actOf_put N g ds k v
theorem act_of (a : Act) : a = actOf a.tmps.size (fun k => a.tmps.getD k undef) a.defers := by
  obtain ⟨⟨l⟩, ds⟩ := a
  unfold actOf
  congr 2
  refine List.ext_getElem? fun j => ?_
  by_cases hj : j < l.length
  · simp [hj]
  · simp [hj]
def distB (ops : Array Oper) : Bool := (List.range ops.size).all fun i => (List.range ops.size).all fun j => i == j || match ops[i]?, ops[j]? with
  | some x, some y => x.dst == none || !(x.dst == y.dst)
  | _, _ => true
def orderB (ops : Array Oper) : Bool := (List.range ops.size).all fun i => match ops[i]? with
  | some o => o.after.all fun e => !Region.binds .any e || decide (e.on < i)
  | none => true
/-- Operation i waits for j. -/
def depB (ops : Array Oper) (i j : Nat) : Bool := ((ops[i]?).map fun o => o.after.any fun e => e.on == j && Region.binds .any e) == some true
theorem op_at {ops : Array Oper} {i : Nat} {o : Oper} (hi : ops[i]? = some o) {op : Op} {d : Option Tmp} (h : (ops[i]?).map (fun o => (o.op, o.dst, o.guard)) = some (op, d, none)) : o.op = op ∧ o.dst = d ∧ o.guard = none := by
  rw [hi] at h
  simp only [Option.map_some, Option.some.injEq, Prod.mk.injEq] at h
  exact h
theorem dep_at {ops : Array Oper} {l : Array Bool} {i : Nat} {o : Oper} (hi : ops[i]? = some o) (hr : ∀ e ∈ o.after, Region.binds .any e = true → l.getD e.on false = true) (j : Nat) (h : depB ops i j = true) : l.getD j false = true := by
  unfold depB at h
  rw [hi] at h
  have h1 : (o.after.any fun e => e.on == j && Region.binds .any e) = true := by simpa using h
  obtain ⟨e, he, hb⟩ := Array.any_eq_true'.1 h1
  rw [Bool.and_eq_true] at hb
  have hj : e.on = j := by simpa using hb.1
  rw [← hj]
  exact hr e he hb.2
def noDstB (ops : Array Oper) (k : Nat) : Bool := ops.all fun o => !(o.dst == some k)
section
variable {P : Program} {ops : Array Oper} {Q : Exit → Act → World → Prop}
theorem dist_of (h : distB ops = true) {i j : Nat} {x y : Oper} {d : Nat} (hi : ops[i]? = some x) (hj : ops[j]? = some y) (hx : x.dst = some d) (hy : y.dst = some d) : i = j := by
  have h1 := List.all_eq_true.1 h i (List.mem_range.2 (Array.getElem?_eq_some_iff.1 hi).1)
  have h2 := List.all_eq_true.1 h1 j (List.mem_range.2 (Array.getElem?_eq_some_iff.1 hj).1)
  simp only [hi, hj, hx, hy, Bool.or_eq_true, beq_iff_eq] at h2
  rcases h2 with h2 | h2
  · exact h2
  · simp at h2
/-- What holds while a region runs. -/
structure RInv (ops : Array Oper) (g0 : Nat → Value) (Φ : Array Bool → Nat → Value → World → Prop) (B : Array Bool → (Nat → Value) → World → Prop) (l : Array Bool) (g : Nat → Value) (w : World) : Prop where
  len : l.size = ops.size
  base : B l g w
  closed : ∀ (j : Nat) (o : Oper), ops[j]? = some o → l.getD j false = true → ∀ e ∈ o.after, Region.binds .any e = true → l.getD e.on false = true
  done : ∀ i o d, ops[i]? = some o → o.dst = some d → l.getD i false = true → Φ l d (g d) w
  kept : ∀ k, (∀ (i : Nat) (o : Oper), ops[i]? = some o → o.dst = some k → l.getD i false = false) → g k = g0 k
theorem RInv.keep {g0 : Nat → Value} {Φ : Array Bool → Nat → Value → World → Prop} {B : Array Bool → (Nat → Value) → World → Prop} {l : Array Bool} {g : Nat → Value} {w : World} (h : RInv ops g0 Φ B l g w) (k : Nat) (hk : noDstB ops k = true) : g k = g0 k := by
  refine h.kept k fun i o hi ho => ?_
  have h1 := Array.all_eq_true_iff_forall_mem.1 hk o (Array.mem_of_getElem? hi)
  rw [ho] at h1
  simp at h1
/-- Operation j alone writes slot k. -/
def soleB (ops : Array Oper) (k j : Nat) : Bool := (List.range ops.size).all fun i => i == j || ((ops[i]?).map fun o => o.dst == some k) != some true
/-- A slot whose writer is still to come. -/
theorem RInv.keepOf {g0 : Nat → Value} {Φ : Array Bool → Nat → Value → World → Prop} {B : Array Bool → (Nat → Value) → World → Prop} {l : Array Bool} {g : Nat → Value} {w : World} (h : RInv ops g0 Φ B l g w) (k j : Nat) (hk : soleB ops k j = true) (hl : l.getD j false = false) : g k = g0 k := by
  refine h.kept k fun i o hi ho => ?_
  have h1 := List.all_eq_true.1 hk i (List.mem_range.2 (Array.getElem?_eq_some_iff.1 hi).1)
  rw [hi] at h1
  simp only [Option.map_some, ho, beq_self_eq_true, bne_self_eq_false, Bool.or_false, beq_iff_eq] at h1
  rw [h1]
  exact hl
/-- What came up waited for what it waits for. -/
theorem RInv.before {g0 : Nat → Value} {Φ : Array Bool → Nat → Value → World → Prop} {B : Array Bool → (Nat → Value) → World → Prop} {l : Array Bool} {g : Nat → Value} {w : World} (h : RInv ops g0 Φ B l g w) (i j : Nat) (hd : depB ops i j = true) (hl : l.getD j false = false) : l.getD i false = false := by
  cases hq : l.getD i false with
  | false => rfl
  | true =>
    exfalso
    cases hi : ops[i]? with
    | none =>
      unfold depB at hd
      rw [hi] at hd
      simp at hd
    | some o =>
      have := dep_at hi (fun e he hb => h.closed i o hi hq e he hb) j hd
      rw [hl] at this
      cases this
/-- What has come up holds. -/
theorem RInv.at_ {g0 : Nat → Value} {Φ : Array Bool → Nat → Value → World → Prop} {B : Array Bool → (Nat → Value) → World → Prop} {l : Array Bool} {g : Nat → Value} {w : World} (h : RInv ops g0 Φ B l g w) {j : Nat} {op : Op} {d : Nat}
    (hj : (ops[j]?).map (fun o => (o.op, o.dst, o.guard)) = some (op, some d, none)) (hl : l.getD j false = true) : Φ l d (g d) w := by
  cases hq : ops[j]? with
  | none => rw [hq] at hj; simp at hj
  | some o =>
    obtain ⟨_, e2, _⟩ := op_at hq (by rw [hq]; rw [hq] at hj; exact hj)
    exact h.done j o d hq e2 hl
theorem getD_set_cases {l : Array Bool} {i j : Nat} (h : (l.setIfInBounds i true).getD j false = true) : i = j ∨ l.getD j false = true := by
  by_cases e : i = j
  · exact .inl e
  · right
    rwa [getD_set_ne false e] at h
theorem RInv.put {g0 : Nat → Value} {Φ : Array Bool → Nat → Value → World → Prop} {B : Array Bool → (Nat → Value) → World → Prop} {l : Array Bool} {g : Nat → Value} {w w' : World} (h : RInv ops g0 Φ B l g w) (hd : distB ops = true) {i : Nat} {o : Oper} (hi : ops[i]? = some o) {N : Option Tmp} (hN : o.dst = N) {v : Value}
    (hB : B (l.setIfInBounds i true) (updO g N v) w') (hv : ∀ d, N = some d → Φ (l.setIfInBounds i true) d v w') (hr : ∀ e ∈ o.after, Region.binds .any e = true → l.getD e.on false = true) (hst : ∀ (j : Nat) (oj : Oper) (d' : Nat) (u : Value), ops[j]? = some oj → oj.dst = some d' → l.getD j false = true → j ≠ i → Φ l d' u w → Φ (l.setIfInBounds i true) d' u w') : RInv ops g0 Φ B (l.setIfInBounds i true) (updO g N v) w' := by
  subst hN
  refine ⟨by simpa using h.len, hB, fun j oj hj hl e he hb => ?_, fun j oj d hj hdj hl => ?_, fun k hk => ?_⟩
  · refine getD_set_true ?_
    rcases getD_set_cases hl with rfl | hl
    · rw [hi] at hj
      injection hj with hj
      subst hj
      exact hr e he hb
    · exact h.closed j oj hj hl e he hb
  · by_cases hij : i = j
    · subst hij
      rw [hi] at hj
      injection hj with hj
      subst hj
      rw [hdj]
      show Φ _ d (upd g d v d) w'
      rw [upd_same]
      exact hv d hdj
    · rcases getD_set_cases hl with e | hl
      · exact absurd e hij
      have e : ¬ (o.dst = some d) := fun e => hij (dist_of hd hi hj e hdj)
      have : updO g o.dst v d = g d := by
        cases ho : o.dst with
        | none => rfl
        | some k => exact upd_ne g v (fun x => e (by rw [ho, x]))
      rw [this]
      exact hst j oj d _ hj hdj hl (fun x => hij x.symm) (h.done j oj d hj hdj hl)
  · rw [← h.kept k fun j oj hj hdj => ?_]
    · cases ho : o.dst with
      | none => rfl
      | some k' =>
        refine upd_ne g v (fun x => ?_)
        have h1 := hk i o hi (by rw [ho, x])
        have h2 : i < l.size := by rw [h.len]; exact (Array.getElem?_eq_some_iff.1 hi).1
        simp [h2] at h1
    · have h1 := hk j oj hj hdj
      cases hq : l.getD j false with
      | false => rfl
      | true => rw [getD_set_true hq] at h1; cases h1
theorem all_listed (ho : orderB ops = true) {l : Array Bool} (hl : l.size = ops.size) (hr : Region.ready .any ops l = []) : ∀ i, i < ops.size → l.getD i false = true := by
  intro i
  induction i using Nat.strongRecOn with
  | ind i ih =>
    intro hi
    by_cases h : l.getD i false = true
    · exact h
    · exfalso
      have hmem : i ∈ Region.ready .any ops l := by
        refine mem_ready.2 ⟨?_, ops[i], Array.getElem?_eq_getElem hi, fun e he hb => ?_⟩
        · have : l.getD i true = l.getD i false := by simp [hl, hi]
          rw [this]
          simpa using h
        · have h1 := List.all_eq_true.1 ho i (List.mem_range.2 hi)
          rw [Array.getElem?_eq_getElem hi] at h1
          have h2 := Array.all_eq_true_iff_forall_mem.1 h1 e he
          rw [hb] at h2
          have h3 : e.on < i := by simpa using h2
          exact ih e.on h3 (by omega)
      rw [hr] at hmem
      cases hmem
def left (l : Array Bool) (n : Nat) : Nat := ((List.range n).filter fun i => !l.getD i false).length
theorem left_set {l : Array Bool} {n i : Nat} (hl : l.size = n) (hi : i < n) (h : l.getD i false = false) : left (l.setIfInBounds i true) n + 1 ≤ left l n := by
  unfold left
  have h1 : ((List.range n).filter fun j => !(l.setIfInBounds i true).getD j false) = ((List.range n).filter fun j => !l.getD j false).filter (fun j => !(j == i)) := by
    rw [List.filter_filter]
    refine List.filter_congr fun j hj => ?_
    by_cases e : i = j
    · subst e
      simp [hl, hi]
    · rw [getD_set_ne false e]
      have : (j == i) = false := beq_eq_false_iff_ne.mpr (fun x => e x.symm)
      simp [this]
  rw [h1]
  have hmem : i ∈ (List.range n).filter fun j => !l.getD j false := List.mem_filter.2 ⟨List.mem_range.2 hi, by rw [h]; rfl⟩
  have := (List.length_filter_lt_length_iff_exists (p := fun j => !(j == i))).2 ⟨i, hmem, by simp⟩
  omega
theorem wpAny_inv (g0 : Nat → Value) (N : Nat) (ds : List Deferred) (Φ : Array Bool → Nat → Value → World → Prop) (B : Array Bool → (Nat → Value) → World → Prop) (hd : distB ops = true) (ho : orderB ops = true)
    (step : ∀ (l : Array Bool) (g : Nat → Value) (w : World) (i : Nat) (o : Oper), ops[i]? = some o → l.getD i false = false → (∀ e ∈ o.after, Region.binds .any e = true → l.getD e.on false = true) → RInv ops g0 Φ B l g w →
      ∀ K : Act → World → Prop, (∀ g' w', RInv ops g0 Φ B (l.setIfInBounds i true) g' w' → K (actOf N g' ds) w') → if Region.wanted o (yielded ops (actOf N g ds).tmps) = true then Oper.wp P o (actOf N g ds) w K Q else K ((actOf N g ds).put o.dst undef) w)
    (fin : ∀ l g w, (∀ i, i < ops.size → l.getD i false = true) → RInv ops g0 Φ B l g w → Q .normal (actOf N g ds) w) :
    ∀ (fuel : Nat) (l : Array Bool) (g : Nat → Value) (w : World), l.size = ops.size → left l ops.size ≤ fuel → RInv ops g0 Φ B l g w → wpAny P .any ops Q fuel l (actOf N g ds) w := by
  have close : ∀ (l : Array Bool) (g : Nat → Value) (w : World), l.size = ops.size → RInv ops g0 Φ B l g w → Region.ready .any ops l = [] → Q .normal (actOf N g ds) w := by
    intro l g w hl h hr
    exact fin l g w (all_listed ho hl hr) h
  intro fuel
  induction fuel with
  | zero =>
    intro l g w hl hz h
    have hr : Region.ready .any ops l = [] := by
      cases hr : Region.ready .any ops l with
      | nil => rfl
      | cons i r =>
        exfalso
        have hm : i ∈ Region.ready .any ops l := by rw [hr]; exact List.mem_cons_self
        obtain ⟨h1, o, h2, _⟩ := mem_ready.1 hm
        have hi := (Array.getElem?_eq_some_iff.1 h2).1
        have h3 : l.getD i false = false := by have : l.getD i false = l.getD i true := by simp [hl, hi]
                                               rw [this]; exact h1
        have := left_set hl hi h3
        omega
    exact ⟨hr, close l g w hl h hr⟩
  | succ fuel ih =>
    intro l g w hl hz h
    refine ⟨fun hr => close l g w hl h hr, fun i hm => ?_⟩
    obtain ⟨h1, o, h2, h3⟩ := mem_ready.1 hm
    have hi := (Array.getElem?_eq_some_iff.1 h2).1
    have h4 : l.getD i false = false := by have : l.getD i false = l.getD i true := by simp [hl, hi]
                                           rw [this]; exact h1
    have h5 := left_set hl hi h4
    exact wpOp_step h2 (fun K hK => step l g w i o h2 h4 h3 h K (fun g' w' h' => hK _ _ (ih _ g' w' (by simpa using hl) (by omega) h')))
/-- THE LAW. -/
theorem wp_region_inv {id : Nat} {a0 : Act} {w0 : World} (hm : P.follows .mixedOrders = true) (g0 : Nat → Value) (N : Nat) (ds : List Deferred) (ha : a0 = actOf N g0 ds) (Φ : Array Bool → Nat → Value → World → Prop) (B : Array Bool → (Nat → Value) → World → Prop) (hd : distB ops = true) (ho : orderB ops = true) (hB : B (Array.replicate ops.size false) g0 w0.drew)
    (step : ∀ (l : Array Bool) (g : Nat → Value) (w : World) (i : Nat) (o : Oper), ops[i]? = some o → l.getD i false = false → (∀ e ∈ o.after, Region.binds .any e = true → l.getD e.on false = true) → RInv ops g0 Φ B l g w →
      ∀ K : Act → World → Prop, (∀ g' w', RInv ops g0 Φ B (l.setIfInBounds i true) g' w' → K (actOf N g' ds) w') → if Region.wanted o (yielded ops (actOf N g ds).tmps) = true then Oper.wp P o (actOf N g ds) w K Q else K ((actOf N g ds).put o.dst undef) w)
    (fin : ∀ l g w, (∀ i, i < ops.size → l.getD i false = true) → RInv ops g0 Φ B l g w → Q .normal (actOf N g ds) w) :
    (Code.region id ops true).wp P Q a0 w0 := by
  refine wp_region_any hm ?_
  subst ha
  have hl : left (Array.replicate ops.size false) ops.size ≤ ops.size := by
    unfold left
    have := List.length_filter_le (fun i => !(Array.replicate ops.size false).getD i false) (List.range ops.size)
    rwa [List.length_range] at this
  refine wpAny_inv g0 N ds Φ B hd ho step fin ops.size _ g0 _ (by simp) hl ⟨by simp, hB, fun i o hi hl' => ?_, fun i o d hi hd' hl' => ?_, fun k _ => rfl⟩
  · have : (Array.replicate ops.size false).getD i false = false := by
      simp [Array.getElem?_replicate]
      split <;> rfl
    rw [this] at hl'
    cases hl'
  · have : (Array.replicate ops.size false).getD i false = false := by
      simp [Array.getElem?_replicate]
      split <;> rfl
    rw [this] at hl'
    cases hl'
/-- An operation that yields a value (and may make memory). -/
theorem step_value {g0 : Nat → Value} {N : Nat} {ds : List Deferred} {Φ : Array Bool → Nat → Value → World → Prop} {B : Array Bool → (Nat → Value) → World → Prop} {l : Array Bool} {g : Nat → Value} {w w' : World} {i d : Nat} {o : Oper} {v : Value} {K : Act → World → Prop}
    (hI : RInv ops g0 Φ B l g w) (hd : distB ops = true) (hi : ops[i]? = some o) (hg : o.guard = none) (hN : o.dst = some d) (hrun : (execOp (actOf N g ds).eval o).run P w = .ok (.value v) w')
    (hK : ∀ g' w', RInv ops g0 Φ B (l.setIfInBounds i true) g' w' → K (actOf N g' ds) w')
    (hB : B (l.setIfInBounds i true) (upd g d v) w') (hv : Φ (l.setIfInBounds i true) d v w') (hr : ∀ e ∈ o.after, Region.binds .any e = true → l.getD e.on false = true) (hst : ∀ (j : Nat) (oj : Oper) (d' : Nat) (u : Value), ops[j]? = some oj → oj.dst = some d' → l.getD j false = true → j ≠ i → Φ l d' u w → Φ (l.setIfInBounds i true) d' u w') :
    if Region.wanted o (yielded ops (actOf N g ds).tmps) = true then Oper.wp P o (actOf N g ds) w K Q else K ((actOf N g ds).put o.dst undef) w := by
  rw [if_pos (by simp [Region.wanted, hg])]
  unfold Oper.wp
  rw [hrun]
  show K ((actOf N g ds).put o.dst v) w'
  rw [hN, actOf_put]
  exact hK _ _ (RInv.put (N := some d) hI hd hi hN hB (fun d' e => by injection e with e; rw [← e]; exact hv) hr hst)
/-- A call of a Go function, by its contract. -/
theorem step_call {g0 : Nat → Value} {N : Nat} {ds : List Deferred} {Φ : Array Bool → Nat → Value → World → Prop} {B : Array Bool → (Nat → Value) → World → Prop} {l : Array Bool} {g : Nat → Value} {w : World} {i d : Nat} {o : Oper} {K : Act → World → Prop} {fn : FuncId} {args : Array Value}
    (hI : RInv ops g0 Φ B l g w) (hd : distB ops = true) (hi : ops[i]? = some o) (hg : o.guard = none) (hN : o.dst = some d) (hrun : (execOp (actOf N g ds).eval o).run P w = .ok (.enter fn args) w)
    (hK : ∀ g' w', RInv ops g0 Φ B (l.setIfInBounds i true) g' w' → K (actOf N g' ds) w')
    (h : Calls P fn args w fun e w' => ∃ v, e = .returned v ∧ B (l.setIfInBounds i true) (upd g d v) w' ∧ Φ (l.setIfInBounds i true) d v w' ∧ (∀ (j : Nat) (oj : Oper) (d' : Nat) (u : Value), ops[j]? = some oj → oj.dst = some d' → l.getD j false = true → j ≠ i → Φ l d' u w → Φ (l.setIfInBounds i true) d' u w')) (hr : ∀ e ∈ o.after, Region.binds .any e = true → l.getD e.on false = true) :
    if Region.wanted o (yielded ops (actOf N g ds).tmps) = true then Oper.wp P o (actOf N g ds) w K Q else K ((actOf N g ds).put o.dst undef) w := by
  rw [if_pos (by simp [Region.wanted, hg])]
  unfold Oper.wp
  rw [hrun, Oper.upon_enter]
  refine h.mono fun e w'' hh => ?_
  obtain ⟨v, rfl, hB, hv, hst⟩ := hh
  show K ((actOf N g ds).put o.dst v) w''
  rw [hN, actOf_put]
  exact hK _ _ (RInv.put (N := some d) hI hd hi hN hB (fun d' e => by injection e with e; rw [← e]; exact hv) hr hst)
theorem run_call {N : Nat} {g : Nat → Value} {ds : List Deferred} {o : Oper} {w : World} {f : FuncId} {fn : Func} {as : Array Operand} {ts : Array TypeId} (hf : P.funcs[f]? = some fn) (hname : (fn.name == "runtime.NumGoroutine") = false) (hb : fn.body.isSome = true) (args : Array Value)
    (hop : o.op = .call { callee := .value (.func f), args := as, argTypes := ts }) (hargs : as.map (actOf N g ds).eval = args) : (execOp (actOf N g ds).eval o).run P w = .ok (.enter f args) w := by
  have h1 : fn.name ≠ "runtime.NumGoroutine" := by simpa using hname
  obtain ⟨c, hc⟩ := Option.isSome_iff_exists.1 hb
  have he : (callFunc f args).run P w = .ok (.enter f args) w := by simp [callFunc, hf, h1, hc]
  unfold execOp
  simp [hop, resolve, Deferred.ofValue, invoke, Act.eval, hargs, he]
end
end Go.Proofs.YtjcocepmmjmckaaDoor.RegInv
