/- slices.AppendSeq and Collect over head.others: the heads that are left, in memory of their own. -/
import Derived.Test.YtbdafijdfpmdiaaDoorExtJ
import Derived.RangeFuncOne
set_option linter.unusedVariables false
namespace Go.Proofs.YtbdafijdfpmdiaaDoor.PHead
open Go.RowKit Go.Shelf Go.Proofs.YtbdafijdfpmdiaaDoorW.PrintWords Go.Proofs.YtbdafijdfpmdiaaDoorW.PrintLast Go.Proofs.YtbdafijdfpmdiaaDoorW.PrintMore
attribute [local go_sem] Oper.semAt_some

/-- The cells of heads. -/
def cellsS (l : List S28) : List Value := l.flatMap fun x => [.string x.f0, .string x.f1]
theorem cellsS_snoc (l : List S28) (x : S28) : cellsS (l ++ [x]) = cellsS l ++ [.string x.f0, .string x.f1] := by simp [cellsS]
/-- A row of the call's own that holds just these heads. -/
def OwnS (W : World) (base : Nat) (v : Value) (l : List S28) : Prop := W.ownsRow base 28 2 v l.length (cellsS l)
theorem OwnS.nil (W : World) (base : Nat) : OwnS W base (.slice none 0 0) [] := World.ownsRow_nil _ _ _ _
theorem reps_cells (w : World) (base : Nat) (ok : Nat → Prop) (l : List S28) : Reps (k28.M w base ok) 2 l (cellsS l) := by
  rw [← List.reverse_reverse l]
  generalize l.reverse = r
  induction r with
  | nil => exact Reps.none _ _
  | cons x r ih =>
    rw [List.reverse_cons, cellsS_snoc]
    exact ih.snoc (k28_mkM w base ok x) rfl
theorem OwnS.R {W : World} {base : Nat} {v : Value} {l : List S28} (h : OwnS W base v l) : Kd.R k28 28 W base (fun _ => True) v l :=
  ⟨fun _ _ => trivial, cellsS l, h, reps_cells _ _ _ l⟩
theorem ownS_from {β : Type} {base B : Nat} (f : β → List S28) (v : β → Value) : OwnFrom B (fun s W => OwnS W base (v s) (f s)) := fun s W W' row hs hg hr =>
  own_move hs (fun k hk => by
    obtain ⟨cells, hc⟩ := own_typed hs k hk
    refine hg.block k (blk_lt hc) (fun e => ?_)
    obtain ⟨_, o, ho, hcl⟩ := hr k e.symm
    rw [hc] at ho
    cases ho
    simp [Obj.isCells] at hcl)
theorem ownS_boxed {B base B3 : Nat} : OwnFrom B (fun (pre : List S28) W => ∃ v, Boxed W B3 22 v ∧ OwnS W base v pre) := fun s W W' row hs hg hr => by
  obtain ⟨v, h1, h2⟩ := hs
  exact ⟨v, boxed_own B3 22 (fun (_ : Unit) => v) () W W' row h1 hg (fun r e => (hr r e).2), ownS_from (β := Unit) (B := B) (fun _ => s) (fun _ => v) () W W' row h2 hg hr⟩

theorem newS_cells (W : World) (x : S28) : ∀ (j : Nat) (u : Value), [Value.string x.f0, Value.string x.f1][j]? = some u → (W.alloc (.cells #[.string x.f0, .string x.f1] 28)).cell? ((⟨W.heap.size, 0, none⟩ : Addr).add j) = some u := fun j u hu => by
  have h := World.alloc_heap_new W (.cells #[.string x.f0, .string x.f1] 28)
  rw [show (⟨W.heap.size, 0, none⟩ : Addr).add j = ⟨W.heap.size, j, none⟩ from by unfold Addr.add; split <;> simp_all]
  rw [blk_cell h j]
  simpa using hu
theorem infoS : (Tryd.prog.info? 28).map (fun i => (i.zero, i.size, i.bytes)) = some (some (.agg #[(.string ⟨#[]⟩), (.string ⟨#[]⟩)]), 2, 32) := info28

set_option maxRecDepth 100000 in
set_option maxHeartbeats 4000000 in
theorem appendSeq61 (n : Nat) (hn : 3 ≤ n) (w : World) (lb : Array Value) (ys : List S28) (N : Nat) (hN : N ≤ 4398046511104)
    (hSeq : SeqStopsK Fence.wide (n - 1) Tryd.prog 56 lb encS (Below w.heap.size) (fun zs => zs = ys) (fun pre => pre <+: ys) N w) :
    CallsIn Fence.wide n Tryd.prog 61 #[.slice none 0 0, .func (.func 56) #[] lb] w fun e W' => ∃ v, e = .returned v ∧ Kd.R k28 28 W' w.heap.size (fun _ => True) v ys ∧ Below w.heap.size w W' := by
  have h1 : 1 ≤ n := by omega
  obtain ⟨i0, hi, hz0, hz1, hz2⟩ := info_parts infoS
  refine callsIn_of_wp_marks Tryd.func61 rfl trivial ?_ rfl
  simp only [Tryd.ntmps61, List.size_toArray, List.length_cons, List.length_nil, Nat.reduceAdd, Nat.reduceSub, Array.replicate_succ, Array.replicate_zero, List.push_toArray, List.append_toArray, List.nil_append, List.cons_append]
  gi_wp2
  have bO := Boxed.new w 22 (.slice none 0 0)
  have hB0 : Below w.heap.size w (w.alloc (.cells #[.slice none 0 0] 22)) := (Below.refl _ w).alloc (Nat.le_refl _) _
  have hsz : (w.alloc (.cells #[.slice none 0 0] 22)).heap.size = w.heap.size + 1 := by simp
  obtain ⟨W0, hW0⟩ : ∃ W0, w.alloc (.cells #[.slice none 0 0] 22) = W0 := ⟨_, rfl⟩
  rw [hW0] at bO hB0 hsz ⊢
  clear hW0
  refine wpIn_rangeFunc_ownH rfl h1 (gf := 56) (lb := lb) rfl trivial (enters_of Tryd.func56 (by kernel_rfl) rfl)
    hSeq belowK_t (belowK_b (by omega)) hB0 (fun _ => rfl)
    (fun pre W => (∃ v, Boxed W w.heap.size 22 v ∧ OwnS W w.heap.size v pre) ∧ Below w.heap.size w W)
    (fun _ _ _ => False)
    (OwnFrom.and ownS_boxed (ownFrom_below (Nat.le_refl _) (by omega)))
    (fun _ _ _ _ _ hs _ _ => hs)
    ⟨⟨_, bO, OwnS.nil _ _⟩, hB0⟩
    (fun x a' W => ∃ Bx, w.heap.size < Bx ∧ W.heap[Bx]? = some (.cells #[.string x.f0, .string x.f1] 28 (0, 0)) ∧ a' = { tmps := #[.slice none 0 0, .func (.func 56) #[] lb, .pointer (some ⟨w.heap.size, 0, none⟩), undef, .slice none 0 0, .pointer (some ⟨Bx, 0, none⟩), .func (.func 56) #[] lb, .agg #[.string x.f0, .string x.f1], undef, undef, undef, undef, undef], defers := [] })
    (fun x a' _ X Y row hs hg hr => by
      obtain ⟨Bx, h1, h2, h3⟩ := hs
      refine ⟨Bx, h1, (hg.block Bx (blk_lt h2) (fun e => ?_)).trans h2, h3⟩
      obtain ⟨_, o, ho, hcl⟩ := hr Bx e.symm
      rw [h2] at ho
      cases ho
      simp [Obj.isCells] at hcl)
    ?assign ?body ?done ?stop
  case assign =>
    rintro l pre x W K ⟨⟨v, hv, hrow⟩, hB1⟩ hK
    gi_wp2
    exact hK _ _ ((KeepsOthers.alloc _ _).from _) ((Below.refl _ W).alloc hB1.size _) ⟨⟨v, hv.alloc _, (own_alloc hrow _ : _)⟩, hB1.alloc hB1.size _⟩ ⟨W.heap.size, hv.lt, World.alloc_heap_new W _, rfl⟩
  case body =>
    rintro l pre x a' W hl _ ⟨⟨v, hv, hrow⟩, hB1⟩ ⟨Bx, hBx, hx, rfl⟩ hlt
    have hc := hv.cell
    have hf := hv.frozen
    have hx0 : W.cell? ⟨Bx, 0, none⟩ = some (.string x.f0) := by simp [World.cell?, hx]
    have hx1 : W.cell? ⟨Bx, 1, none⟩ = some (.string x.f1) := by simp [World.cell?, hx]
    have hHX := Lib.hid hx
    clear hx
    gi_wp2_with (gi_at_builtin; refine wpListIn_append_own _ rfl _ _ 22 rfl w.heap.size 28 i0 (.agg #[(.string ⟨#[]⟩), (.string ⟨#[]⟩)]) 2 32 Tryd.underlying22 hi hz0 hz1 hz2 rfl (by decide) _ _ _ rfl (hrow.alloc _) ⟨W.heap.size, 0, none⟩ 1 1 [.string x.f0, .string x.f1] rfl rfl ?hn (by simp [Value.oneCell']) (by unfold maxLen; omega) (by omega) (by have := hB1.size; simp; omega) ?_; (case hn => exact newS_cells W x); intro v' w1 hown' hgrow _; obtain ⟨g', cap', rfl⟩ := ownsRow_succ hown'; obtain ⟨hv1, hv2, hr2, hk2, hb2⟩ := hv.appended (by decide) hrow hB1.size (Nat.le_refl _) hown' hgrow; have hc1 := hv1.cell; have hf1 := hv1.frozen)
    exact ⟨hk2.from _, hb2, ⟨_, hv2, by unfold OwnS; rw [List.length_append, cellsS_snoc]; exact hr2⟩, hB1.trans hb2⟩
  case done =>
    rintro D zs W hD rfl ⟨⟨v, hv, hrow⟩, hB1⟩ hK
    have hc := hv.cell
    gi_wp2
    refine ⟨by simp, .inl ⟨_, _, rfl, run_takeDeferred hK, ?_⟩⟩
    exact ⟨_, results_tmp rfl _ _ _, v, rfl, OwnS.R (ownsRow_putObj hrow _ hK rfl), hB1.trans (belowK_b (w := w) (Nat.le_refl _) W D _ _ (by omega) hK rfl rfl)⟩
  case stop =>
    rintro D c pre W _ _ h _
    exact h.elim
end Go.Proofs.YtbdafijdfpmdiaaDoor.PHead
