/- head.Get: the first value of a name, and how many there are. -/
import Derived.Test.YtbdafijdfpmdiaaDoorExtK
set_option linter.unusedVariables false
namespace Go.Proofs.YtbdafijdfpmdiaaDoor.PHead
open Go.RowKit Go.Shelf Go.Proofs.YtbdafijdfpmdiaaDoorW.PrintWords Go.Proofs.YtbdafijdfpmdiaaDoorW.PrintLast Go.Proofs.YtbdafijdfpmdiaaDoorW.PrintMore
attribute [local go_sem] Oper.semAt_some

theorem others_seqK (X : Nat → Prop) (w0 w2 : World) (A : Option Addr) (c : Nat) (xs : List S28) (hread : Kd.C k28 w0 A xs.length xs) (keep : S28 → Bool) (g B : Nat) (nm : ByteArray) (eg : ∀ args w, (callFunc g args).run Tryd.prog w = .ok (.enter g args) w)
    (hgone : ∀ (x : S28) (W : World), x ∈ xs → Boxed W B 9 (.string nm) → Calls Tryd.prog g #[.string x.f0, .pointer (some ⟨B, 0, none⟩)] W fun e w' => e = .returned (.bool (!keep x)) ∧ Below W.heap.size W w')
    (hw : Below w0.heap.size w0 w2) (b0 : Boxed w2 B 9 (.string nm)) (B1 B2 : Nat) (b1 : Boxed w2 B1 22 (.slice A xs.length c)) (b2 : Boxed w2 B2 45 (.func (.func g) #[] #[.pointer (some ⟨B, 0, none⟩)]))
    (hX : ∀ k, X k → w0.heap.size ≤ k) (hXB : ¬ X B) (hX1 : ¬ X B1) (hX2 : ¬ X B2) :
    SeqStopsK Fence.wide 3 Tryd.prog 56 #[.pointer (some ⟨B1, 0, none⟩), .pointer (some ⟨B2, 0, none⟩)] encS (KP w2.heap.size X) (fun zs => zs = xs.filter keep) (fun pre => pre <+: xs.filter keep) xs.length w2 := fun l J Jx W hW hJ hJx hY h0 =>
  iter56 3 (by omega) w0 A c xs hread keep g #[.pointer (some ⟨B, 0, none⟩)] eg w2.heap.size X hw.size hX B1 B2 b1.lt b2.lt hX1 hX2 (fun W => Boxed W B 9 (.string nm)) (fun W W' h k => k.boxed h b0.lt hXB)
    (fun x W hx hb => hgone x W hx hb) l J Jx W hJ hJx (hw.trans (hW.mono hw.size)) hW.size ((hW.block B b0.lt).trans b0) hY
    ((hW.block B1 b1.lt).trans b1) ((hW.block B2 b2.lt).trans b2) h0

theorem firstV_snoc (pre : List S28) (x : S28) : firstV (pre ++ [x]) = if pre = [] then x.f1 else firstV pre := by
  cases pre with
  | nil => rfl
  | cons y l => simp [firstV]

set_option maxRecDepth 100000 in
set_option maxHeartbeats 4000000 in
theorem get12 (A0 : Option Addr) (c0 : Nat) (l0 : List S28) (a1 : ByteArray) (w : World) (hr0 : Kd.C k28 w A0 l0.length l0) (hl : l0.length < 4398046511104) :
    CallsIn Fence.wide 4 Tryd.prog 12 #[.slice A0 l0.length c0, .string a1] w fun e w' => e = .returned (.tuple #[.string (firstV (getH l0 a1)), .int .i64 ((getH l0 a1).length : Int)]) ∧ Below w.heap.size w w' := by
  have hmf : ∀ (fn : Fn) (first cap : Array Value) (w : World), (Instr.makeFunc fn first cap).run Tryd.prog w = .ok (.func fn first cap) w := fun _ _ _ _ => rfl
  have hO := fun (w : World) => callsIn_wide (n := 3).2 (others40 A0 l0.length c0 (.func (.func 41) #[] #[.pointer (some ⟨w.heap.size, 0, none⟩)]) ⟨_, _, rfl⟩ (((w.alloc (.cells #[.string a1] 9)).alloc (.cells #[.string ⟨#[]⟩] 9)).alloc (.cells #[.int .i64 0] 3)))
  have HO := Lib.hid hO
  clear hO
  refine callsIn_of_wp_marks Tryd.func12 rfl trivial ?_ rfl
  simp only [Tryd.ntmps12, List.size_toArray, List.length_cons, List.length_nil, Nat.reduceAdd, Nat.reduceSub, Array.replicate_succ, Array.replicate_zero, List.push_toArray, List.append_toArray, List.nil_append, List.cons_append]
  gi_wp2_with fail
  refine ⟨trivial, ?_⟩
  refine (HO.out w).mono ?_
  rintro e w' ⟨rfl, rfl⟩
  have bN := ((((Boxed.new w 9 (.string a1)).alloc (.cells #[.string ⟨#[]⟩] 9)).alloc (.cells #[.int .i64 0] 3)).alloc (.cells #[.slice A0 l0.length c0] 22)).alloc (.cells #[.func (.func 41) #[] #[.pointer (some ⟨w.heap.size, 0, none⟩)]] 45)
  have bV := (((Boxed.new (w.alloc (.cells #[.string a1] 9)) 9 (.string ⟨#[]⟩)).alloc (.cells #[.int .i64 0] 3)).alloc (.cells #[.slice A0 l0.length c0] 22)).alloc (.cells #[.func (.func 41) #[] #[.pointer (some ⟨w.heap.size, 0, none⟩)]] 45)
  have bM := ((Boxed.new ((w.alloc (.cells #[.string a1] 9)).alloc (.cells #[.string ⟨#[]⟩] 9)) 3 (.int .i64 0)).alloc (.cells #[.slice A0 l0.length c0] 22)).alloc (.cells #[.func (.func 41) #[] #[.pointer (some ⟨w.heap.size, 0, none⟩)]] 45)
  have b1 := (Boxed.new (((w.alloc (.cells #[.string a1] 9)).alloc (.cells #[.string ⟨#[]⟩] 9)).alloc (.cells #[.int .i64 0] 3)) 22 (.slice A0 l0.length c0)).alloc (.cells #[.func (.func 41) #[] #[.pointer (some ⟨w.heap.size, 0, none⟩)]] 45)
  have b2 := Boxed.new ((((w.alloc (.cells #[.string a1] 9)).alloc (.cells #[.string ⟨#[]⟩] 9)).alloc (.cells #[.int .i64 0] 3)).alloc (.cells #[.slice A0 l0.length c0] 22)) 45 (.func (.func 41) #[] #[.pointer (some ⟨w.heap.size, 0, none⟩)])
  have hB0 : Below w.heap.size w (((((w.alloc (.cells #[.string a1] 9)).alloc (.cells #[.string ⟨#[]⟩] 9)).alloc (.cells #[.int .i64 0] 3)).alloc (.cells #[.slice A0 l0.length c0] 22)).alloc (.cells #[.func (.func 41) #[] #[.pointer (some ⟨w.heap.size, 0, none⟩)]] 45)) := below_alloc (below_alloc (below_alloc (below_alloc (below_alloc (Below.refl _ w) _) _) _) _) _
  have hsz : (((((w.alloc (.cells #[.string a1] 9)).alloc (.cells #[.string ⟨#[]⟩] 9)).alloc (.cells #[.int .i64 0] 3)).alloc (.cells #[.slice A0 l0.length c0] 22)).alloc (.cells #[.func (.func 41) #[] #[.pointer (some ⟨w.heap.size, 0, none⟩)]] 45)).heap.size = w.heap.size + 5 := by simp
  have hz3 : (((w.alloc (.cells #[.string a1] 9)).alloc (.cells #[.string ⟨#[]⟩] 9)).alloc (.cells #[.int .i64 0] 3)).heap.size = w.heap.size + 1 + 1 + 1 := by simp
  rw [hz3] at ⊢
  simp only [World.size_alloc] at bN bV bM b1 b2
  obtain ⟨W0, hW0⟩ : ∃ W0, (((((w.alloc (.cells #[.string a1] 9)).alloc (.cells #[.string ⟨#[]⟩] 9)).alloc (.cells #[.int .i64 0] 3)).alloc (.cells #[.slice A0 l0.length c0] 22)).alloc (.cells #[.func (.func 41) #[] #[.pointer (some ⟨w.heap.size, 0, none⟩)]] 45)) = W0 := ⟨_, rfl⟩
  rw [hW0] at bN bV bM b1 b2 hB0 hsz ⊢
  clear hW0 hz3
  gi_wp2
  have hgone : ∀ (x : S28) (W : World), x ∈ l0 → Boxed W w.heap.size 9 (.string a1) → Calls Tryd.prog 41 #[.string x.f0, .pointer (some ⟨w.heap.size, 0, none⟩)] W fun e w' => e = .returned (.bool (!alk x.f0 a1)) ∧ Below W.heap.size W w' := fun x W _ hb => get41 x.f0 a1 w.heap.size W hb
  refine wpIn_rangeFunc_ownH rfl (by omega) (gf := 56) (lb := #[.pointer (some ⟨w.heap.size + 1 + 1 + 1, 0, none⟩), .pointer (some ⟨w.heap.size + 1 + 1 + 1 + 1, 0, none⟩)]) rfl trivial (enters_of Tryd.func56 (by kernel_rfl) rfl)
    (others_seqK (fun k => k = w.heap.size + 1 ∨ k = w.heap.size + 1 + 1) w W0 A0 c0 l0 hr0 (fun h => alk h.f0 a1) 41 w.heap.size a1 (enters_of Tryd.func41 (by kernel_rfl) rfl) hgone hB0 bN _ _ b1 b2 (fun k hk => by omega) (by omega) (by omega) (by omega))
    (fun h k => h.trans k) (fun W l o o' h1 h2 h3 h4 => KP.of_below (belowK_b (w := W0) (Nat.le_refl _) W l o o' h1 h2 h3 h4) (Nat.le_refl _)) (Below.refl _ _) (fun _ => rfl)
    (fun pre W => (Boxed W (w.heap.size + 1) 9 (.string (firstV pre)) ∧ Boxed W (w.heap.size + 1 + 1) 3 (.int .i64 (pre.length : Int))) ∧ Below w.heap.size w W ∧ W0.heap.size ≤ W.heap.size)
    (fun _ _ _ => False)
    (OwnFrom.and (OwnFrom.and (Own.from (boxed_own _ _ _) _) (Own.from (boxed_own _ _ _) _)) (OwnFrom.and (ownFrom_below (Nat.le_refl _) (by omega)) (fun _ _ _ _ hs hg _ => Nat.le_trans hs hg.size)))
    (fun _ _ _ _ _ hs _ _ => hs)
    ⟨⟨bV, bM⟩, hB0, Nat.le_refl _⟩
    (fun x a' W => ∃ Bx, w.heap.size + 1 + 1 < Bx ∧ W.heap[Bx]? = some (.cells #[.string x.f0, .string x.f1] 28 (0, 0)) ∧ a' = { tmps := #[.slice A0 l0.length c0, .string a1, undef, .pointer (some ⟨w.heap.size, 0, none⟩), .pointer (some ⟨w.heap.size + 1, 0, none⟩), .pointer (some ⟨w.heap.size + 1 + 1, 0, none⟩), .pointer (some ⟨Bx, 0, none⟩), .slice A0 l0.length c0, .func (.func 41) #[] #[.pointer (some ⟨w.heap.size, 0, none⟩)], .func (.func 56) #[] #[.pointer (some ⟨w.heap.size + 1 + 1 + 1, 0, none⟩), .pointer (some ⟨w.heap.size + 1 + 1 + 1 + 1, 0, none⟩)], .agg #[.string x.f0, .string x.f1], undef, undef, undef, undef, undef, undef, undef, undef], defers := [] })
    (fun x a' _ Y Z row hs hg hr => by
      obtain ⟨Bx, h1, h2, h3⟩ := hs
      refine ⟨Bx, h1, (hg.block Bx (blk_lt h2) (fun e => ?_)).trans h2, h3⟩
      obtain ⟨_, o, ho, hcl⟩ := hr Bx e.symm
      rw [h2] at ho
      cases ho
      simp [Obj.isCells] at hcl)
    ?assign ?body ?done ?stop
  case assign =>
    rintro l pre x W K ⟨⟨bV1, bM1⟩, hB1, hW1⟩ hK
    gi_wp2
    exact hK _ _ ((KeepsOthers.alloc _ _).from _) (KP.of_below ((Below.refl W.heap.size W).alloc (Nat.le_refl _) _) hW1) ⟨⟨bV1.alloc _, bM1.alloc _⟩, hB1.alloc hB1.size _, by simp; omega⟩ ⟨W.heap.size, bM1.lt, World.alloc_heap_new W _, rfl⟩
  case body =>
    rintro l pre x a' W hlD _ ⟨⟨bV1, bM1⟩, hB1, hW1⟩ ⟨Bx, hBx, hx, rfl⟩ hlt
    have hcM := bM1.cell
    have hfM := bM1.frozen
    have hfV := bV1.frozen
    have hcV := (bV1.other (by omega : w.heap.size + 1 ≠ w.heap.size + 1 + 1) (.int .i64 ((pre.length : Int) + 1))).cell
    have hx1 : (W.setCell ⟨w.heap.size + 1 + 1, 0, none⟩ (.int .i64 ((pre.length : Int) + 1))).cell? ⟨Bx, 1, none⟩ = some (.string x.f1) := by
      rw [blk_cell (blk_far hx (by simp; omega) _) 1]
      rfl
    have hlen : (pre.length : Int) < 4398046511104 := by omega
    have hB2 := hB1.setCell (p := ⟨w.heap.size + 1 + 1, 0, none⟩) (show w.heap.size ≤ w.heap.size + 1 + 1 by omega) (.int .i64 ((pre.length : Int) + 1))
    have hM2 := bM1.set (.int .i64 ((pre.length : Int) + 1))
    have hV2 := bV1.other (by omega : w.heap.size + 1 ≠ w.heap.size + 1 + 1) (.int .i64 ((pre.length : Int) + 1))
    have hKP : KP W0.heap.size (fun k => k = w.heap.size + 1 ∨ k = w.heap.size + 1 + 1) W (W.setCell ⟨w.heap.size + 1 + 1, 0, none⟩ (.int .i64 ((pre.length : Int) + 1))) :=
      ⟨rfl, rfl, rfl, by simp, fun k hk hX => Below.heap_setCell W _ _ k (fun e => hX (Or.inr e))⟩
    have hKF := KeepsOthers.setCell W ⟨w.heap.size + 1 + 1, 0, none⟩ (.int .i64 ((pre.length : Int) + 1))
    have HB2 := Lib.hid hB2
    have HM2 := Lib.hid hM2
    have HV2 := Lib.hid hV2
    have HKP := Lib.hid hKP
    have HKF := Lib.hid hKF
    have HX := Lib.hid hx
    clear hB2 hM2 hV2 hKP hKF hx bV1 bM1 hB1
    by_cases hp : pre = []
    · have hone : ((pre.length : Int) + 1 == 1) = true := by rw [hp]; rfl
      have HP := Lib.hid hp
      clear hp
      gi_wp2
      refine ⟨(HKF.out.trans (KeepsOthers.setCell _ _ _)).from _, HKP.out.trans ⟨rfl, rfl, rfl, by simp, fun k hk hX => Below.heap_setCell _ _ _ k (fun e => hX (Or.inl e))⟩, ⟨?_, ?_⟩, HB2.out.setCell (p := ⟨w.heap.size + 1, 0, none⟩) (show w.heap.size ≤ w.heap.size + 1 by omega) _, by simp; omega⟩
      · rw [firstV_snoc, if_pos HP.out]
        exact HV2.out.set _
      · rw [List.length_append]
        exact HM2.out.other (by omega) _
    · have hone : ((pre.length : Int) + 1 == 1) = false := beq_eq_false_iff_ne.2 (by have := List.length_pos_iff.2 hp; omega)
      have HP := Lib.hid hp
      clear hp
      gi_wp2
      refine ⟨HKF.out.from _, HKP.out, ⟨?_, ?_⟩, HB2.out, by simp; omega⟩
      · rw [firstV_snoc, if_neg HP.out]
        exact HV2.out
      · rw [List.length_append]
        exact HM2.out
  case done =>
    rintro D zs W hD rfl ⟨⟨bV1, bM1⟩, hB1, hW1⟩ hK
    have hcV := bV1.cell
    have hcM := bM1.cell
    have hfV := bV1.frozen
    have hfM := bM1.frozen
    gi_wp2
    gi_region
    have bV2 := (bV1.set (.string (firstV (l0.filter fun h => alk h.f0 a1)))).other (by omega : w.heap.size + 1 ≠ w.heap.size + 1 + 1) (.int .i64 ((l0.filter fun h => alk h.f0 a1).length : Int))
    have bM2 := (bM1.other (by omega : w.heap.size + 1 + 1 ≠ w.heap.size + 1) (.string (firstV (l0.filter fun h => alk h.f0 a1)))).set (.int .i64 ((l0.filter fun h => alk h.f0 a1).length : Int))
    have hB2 := (hB1.setCell (p := ⟨w.heap.size + 1, 0, none⟩) (show w.heap.size ≤ w.heap.size + 1 by omega) (.string (firstV (l0.filter fun h => alk h.f0 a1)))).setCell (p := ⟨w.heap.size + 1 + 1, 0, none⟩) (show w.heap.size ≤ w.heap.size + 1 + 1 by omega) (.int .i64 ((l0.filter fun h => alk h.f0 a1).length : Int))
    have hK2 := (KeepsOthers.setCell _ ⟨w.heap.size + 1 + 1, 0, none⟩ (.int .i64 ((l0.filter fun h => alk h.f0 a1).length : Int))).same D _ ((KeepsOthers.setCell W ⟨w.heap.size + 1, 0, none⟩ (.string (firstV (l0.filter fun h => alk h.f0 a1)))).same D _ hK rfl) rfl
    obtain ⟨Wf, hWf⟩ : ∃ q, (W.setCell ⟨w.heap.size + 1, 0, none⟩ (.string (firstV (l0.filter fun h => alk h.f0 a1)))).setCell ⟨w.heap.size + 1 + 1, 0, none⟩ (.int .i64 ((l0.filter fun h => alk h.f0 a1).length : Int)) = q := ⟨_, rfl⟩
    rw [hWf] at bV2 bM2 hB2 hK2 ⊢
    clear hWf bV1 bM1 hB1 hK hcV hcM hfV hfM
    have hK3 : Wf.drew.heap[D]? = some (.deferred (some [])) := hK2
    have bV3 := Boxed.kept (W := Wf.drew) bV2 (grownBy_putObj' Wf.drew D (.deferred none)) (fun e => by injection e with e; omega)
    have bM3 := Boxed.kept (W := Wf.drew) bM2 (grownBy_putObj' Wf.drew D (.deferred none)) (fun e => by injection e with e; omega)
    have hB3 : Below w.heap.size w (Wf.drew.putObj D (.deferred none)) := (below_drew1 hB2).trans (belowK_b (w := w) (Nat.le_refl _) Wf.drew D _ _ (by omega) hK3 rfl rfl)
    have c0 := bV3.cell
    have c1 := bM3.cell
    gi_wp2
    refine ⟨by simp, .inl ⟨_, _, rfl, run_takeDeferred hK3, ?_⟩⟩
    refine ⟨.tuple #[.string (firstV (getH l0 a1)), .int .i64 ((getH l0 a1).length : Int)], ?_, rfl, hB3⟩
    unfold getH
    simp [results, Tryd.results12, go_sem, c0, c1]
  case stop =>
    rintro D c pre W _ _ h _
    exact h.elim

theorem head_Get.calls (A0 : Option Addr) (c0 : Nat) (l0 : List S28) (a1 : ByteArray) (r1 : ByteArray) (r2 : Int) (w : World) (hr0 : Kd.C k28 w A0 l0.length l0) (hc0 : l0.length ≤ c0) (h : head_Get.f l0 a1 = some (r1, r2)) :
    Calls Tryd.prog 12 #[.slice A0 l0.length c0, .string a1] w fun e w' => e = .returned (.tuple #[.string r1, .int .i64 r2]) ∧ Below w.heap.size w w' := by
  unfold head_Get.f at h
  split at h
  case isFalse => simp at h
  rename_i hl
  simp only [Option.some.injEq, Prod.mk.injEq] at h
  obtain ⟨rfl, rfl⟩ := h
  exact callsIn_wide.1 (get12 A0 c0 l0 a1 w hr0 hl)
end Go.Proofs.YtbdafijdfpmdiaaDoor.PHead
