/- slices.Insert (45) of an extension ahead of others. -/
import Derived.Test.YtjcocepmmjmckaaDoorJExtN
import Derived.Lib.AppendZerosOnto
import Derived.Laws.NewBlocks
set_option linter.unusedVariables false
set_option linter.unusedSimpArgs false
namespace Go.Proofs.YtjcocepmmjmckaaDoor.PHello
open Go.RowKit Go.Proofs.YtjcocepmmjmckaaDoorW.PrintWords Go.Proofs.YtjcocepmmjmckaaDoorW.PrintLast Go.Proofs.YtjcocepmmjmckaaDoorW.PrintMore

/-- What was in a row, with two cells put in, reads so behind the two copies. -/
theorem put_cells {W W1 W2 : World} {g i n : Nat} {inner : List Value} {n0 n1 : Value} (hn : inner.length = n * 2) (hi : i ≤ n)
    (hpre : ∀ j, j < i * 2 → W.cell? ⟨g, j, none⟩ = inner[j]?) (hsome : ∀ j, j < n * 2 + 2 → (W.cell? ⟨g, j, none⟩).isSome = true)
    (e1 : ∀ x, W1.cell? x = (W.setCells g (i * 2 + 2) (inner.drop (i * 2))).cell? x) (e2 : ∀ x, W2.cell? x = (W1.setCells g (i * 2) [n0, n1]).cell? x) :
    ∀ (j : Nat) (u : Value), (inner.take (i * 2) ++ [n0, n1] ++ inner.drop (i * 2))[j]? = some u → W2.cell? ⟨g, j, none⟩ = some u := by
  have htl : (inner.take (i * 2)).length = i * 2 := by rw [List.length_take]; omega
  have hdl : (inner.drop (i * 2)).length = n * 2 - i * 2 := by rw [List.length_drop]; omega
  have hs1 : ∀ j, j < n * 2 + 2 → (W1.cell? ⟨g, j, none⟩).isSome = true := fun j hj => by
    rw [e1]
    exact isSome_setCellsH _ _ _ _ (fun t ht => hsome _ (by omega)) _ (hsome _ hj)
  intro j u hu
  rw [e2]
  by_cases h1 : j < i * 2
  · rw [List.append_assoc, List.getElem?_append_left (by omega), List.getElem?_take, if_pos h1] at hu
    rw [World.cell?_setCells_out g _ _ _ _ (fun _ _ => Or.inl h1), e1, World.cell?_setCells_out g _ _ _ _ (fun _ _ => Or.inl (show j < i * 2 + 2 by omega)), hpre j h1]
    exact hu
  · by_cases h2 : j < i * 2 + 2
    · rw [List.append_assoc, List.getElem?_append_right (by omega), htl, List.getElem?_append_left (by simp; omega)] at hu
      obtain ⟨q, hq⟩ : ∃ q, j = i * 2 + q := ⟨j - i * 2, by omega⟩
      subst hq
      have hq2 : q < 2 := by omega
      rw [Nat.add_sub_cancel_left] at hu
      rw [World.cell?_setCells_in g [n0, n1] (i * 2) W1 (fun t ht => hs1 _ (by simp at ht; omega)) q (by simpa using hq2)]
      rw [← hu, List.getElem?_eq_getElem (by simpa using hq2)]
    · rw [List.getElem?_append_right (by simp only [List.length_append, htl, List.length_cons, List.length_nil]; omega)] at hu
      simp only [List.length_append, htl, List.length_cons, List.length_nil] at hu
      obtain ⟨q, hq⟩ : ∃ q, j = i * 2 + 2 + q := ⟨j - (i * 2 + 2), by omega⟩
      subst hq
      rw [show i * 2 + 2 + q - (i * 2 + (0 + 1 + 1)) = q by omega] at hu
      have hql : q < (inner.drop (i * 2)).length := (List.getElem?_eq_some_iff.1 hu).1
      rw [World.cell?_setCells_out g _ _ _ _ (fun _ _ => Or.inr (by show i * 2 + 2 ≤ i * 2 + 2 + q; omega)), e1,
        World.cell?_setCells_in g (inner.drop (i * 2)) (i * 2 + 2) W (fun t ht => hsome _ (by omega)) q hql]
      rw [← hu, List.getElem?_eq_getElem hql]
theorem putIn_len {rows : List (List Value)} {i : Nat} {x : List Value} (h : i ≤ rows.length) : (putIn rows i x).length = rows.length + 1 := by
  simp only [putIn, List.length_append, List.length_take, List.length_cons, List.length_drop]
  omega
theorem rawR_open {base : Nat} {w : World} {v : Value} {rows : List (List Value)} (h : RawR base w v rows) (hp : 0 < rows.length) : ∃ g c cur inner, v = .slice (some ⟨g, 0, none⟩) rows.length c ∧ base ≤ g ∧ w.heap[g]? = some (.cells cur 59 (0, 0)) ∧ rows.length ≤ c ∧ c ≤ 9223372036854775807 ∧ cur.size = c * 2 ∧
    cur.toList.take (rows.length * 2) = inner ∧ Reps (fun (x cs : List Value) => cs = x ∧ cs.length = 2 ∧ ∀ u ∈ cs, u.oneCell' = true) 2 rows inner := by
  obtain ⟨_, inner, ⟨hl, ho⟩, hr⟩ := h
  rcases ho with ⟨rfl, h0⟩ | ⟨g, cap, cur, rfl, hb, hg, hn, hc, hs, ht⟩
  · omega
  · exact ⟨g, cap, cur, inner, rfl, hb, hg, hn, by simpa [maxLen] using hc, hs, ht, hr⟩
theorem reps_one {rows : List (List Value)} {inner : List Value} (hr : Reps (fun (x cs : List Value) => cs = x ∧ cs.length = 2 ∧ ∀ u ∈ cs, u.oneCell' = true) 2 rows inner) : ∀ u ∈ inner, u.oneCell' = true := by
  intro u hu
  obtain ⟨k, hk⟩ := List.getElem?_of_mem hu
  have hkl : k < inner.length := (List.getElem?_eq_some_iff.1 hk).1
  have hl : inner.length = rows.length * 2 := hr.1
  have hj : k / 2 < rows.length := by omega
  obtain ⟨e, h3, h4⟩ := hr.2 (k / 2) _ (List.getElem?_eq_getElem hj)
  refine h4 u ?_
  refine List.mem_of_getElem? (i := k % 2) ?_
  rw [List.getElem?_take, if_pos (by omega), List.getElem?_drop]
  rw [show k / 2 * 2 + k % 2 = k by omega]
  exact hk
set_option maxHeartbeats 4000000 in
set_option maxRecDepth 100000 in
theorem insert_shift (w0 w : World) (base g c i : Nat) (cur : Array Value) (inner : List Value) (rows : List (List Value)) (n0 n1 : Value) (vb : Nat) (hB : Below base w0 w) (hg : base ≤ g) (hl : rows.length ≤ 1073741824) (hi : i < rows.length)
    (hcur : w.heap[g]? = some (.cells cur 59 (0, 0))) (hc : rows.length + 1 ≤ c) (hc63 : c ≤ 9223372036854775807) (hs : cur.size = c * 2) (hin : cur.toList.take (rows.length * 2) = inner)
    (hr : Reps (fun (x cs : List Value) => cs = x ∧ cs.length = 2 ∧ ∀ u ∈ cs, u.oneCell' = true) 2 rows inner)
    (hv : w.heap[vb]? = some (.cells #[n0, n1] 59 (0, 0))) (hne : vb ≠ g) (h0 : n0.oneCell' = true) (h1 : n1.oneCell' = true) :
    Calls Tryd.prog 45 #[.slice (some ⟨g, 0, none⟩) rows.length c, .int .i64 i, .slice (some ⟨vb, 0, none⟩) 1 1] w fun e w' => ∃ A c, e = .returned (.slice A (rows.length + 1) c) ∧ rows.length + 1 ≤ c ∧ Kd.C (Kd.raw 2) w' A (rows.length + 1) (putIn rows i [n0, n1]) ∧ Below base w0 w' := by
  have hil : inner.length = rows.length * 2 := hr.1
  have hio := reps_one hr
  have hcell : ∀ j, w.cell? ⟨g, j, none⟩ = cur[j]? := fun j => by rw [cell_of_row w g j cur 59 (0, 0) hcur]
  have hfz : ∀ j, w.frozen? ⟨g, j, none⟩ = false := fun j => frozen_of_row w g j cur 59 hcur
  have hsome : ∀ j, j < rows.length * 2 + 2 → (w.cell? ⟨g, j, none⟩).isSome = true := fun j hj => by
    rw [hcell, Array.getElem?_eq_getElem (by omega)]; rfl
  have hpre : ∀ j, j < rows.length * 2 → w.cell? ⟨g, j, none⟩ = inner[j]? := fun j hj => by
    rw [hcell, ← hin, List.getElem?_take, if_pos hj]; simp
  have hvc : ∀ j u, ([n0, n1] : List Value)[j]? = some u → w.cell? ⟨vb, j, none⟩ = some u := fun j u hu => by
    rw [cell_of_row w vb j #[n0, n1] 59 (0, 0) hv]; simpa using hu
  have hvl : vb < w.heap.size := (Array.getElem?_eq_some_iff.1 hv).1
  have hov : ∀ lb cb, (callFunc 61 #[.slice (some ⟨vb, 0, none⟩) 1 1, .slice (some ⟨g, (i + 1) * 2, none⟩) lb cb]).run Tryd.prog w = .ok (.value (.bool false)) w := fun lb cb => by
    obtain ⟨i0, hi0, hz0, hs0, hb0⟩ := info_parts info59
    rw [run_callFunc_extern Tryd.func61 (by kernel_rfl) (by kernel_rfl) (by kernel_rfl) (e := Extern.SlicesOverlaps.overlaps #[33, 33] #[4]) (by kernel_rfl),
      Lib.run_overlaps_apart w 33 4 59 Tryd.underlying33 2 (fun w => by simp [Go.sizeOf, typeInfo, hi0, hs0]) ⟨vb, 0, none⟩ ⟨g, (i + 1) * 2, none⟩ 1 1 lb cb hne 59 59 2 cur.size
        (by simp [World.shape?, hv]) (by simp [World.shape?, hcur]) (by omega) (frozen_of_row w vb 0 #[n0, n1] 59 hv) (frozen_of_row w vb 2 #[n0, n1] 59 hv)]
    rfl
  obtain ⟨n, hn⟩ : ∃ n, rows.length = n := ⟨_, rfl⟩
  rw [hn] at hl hi hc hin hil hsome hpre ⊢
  have hA : ∀ W, (Instr.slice 33 (.slice (some ⟨g, 0, none⟩) n c) (some (.int .i64 i)) none none).run Tryd.prog W = .ok (.slice (some ⟨g, i * 2, none⟩) (n - i) (c - i)) W := fun W => by
    rw [cut33 _ n c i (by omega) (by omega) W]; simp [Addr.add_lit]
  have hBb : ∀ W, (Instr.slice 33 (.slice (some ⟨g, 0, none⟩) n c) none (some (.int .i64 ((n : Int) + 1))) none).run Tryd.prog W = .ok (.slice (some ⟨g, 0, none⟩) (n + 1) c) W := fun W => by
    obtain ⟨i0, hi0, hz0, hs0, hb0⟩ := info_parts info59
    have hel : Tryd.prog.elem 33 = 59 := by simp [Program.elem, Tryd.underlying33]
    have hu : Tryd.prog.underlying 33 = some (.slice (Tryd.prog.elem 33)) := by rw [hel]; exact Tryd.underlying33
    rw [run_slice_h W 33 _ n c hu .i64 ((n : Int) + 1) (by omega) (by omega), hel]
    have htn : ((n : Int) + 1).toNat = n + 1 := by omega
    simp [sizeOf, typeInfo, hi0, sliced, Result.andThen, htn, Addr.add_lit]
  have hC : ∀ W, (Instr.slice 33 (.slice (some ⟨g, 0, none⟩) (n + 1) c) (some (.int .i64 ((i : Int) + 1))) none none).run Tryd.prog W = .ok (.slice (some ⟨g, (i + 1) * 2, none⟩) (n + 1 - (i + 1)) (c - (i + 1))) W := fun W => by
    rw [show ((i : Int) + 1) = ((i + 1 : Nat) : Int) by omega, cut33 _ (n + 1) c (i + 1) (by omega) (by omega) W]; simp [Addr.add_lit]
  have hD : ∀ W, (Instr.slice 33 (.slice (some ⟨g, 0, none⟩) (n + 1) c) (some (.int .i64 i)) none none).run Tryd.prog W = .ok (.slice (some ⟨g, i * 2, none⟩) (n + 1 - i) (c - i)) W := fun W => by
    rw [cut33 _ (n + 1) c i (by omega) (by omega) W]; simp [Addr.add_lit]
  have htw : (i + 1) * 2 = i * 2 + 2 := by omega
  have hdl : (inner.drop (i * 2)).length = (n - i) * 2 := by rw [List.length_drop]; omega
  have hcp1 : ∀ ty dc sc, (Builtin.copy_ #[33, 33] ty #[.slice (some ⟨g, (i + 1) * 2, none⟩) (n + 1 - (i + 1)) dc, .slice (some ⟨g, i * 2, none⟩) (n + 1 - i) sc]).run Tryd.prog w.drew = .ok (goInt ((n - i : Nat) : Int)) (w.drew.setCells g (i * 2 + 2) (inner.drop (i * 2))) := fun ty dc sc => by
    rw [htw]
    exact run_copy_cells2 w.drew _ _ ty 59 g (i * 2 + 2) (n + 1 - (i + 1)) dc ⟨g, i * 2, none⟩ (n + 1 - i) sc (n - i) (inner.drop (i * 2)) Tryd.underlying33 info59s (by simp only [Nat.min_def]; split <;> omega) hdl
      (fun j v hj => by
        rw [Addr.add_lit]
        rw [List.getElem?_drop] at hj
        exact (hpre _ (by have := (List.getElem?_eq_some_iff.1 hj).1; omega)).trans hj)
      (fun j hj => hsome _ (by omega)) (fun j hj => hfz _) (fun v hv => hio v (List.mem_of_mem_drop hv))
  obtain ⟨W1, hW1⟩ : ∃ W1, W1 = w.drew.setCells g (i * 2 + 2) (inner.drop (i * 2)) := ⟨_, rfl⟩
  have hs1 : ∀ k, k < n * 2 + 2 → (W1.cell? ⟨g, k, none⟩).isSome = true := fun k hk => by
    rw [hW1]
    exact isSome_setCellsH g (inner.drop (i * 2)) (i * 2 + 2) w.drew (fun j hj => hsome (i * 2 + 2 + j) (by omega)) k (hsome k hk)
  have hcp2 : ∀ (W : World), (∀ x, W.cell? x = W1.cell? x) → (∀ x, W.frozen? x = W1.frozen? x) → ∀ ty dc, (Builtin.copy_ #[33, 33] ty #[.slice (some ⟨g, i * 2, none⟩) (n + 1 - i) dc, .slice (some ⟨vb, 0, none⟩) 1 1]).run Tryd.prog W = .ok (goInt ((1 : Nat) : Int)) (W.setCells g (i * 2) [n0, n1]) := fun W hWc hWf ty dc =>
    run_copy_cells2 W _ _ ty 59 g (i * 2) (n + 1 - i) dc ⟨vb, 0, none⟩ 1 1 1 [n0, n1] Tryd.underlying33 info59s (by simp only [Nat.min_def]; split <;> omega) rfl
      (fun j v hj => by
        rw [Addr.add_lit, hWc, hW1, World.cell?_setCells_out g _ _ _ _ (fun h _ => absurd h hne), Nat.zero_add]
        exact hvc j v hj)
      (fun j hj => by rw [hWc]; exact hs1 _ (by simp at hj; omega)) (fun j hj => by rw [hWf, hW1, World.frozen?_setCells]; exact hfz _) (fun v hv => by
        simp only [List.mem_cons, List.not_mem_nil, or_false] at hv
        rcases hv with rfl | rfl
        · exact h0
        · exact h1)
  have hfin : ∀ (W W2 : World), (∀ x, W.cell? x = W1.cell? x) → W2 = W.setCells g (i * 2) [n0, n1] → Below base w0 W → Kd.C (Kd.raw 2) W2 (some ⟨g, 0, none⟩) (n + 1) (putIn rows i [n0, n1]) ∧ Below base w0 W2 := fun W W2 hWc e hbW => by
    subst e
    refine ⟨rawC_of (by rw [putIn_len (by omega), hn]) (by omega) (putIn_cells hr i (by omega) n0 n1 h0 h1) (put_cells (W := w.drew) (W1 := W) (n := n) hil (by omega) (fun j hj => hpre j (by omega)) hsome (fun x => by rw [hWc, hW1]) (fun x => rfl)), ?_⟩
    have hgl : g < W.heap.size := by
      obtain ⟨u, hu⟩ := Option.isSome_iff_exists.1 (hs1 0 (by omega))
      exact World.block_lt_of_cell? W _ ((hWc _).trans hu)
    exact hbW.trans ((Tch.setCells g _ _ _).below (by omega) (fun k e => by rw [e]; exact hg))
  have e0 : ((i : Int) == (n : Int)) = false := beq_eq_false_iff_ne.mpr (by omega)
  have e0' : ¬ ((i : Int) = (n : Int)) := by omega
  have e1 : ¬ ((n : Int) + 1 > (c : Int)) := by omega
  have e2 : ¬ ((c : Int) < (n : Int) + 1) := by omega
  have HFin := Lib.hid hfin
  have HW1 := Lib.hid hW1
  have HBel : Hid (Below base w0 w.drew) := Lib.hid (hB.trans (below_drew (Below.refl _ _)))
  have HC := Lib.hid hc
  have HTch := Lib.hid (Tch.setCells g (inner.drop (i * 2)) (i * 2 + 2) w.drew)
  have HGl : Hid (base ≤ w.heap.size ∧ g < w.heap.size ∧ base ≤ g) := Lib.hid ⟨by have := (Array.getElem?_eq_some_iff.1 hcur).1; omega, (Array.getElem?_eq_some_iff.1 hcur).1, hg⟩
  rw [← hW1] at hcp1
  obtain ⟨o1, ho1⟩ : ∃ o, (i + 1) * 2 = o := ⟨_, rfl⟩
  obtain ⟨o2, ho2⟩ : ∃ o, i * 2 = o := ⟨_, rfl⟩
  obtain ⟨d0, hd0⟩ : ∃ o, n - i = o := ⟨_, rfl⟩
  obtain ⟨d1, hd1⟩ : ∃ o, n + 1 - (i + 1) = o := ⟨_, rfl⟩
  obtain ⟨d2, hd2⟩ : ∃ o, n + 1 - i = o := ⟨_, rfl⟩
  rw [ho1, hd1] at hC
  rw [ho1] at hov
  rw [ho1, ho2, hd1, hd2, hd0] at hcp1
  rw [ho2, hd0] at hA
  rw [ho2, hd2] at hD
  simp only [ho2, hd2] at hcp2 HFin
  have hov' : ∀ lb cb, (callFunc 61 #[.slice (some ⟨vb, 0, none⟩) 1 1, .slice (some ⟨g, o1, none⟩) lb cb]).run Tryd.prog w = .ok (.value (.bool false)) w := hov
  clear hfin hs1 hpre hsome hcell hfz hio hil hvc hvl hr hs hin hcur hv hB hg hdl hW1 ho1 ho2 hd1 hd2 hd0 htw hn hne h0 h1 hov hc
  go_enter Tryd.func45, Tryd.ntmps45
  go_wp2_with (simp only [hov'])
  have hw1 : IntKind.i64.wrap ((i : Int) + 1) = (i : Int) + 1 := by rw [IntKind.wrap_i64]; omega
  go_region_law (refine step_copy_runH rfl (.tmp 73) (.tmp 76) 33 33 rfl (.slice (some ⟨g, o1, none⟩) d1 (c - (i + 1))) (.slice (some ⟨g, o2, none⟩) d2 (c - i)) (by simp [Act.eval, Act.put]) (by simp [Act.eval, Act.put]) (hcp1 _ _ _) ?_)
  go_wp2_with (at_builtin; refine wpList_copy_runH rfl (.tmp 80) (.tmp 81) 33 33 rfl _ _ rfl rfl (hcp2 _ (fun _ => rfl) (fun _ => rfl) _ _) ?_)
  go_ret
  have hb1 : Below base w0 W1 := by
    rw [HW1.out]
    exact HBel.out.trans (HTch.out.below (show base ≤ w.heap.size from HGl.out.1) (fun k e => by rw [e]; exact HGl.out.2.2))
  obtain ⟨q1, q2⟩ := HFin.out W1 _ (fun _ => rfl) rfl hb1
  exact ⟨_, _, rfl, HC.out, q1, q2⟩
end Go.Proofs.YtjcocepmmjmckaaDoor.PHello
/- slices.Insert (45) of an extension where there is no room; Insert whole. -/
set_option linter.unusedVariables false
set_option linter.unusedSimpArgs false
namespace Go.Proofs.YtjcocepmmjmckaaDoor.PHello
open Go.RowKit Go.Proofs.YtjcocepmmjmckaaDoorW.PrintWords Go.Proofs.YtjcocepmmjmckaaDoorW.PrintLast Go.Proofs.YtjcocepmmjmckaaDoorW.PrintMore

theorem put_cells2 {W W1 W2 : World} {g i n : Nat} {inner : List Value} {n0 n1 : Value} (hn : inner.length = n * 2) (hi : i ≤ n)
    (hpre : ∀ j, j < i * 2 → W.cell? ⟨g, j, none⟩ = inner[j]?) (hsome : ∀ j, j < n * 2 + 2 → (W.cell? ⟨g, j, none⟩).isSome = true)
    (e1 : ∀ x, W1.cell? x = (W.setCells g (i * 2) [n0, n1]).cell? x) (e2 : ∀ x, W2.cell? x = (W1.setCells g (i * 2 + 2) (inner.drop (i * 2))).cell? x) :
    ∀ (j : Nat) (u : Value), (inner.take (i * 2) ++ [n0, n1] ++ inner.drop (i * 2))[j]? = some u → W2.cell? ⟨g, j, none⟩ = some u := by
  have htl : (inner.take (i * 2)).length = i * 2 := by rw [List.length_take]; omega
  have hdl : (inner.drop (i * 2)).length = n * 2 - i * 2 := by rw [List.length_drop]; omega
  have hs1 : ∀ j, j < n * 2 + 2 → (W1.cell? ⟨g, j, none⟩).isSome = true := fun j hj => by
    rw [e1]
    exact isSome_setCellsH _ _ _ _ (fun t ht => hsome _ (by simp at ht; omega)) _ (hsome _ hj)
  intro j u hu
  rw [e2]
  by_cases h1 : j < i * 2
  · rw [List.append_assoc, List.getElem?_append_left (by omega), List.getElem?_take, if_pos h1] at hu
    rw [World.cell?_setCells_out g _ _ _ _ (fun _ _ => Or.inl (show j < i * 2 + 2 by omega)), e1, World.cell?_setCells_out g _ _ _ _ (fun _ _ => Or.inl h1), hpre j h1]
    exact hu
  · by_cases h2 : j < i * 2 + 2
    · rw [List.append_assoc, List.getElem?_append_right (by omega), htl, List.getElem?_append_left (by simp; omega)] at hu
      obtain ⟨q, hq⟩ : ∃ q, j = i * 2 + q := ⟨j - i * 2, by omega⟩
      subst hq
      have hq2 : q < 2 := by omega
      rw [Nat.add_sub_cancel_left] at hu
      rw [World.cell?_setCells_out g _ _ _ _ (fun _ _ => Or.inl h2), e1, World.cell?_setCells_in g [n0, n1] (i * 2) W (fun t ht => hsome _ (by simp at ht; omega)) q (by simpa using hq2)]
      rw [← hu, List.getElem?_eq_getElem (by simpa using hq2)]
    · rw [List.getElem?_append_right (by simp only [List.length_append, htl, List.length_cons, List.length_nil]; omega)] at hu
      simp only [List.length_append, htl, List.length_cons, List.length_nil] at hu
      obtain ⟨q, hq⟩ : ∃ q, j = i * 2 + 2 + q := ⟨j - (i * 2 + 2), by omega⟩
      subst hq
      rw [show i * 2 + 2 + q - (i * 2 + (0 + 1 + 1)) = q by omega] at hu
      have hql : q < (inner.drop (i * 2)).length := (List.getElem?_eq_some_iff.1 hu).1
      rw [World.cell?_setCells_in g (inner.drop (i * 2)) (i * 2 + 2) W1 (fun t ht => hs1 _ (by omega)) q hql]
      rw [← hu, List.getElem?_eq_getElem hql]
open Go.Lib in
set_option maxHeartbeats 4000000 in
set_option maxRecDepth 100000 in
theorem insert_grow (w0 w : World) (base g c i : Nat) (cur : Array Value) (inner : List Value) (rows : List (List Value)) (n0 n1 : Value) (vb : Nat) (hB : Below base w0 w) (hg : base ≤ g) (hl : rows.length ≤ 1073741824) (hi : i < rows.length)
    (hcur : w.heap[g]? = some (.cells cur 59 (0, 0))) (hnc : rows.length ≤ c) (hc : c < rows.length + 1) (hs : cur.size = c * 2) (hin : cur.toList.take (rows.length * 2) = inner)
    (hr : Reps (fun (x cs : List Value) => cs = x ∧ cs.length = 2 ∧ ∀ u ∈ cs, u.oneCell' = true) 2 rows inner)
    (hv : w.heap[vb]? = some (.cells #[n0, n1] 59 (0, 0))) (h0 : n0.oneCell' = true) (h1 : n1.oneCell' = true) :
    Calls Tryd.prog 45 #[.slice (some ⟨g, 0, none⟩) rows.length c, .int .i64 i, .slice (some ⟨vb, 0, none⟩) 1 1] w fun e w' => ∃ A c, e = .returned (.slice A (rows.length + 1) c) ∧ rows.length + 1 ≤ c ∧ Kd.C (Kd.raw 2) w' A (rows.length + 1) (putIn rows i [n0, n1]) ∧ Below base w0 w' := by
  have hil : inner.length = rows.length * 2 := hr.1
  have hio := reps_one hr
  have hcell : ∀ j, w.cell? ⟨g, j, none⟩ = cur[j]? := fun j => by rw [cell_of_row w g j cur 59 (0, 0) hcur]
  have hpre : ∀ j, j < rows.length * 2 → w.cell? ⟨g, j, none⟩ = inner[j]? := fun j hj => by
    rw [hcell, ← hin, List.getElem?_take, if_pos hj]; simp
  have hvc : ∀ j u, ([n0, n1] : List Value)[j]? = some u → w.cell? ⟨vb, j, none⟩ = some u := fun j u hu => by
    rw [cell_of_row w vb j #[n0, n1] 59 (0, 0) hv]; simpa using hu
  have hvl : vb < w.heap.size := (Array.getElem?_eq_some_iff.1 hv).1
  have hgl : g < w.heap.size := (Array.getElem?_eq_some_iff.1 hcur).1
  obtain ⟨n, hn⟩ : ∃ n, rows.length = n := ⟨_, rfl⟩
  rw [hn] at hl hi hnc hc hin hil hpre ⊢
  obtain ⟨i0, hi0, hz0, hs0, hb0⟩ := info_parts info59
  have hold : (Builtin.firstCells i0.size i (.slice (some ⟨g, 0, none⟩) i c)).run Tryd.prog w.drew = .ok (inner.take (i * 2)).toArray w.drew := by
    rw [hs0]
    exact run_firstCells_some w.drew 2 i ⟨g, 0, none⟩ i c (inner.take (i * 2)) (by rw [List.length_take]; omega) (fun j v hj => by
      rw [Addr.add_lit, Nat.zero_add]
      rw [List.getElem?_take] at hj
      split at hj
      · exact (hpre j (by omega)).trans hj
      · cases hj)
  have hik : i + (n + 1 - i) = n + 1 := by omega
  obtain ⟨G, hG⟩ : ∃ G, G = grownCap w (n + 1) c 59 := ⟨_, rfl⟩
  obtain ⟨ROW, hROW⟩ : ∃ ROW : Array Value, ROW = (inner.take (i * 2)).toArray ++ Builtin.zeroCells (Value.agg #[.int .i64 0, .slice none 0 0]).cells (n + 1 - i) ++ Builtin.zeroCells (Value.agg #[.int .i64 0, .slice none 0 0]).cells (G - (n + 1)) := ⟨_, rfl⟩
  have hrz : ∀ ty, (Builtin.append_ #[33, 3] ty #[.slice (some ⟨g, 0, none⟩) i c, .int .i64 ((n : Int) + 1 - (i : Int))]).run Tryd.prog w =
      .ok (.slice (some ⟨w.heap.size, 0, none⟩) (n + 1) G) (w.drew.alloc (.cells ROW 59)) := fun ty => by
    have h := Lib.run_append_grow_zeros w 33 3 ty 59 i0 _ .i64 .i64 Tryd.underlying33 Tryd.underlying3 hi0 hz0 (some ⟨g, 0, none⟩) i c (inner.take (i * 2)) hold (n + 1 - i) (by omega) (by omega) (by omega) (by omega) (by rw [hb0]; omega) (by rw [hb0, hik]; exact growslice_fits hc (by omega))
    rw [hik, ← hG, ← hROW] at h
    rw [show (n : Int) + 1 - (i : Int) = ((n + 1 - i : Nat) : Int) by omega]
    exact h
  have hGn : n + 1 ≤ G := by rw [hG]; exact grownCap_ge w _ _ _
  have hG63 : G ≤ 9223372036854775807 := by
    have := grownCap_le_maxLen w (n + 1) c 59 (by unfold maxLen; omega)
    rw [← hG] at this
    unfold maxLen at this
    omega
  have hRl : n * 2 + 2 ≤ ROW.size := by
    rw [hROW]
    simp [Builtin.zeroCells, Value.cells]
    omega
  have hRp : ∀ j, j < i * 2 → ROW[j]? = inner[j]? := fun j hj => by
    rw [hROW, Array.append_assoc, Array.getElem?_append_left (by simp; omega)]
    simp [hj]
  have hA : ∀ W, (Instr.slice 33 (.slice (some ⟨g, 0, none⟩) n c) (some (.int .i64 i)) none none).run Tryd.prog W = .ok (.slice (some ⟨g, i * 2, none⟩) (n - i) (c - i)) W := fun W => by
    rw [cut33 _ n c i (by omega) (by omega) W]; simp [Addr.add_lit]
  have hBb : ∀ W, (Instr.slice 33 (.slice (some ⟨g, 0, none⟩) n c) none (some (.int .i64 i)) none).run Tryd.prog W = .ok (.slice (some ⟨g, 0, none⟩) i c) W := fun W => by
    have := cut_to (P := Tryd.prog) 33 59 .i64 Tryd.underlying33 hi0 (some ⟨g, 0, none⟩) n c (i : Int) (by omega) (by omega) hnc W
    rwa [Int.toNat_natCast] at this
  have hC : ∀ W, (Instr.slice 33 (.slice (some ⟨w.heap.size, 0, none⟩) (n + 1) G) (some (.int .i64 ((i : Int) + 1))) none none).run Tryd.prog W = .ok (.slice (some ⟨w.heap.size, (i + 1) * 2, none⟩) (n + 1 - (i + 1)) (G - (i + 1))) W := fun W => by
    rw [show ((i : Int) + 1) = ((i + 1 : Nat) : Int) by omega, cut33 _ (n + 1) G (i + 1) (by omega) (by omega) W]; simp [Addr.add_lit]
  have hD : ∀ W, (Instr.slice 33 (.slice (some ⟨w.heap.size, 0, none⟩) (n + 1) G) (some (.int .i64 i)) none none).run Tryd.prog W = .ok (.slice (some ⟨w.heap.size, i * 2, none⟩) (n + 1 - i) (G - i)) W := fun W => by
    rw [cut33 _ (n + 1) G i (by omega) (by omega) W]; simp [Addr.add_lit]
  have htw : (i + 1) * 2 = i * 2 + 2 := by omega
  have hdl : (inner.drop (i * 2)).length = (n - i) * 2 := by rw [List.length_drop]; omega
  obtain ⟨W1, hW1⟩ : ∃ W1, W1 = w.drew.alloc (.cells ROW 59) := ⟨_, rfl⟩
  rw [← hW1] at hrz
  have hN : ∀ j, j < n * 2 + 2 → (W1.cell? ⟨w.heap.size, j, none⟩).isSome = true := fun j hj => by
    rw [hW1, World.cell?_alloc_at (w := w.drew) ROW _ w.heap.size j rfl, Array.getElem?_eq_getElem (by omega)]; rfl
  have hNp : ∀ j, j < i * 2 → W1.cell? ⟨w.heap.size, j, none⟩ = inner[j]? := fun j hj => by
    rw [hW1, World.cell?_alloc_at (w := w.drew) ROW _ w.heap.size j rfl]; exact hRp j hj
  have hNf : ∀ j, W1.frozen? ⟨w.heap.size, j, none⟩ = false := fun j => by rw [hW1]; exact World.frozen?_alloc_at (w := w.drew) ROW _ w.heap.size j rfl
  have hOb : ∀ j v, w.cell? ⟨g, j, none⟩ = some v → W1.cell? ⟨g, j, none⟩ = some v := fun j v h => by rw [hW1, World.cell?_alloc_past (w := w.drew) _ g j hgl]; exact h
  have hOv : ∀ j v, w.cell? ⟨vb, j, none⟩ = some v → W1.cell? ⟨vb, j, none⟩ = some v := fun j v h => by rw [hW1, World.cell?_alloc_past (w := w.drew) _ vb j hvl]; exact h
  have hcpA : ∀ (W : World), (∀ x, W.cell? x = W1.cell? x) → (∀ x, W.frozen? x = W1.frozen? x) → ∀ ty dc, (Builtin.copy_ #[33, 33] ty #[.slice (some ⟨w.heap.size, i * 2, none⟩) (n + 1 - i) dc, .slice (some ⟨vb, 0, none⟩) 1 1]).run Tryd.prog W = .ok (goInt ((1 : Nat) : Int)) (W.setCells w.heap.size (i * 2) [n0, n1]) := fun W hWc hWf ty dc =>
    run_copy_cells2 W _ _ ty 59 w.heap.size (i * 2) (n + 1 - i) dc ⟨vb, 0, none⟩ 1 1 1 [n0, n1] Tryd.underlying33 info59s (by simp only [Nat.min_def]; split <;> omega) rfl
      (fun j v hj => by rw [Addr.add_lit, hWc, Nat.zero_add]; exact hOv _ v (hvc j v hj))
      (fun j hj => by rw [hWc]; exact hN _ (by simp at hj; omega)) (fun j hj => by rw [hWf]; exact hNf _) (fun v hv => by
        simp only [List.mem_cons, List.not_mem_nil, or_false] at hv
        rcases hv with rfl | rfl
        · exact h0
        · exact h1)
  have hbN : g ≠ w.heap.size := by omega
  have hcpB : ∀ (W : World), (∀ x, W.cell? x = (W1.setCells w.heap.size (i * 2) [n0, n1]).cell? x) → (∀ x, W.frozen? x = (W1.setCells w.heap.size (i * 2) [n0, n1]).frozen? x) → ∀ ty dc sc, (Builtin.copy_ #[33, 33] ty #[.slice (some ⟨w.heap.size, (i + 1) * 2, none⟩) (n + 1 - (i + 1)) dc, .slice (some ⟨g, i * 2, none⟩) (n - i) sc]).run Tryd.prog W = .ok (goInt ((n - i : Nat) : Int)) (W.setCells w.heap.size (i * 2 + 2) (inner.drop (i * 2))) := fun W hWc hWf ty dc sc => by
    rw [htw]
    exact run_copy_cells2 W _ _ ty 59 w.heap.size (i * 2 + 2) (n + 1 - (i + 1)) dc ⟨g, i * 2, none⟩ (n - i) sc (n - i) (inner.drop (i * 2)) Tryd.underlying33 info59s (by simp only [Nat.min_def]; split <;> omega) hdl
      (fun j v hj => by
        rw [Addr.add_lit, hWc, World.cell?_setCells_out _ _ _ _ _ (fun h _ => absurd h hbN)]
        rw [List.getElem?_drop] at hj
        exact hOb _ v ((hpre _ (by have := (List.getElem?_eq_some_iff.1 hj).1; omega)).trans hj))
      (fun j hj => by rw [hWc]; exact isSome_setCellsH _ _ _ _ (fun t ht => hN _ (by simp at ht; omega)) _ (hN _ (by rw [hdl] at hj; omega)))
      (fun j hj => by rw [hWf, World.frozen?_setCells]; exact hNf _) (fun v hv => hio v (List.mem_of_mem_drop hv))
  have hfin : ∀ (W W2 : World), (∀ x, W.cell? x = (W1.setCells w.heap.size (i * 2) [n0, n1]).cell? x) → W2 = W.setCells w.heap.size (i * 2 + 2) (inner.drop (i * 2)) → Below base w0 W → Kd.C (Kd.raw 2) W2 (some ⟨w.heap.size, 0, none⟩) (n + 1) (putIn rows i [n0, n1]) ∧ Below base w0 W2 := fun W W2 hWc e hbW => by
    subst e
    refine ⟨rawC_of (by rw [putIn_len (by omega), hn]) (by omega) (putIn_cells hr i (by omega) n0 n1 h0 h1) (put_cells2 (W := W1) (W1 := W) (n := n) hil (by omega) hNp hN hWc (fun x => rfl)), ?_⟩
    have hgl2 : w.heap.size < W.heap.size := by
      obtain ⟨u, hu⟩ := Option.isSome_iff_exists.1 (isSome_setCellsH w.heap.size [n0, n1] (i * 2) W1 (fun t ht => hN _ (by simp at ht; omega)) 0 (hN 0 (by omega)))
      exact World.block_lt_of_cell? W _ ((hWc _).trans hu)
    exact hbW.trans ((Tch.setCells w.heap.size _ _ _).below (by omega) (fun k e => by rw [e]; omega))
  have e0 : ((i : Int) == (n : Int)) = false := beq_eq_false_iff_ne.mpr (by omega)
  have e0' : ¬ ((i : Int) = (n : Int)) := by omega
  have e1 : ((n : Int) + 1 > (c : Int)) := by omega
  have e2 : ((c : Int) < (n : Int) + 1) := by omega
  have HFin := Lib.hid hfin
  have HW1 := Lib.hid hW1
  have HBel : Hid (Below base w0 W1) := Lib.hid (by rw [hW1]; exact (hB.trans (below_drew (Below.refl _ _))).alloc (by show base ≤ w.heap.size; omega) _)
  have HGn := Lib.hid hGn
  have HT1 : Hid (∀ W : World, Below base w0 W → w.heap.size < W.heap.size → Below base w0 (W.setCells w.heap.size (i * 2) [n0, n1])) := Lib.hid (fun W hb hlt => hb.trans ((Tch.setCells w.heap.size _ _ _).below (by omega) (fun k e => by rw [e]; omega)))
  have HW1s : Hid (w.heap.size < W1.heap.size) := Lib.hid (by
    obtain ⟨u, hu⟩ := Option.isSome_iff_exists.1 (hN 0 (by omega))
    exact World.block_lt_of_cell? W1 _ hu)
  obtain ⟨o1, ho1⟩ : ∃ o, (i + 1) * 2 = o := ⟨_, rfl⟩
  obtain ⟨o2, ho2⟩ : ∃ o, i * 2 = o := ⟨_, rfl⟩
  obtain ⟨d0, hd0⟩ : ∃ o, n - i = o := ⟨_, rfl⟩
  obtain ⟨d1, hd1⟩ : ∃ o, n + 1 - (i + 1) = o := ⟨_, rfl⟩
  obtain ⟨d2, hd2⟩ : ∃ o, n + 1 - i = o := ⟨_, rfl⟩
  rw [ho1, hd1] at hC
  rw [ho2, hd0] at hA
  rw [ho2, hd2] at hD
  simp only [ho1, ho2, hd1, hd2, hd0] at hcpA hcpB HFin HT1
  clear hfin hN hNp hNf hOb hOv hpre hcell hio hil hvc hvl hr hs hin hcur hv hB hg hdl hW1 ho1 ho2 hd1 hd2 hd0 htw hn h0 h1 hold hik hG hROW hRl hRp hgl hbN hz0 hs0 hb0
  go_enter Tryd.func45, Tryd.ntmps45
  go_wp2_with (first
    | (at_builtin; refine Lib.wpList_append_run _ rfl _ _ _ _ rfl _ _ rfl rfl _ _ (hrz _) ?_)
    | (at_builtin; refine wpList_copy_runH rfl (.tmp 43) (.tmp 44) 33 33 rfl _ _ rfl rfl (hcpA _ (fun _ => rfl) (fun _ => rfl) _ _) ?_))
  have hw1 : IntKind.i64.wrap ((i : Int) + 1) = (i : Int) + 1 := by rw [IntKind.wrap_i64]; omega
  have hB1 := hcpB ((W1.setCells w.heap.size o2 [n0, n1]).drew) (fun _ => rfl) (fun _ => rfl)
  have hB2 := hcpB (W1.drew.setCells w.heap.size o2 [n0, n1]) (fun x => by
    rfl) (fun _ => by rw [World.frozen?_setCells, World.frozen?_setCells]; rfl)
  go_region_law (first
    | refine step_copy_runH rfl (.tmp 50) (.tmp 53) 33 33 rfl (.slice (some ⟨w.heap.size, o1, none⟩) d1 (G - (i + 1))) (.slice (some ⟨g, o2, none⟩) d0 (c - i)) (by simp [Act.eval, Act.put]) (by simp [Act.eval, Act.put]) (hB1 _ _ _) ?_
    | refine step_copy_runH rfl (.tmp 50) (.tmp 53) 33 33 rfl (.slice (some ⟨w.heap.size, o1, none⟩) d1 (G - (i + 1))) (.slice (some ⟨g, o2, none⟩) d0 (c - i)) (by simp [Act.eval, Act.put]) (by simp [Act.eval, Act.put]) (hB2 _ _ _) ?_)
  clear hw1
  go_wp2
  go_ret
  obtain ⟨q1, q2⟩ := HFin.out ((W1.setCells w.heap.size o2 [n0, n1]).drew) _ (fun _ => rfl) rfl ((HT1.out W1 HBel.out HW1s.out).trans (below_drew (Below.refl _ _)))
  exact ⟨_, _, rfl, HGn.out, q1, q2⟩
/-- slices.Insert of one extension. -/
theorem insert_calls (w0 w : World) (base i : Nat) (v : Value) (rows : List (List Value)) (n0 n1 : Value) (vb : Nat) (hB : Below base w0 w) (hbase : base ≤ w.heap.size) (hR : RawR base w v rows) (hl : rows.length ≤ 1073741824) (hi : i ≤ rows.length)
    (hv : w.heap[vb]? = some (.cells #[n0, n1] 59 (0, 0))) (hne : some vb ≠ v.ownBlock) (h0 : n0.oneCell' = true) (h1 : n1.oneCell' = true) :
    Calls Tryd.prog 45 #[v, .int .i64 i, .slice (some ⟨vb, 0, none⟩) 1 1] w fun e w' => ∃ A c, e = .returned (.slice A (rows.length + 1) c) ∧ rows.length + 1 ≤ c ∧ Kd.C (Kd.raw 2) w' A (rows.length + 1) (putIn rows i [n0, n1]) ∧ Below base w0 w' := by
  by_cases he : i = rows.length
  · subst he
    exact insert_end w0 w base v rows n0 n1 vb hB hbase hR hl hv h0 h1
  · obtain ⟨g, c, cur, inner, rfl, hg, hcur, hnc, hc63, hs, hin, hr⟩ := rawR_open hR (by omega)
    by_cases hc : rows.length + 1 ≤ c
    · exact insert_shift w0 w base g c i cur inner rows n0 n1 vb hB hg hl (by omega) hcur hc hc63 hs hin hr hv (fun e => hne (by rw [e]; rfl)) h0 h1
    · exact insert_grow w0 w base g c i cur inner rows n0 n1 vb hB hg hl (by omega) hcur hnc (by omega) hs hin hr hv h0 h1
end Go.Proofs.YtjcocepmmjmckaaDoor.PHello
