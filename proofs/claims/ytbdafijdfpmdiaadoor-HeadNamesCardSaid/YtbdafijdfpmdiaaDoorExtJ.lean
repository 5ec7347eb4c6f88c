/- head.others: the heads that are handed on, one by one. -/
import Derived.Test.YtbdafijdfpmdiaaDoorExtI
import Derived.Outline
set_option linter.unusedVariables false
namespace Go.Proofs.YtbdafijdfpmdiaaDoor.PHead
open Go.RowKit Go.Shelf Go.Proofs.YtbdafijdfpmdiaaDoorW.PrintWords Go.Proofs.YtbdafijdfpmdiaaDoorW.PrintLast Go.Proofs.YtbdafijdfpmdiaaDoorW.PrintMore
attribute [local go_sem] Oper.semAt_some

/-- What lay below n₀ lies on, but for the blocks of X. -/
structure KP (n₀ : Nat) (X : Nat → Prop) (W W' : World) : Prop where
  os : W'.os = W.os
  tape : W'.tape = W.tape
  output : W'.output = W.output
  size : W.heap.size ≤ W'.heap.size
  block : ∀ k, k < n₀ → ¬ X k → W'.heap[k]? = W.heap[k]?
theorem KP.of_below {n₀ B : Nat} {X : Nat → Prop} {W W' : World} (h : Below B W W') (hn : n₀ ≤ B) : KP n₀ X W W' := ⟨h.os, h.tape, h.output, h.size, fun k hk _ => h.block k (by omega)⟩
theorem KP.trans {n₀ : Nat} {X : Nat → Prop} {W1 W2 W3 : World} (h : KP n₀ X W1 W2) (k : KP n₀ X W2 W3) : KP n₀ X W1 W3 :=
  ⟨k.os.trans h.os, k.tape.trans h.tape, k.output.trans h.output, Nat.le_trans h.size k.size, fun i hi hx => (k.block i hi hx).trans (h.block i hi hx)⟩
theorem KP.below {n₀ B : Nat} {X : Nat → Prop} {W W' : World} (h : KP n₀ X W W') (hn : B ≤ n₀) (hx : ∀ k, X k → B ≤ k) : Below B W W' := ⟨h.os, h.tape, h.output, h.size, fun k hk => h.block k (by omega) (fun hX => by have := hx k hX; omega)⟩
theorem KP.boxed {n₀ B : Nat} {X : Nat → Prop} {W W' : World} {t : TypeId} {v : Value} (h : KP n₀ X W W') (hb : Boxed W B t v) (hn : B < n₀) (hx : ¬ X B) : Boxed W' B t v := (h.block B hn hx).trans hb
theorem below_grown {W W' : World} (h : Below W.heap.size W W') : W.grownBy W' none := ⟨h.os, h.tape, h.output, h.size, fun k hk _ => h.block k hk⟩
theorem abides_below {β : Type} {B : Nat} {J : β → World → Prop} (h : AbidesFrom B J) {s : β} {W W' : World} (hs : J s W) (hb : Below W.heap.size W W') : J s W' := h s W W' none hs (below_grown hb) (fun r e => by cases e)
theorem boxed_below {W W' : World} {B : Nat} {t : TypeId} {v : Value} (h : Boxed W B t v) (hb : Below W.heap.size W W') : Boxed W' B t v := (hb.block B h.lt).trans h

abbrev encS (x : S28) : Array Value := #[.agg #[.string x.f0, .string x.f1]]

set_option maxHeartbeats 2000000 in
set_option maxRecDepth 100000 in
theorem iter56 (n : Nat) (hn : 1 ≤ n) (w0 : World) (A : Option Addr) (c : Nat) (xs : List S28) (hread : Kd.C k28 w0 A xs.length xs) (keep : S28 → Bool) (g : Nat) (lb : Array Value) (eg : ∀ args w, (callFunc g args).run Tryd.prog w = .ok (.enter g args) w)
    (n₀ : Nat) (X : Nat → Prop) (hn₀ : w0.heap.size ≤ n₀) (hX : ∀ k, X k → w0.heap.size ≤ k) (B1 B2 : Nat) (hB1 : B1 < n₀) (hB2 : B2 < n₀) (hX1 : ¬ X B1) (hX2 : ¬ X B2) (Ok : World → Prop) (hOk : ∀ W W', Ok W → KP n₀ X W W' → Ok W')
    (hgone : ∀ (x : S28) (W : World), x ∈ xs → Ok W → Calls Tryd.prog g (#[.string x.f0] ++ lb) W fun e w' => e = .returned (.bool (!keep x)) ∧ Below W.heap.size W w')
    (l : Nat) (J Jx : List S28 → World → Prop) (W : World) (hJ : AbidesFrom W.heap.size J) (hJx : AbidesFrom W.heap.size Jx) (hW0 : Below w0.heap.size w0 W) (hWn : n₀ ≤ W.heap.size) (hWok : Ok W)
    (hY : ∀ pre x W1, J pre W1 → pre.length < xs.length → YieldAt Fence.wide (n - 1) Tryd.prog l (encS x) W1 fun e W' =>
      (e = .returned (.bool true) ∧ J (pre ++ [x]) W' ∧ KP n₀ X W1 W') ∨ (e = .returned (.bool false) ∧ Jx (pre ++ [x]) W'))
    (hb1 : Boxed W B1 22 (.slice A xs.length c)) (hb2 : Boxed W B2 45 (.func (.func g) #[] lb)) (h0 : J [] W) :
    CallsIn Fence.wide n Tryd.prog 56 #[.func (.yield l) #[] #[], .pointer (some ⟨B1, 0, none⟩), .pointer (some ⟨B2, 0, none⟩)] W fun e W' => (∃ v, e = .returned v) ∧
      ((∃ ys, ys = xs.filter keep ∧ J ys W') ∨ (∃ pre, pre <+: xs.filter keep ∧ Jx pre W')) := by
  refine callsIn_of_wp Tryd.func56 rfl trivial ?_ rfl
  simp only [Tryd.ntmps56, List.size_toArray, List.length_cons, List.length_nil, Nat.reduceAdd, Nat.reduceSub, Array.replicate_succ, Array.replicate_zero, List.push_toArray, List.append_toArray, List.nil_append, List.cons_append]
  have hc1 := hb1.cell
  have HG := Lib.hid hgone
  have HY := Lib.hid hY
  have HOk := Lib.hid hOk
  have HJ := Lib.hid hJ
  have HR := Lib.hid hread
  have HXX := Lib.hid hX
  clear hgone hY hOk hJ hread hX
  gi_wp2
  gi_loopw [8] (fun v8 wr => ∃ j : Nat, v8 = .int .i64 j ∧ j ≤ xs.length ∧ J ((xs.take j).filter keep) wr ∧ Below w0.heap.size w0 wr ∧ Boxed wr B2 45 (.func (.func g) #[] lb) ∧ Ok wr ∧ n₀ ≤ wr.heap.size) (fun i _ => xs.length - (intOf i).toNat)
  case atStart => exact ⟨0, rfl, Nat.zero_le _, h0, hW0, hb2, hWok, hWn⟩
  case round =>
    clear hc1 hb1 hb2 h0 hW0 hWok
    obtain ⟨j, rfl, hj, hJs, hbel, hb2, hok, hwn⟩ := hrel
    by_cases hlt : j < xs.length
    · have hrd := Kd.C_below HR.out hbel
      obtain ⟨ad, eA, hc0, hc1⟩ := at_T28 hrd (j : Int) (by omega) (by omega)
      have hget : rd_T28 xs (j : Int) = xs[j] := by simp [rd_T28, List.getD, hlt]
      rw [hget] at hc0 hc1
      have hmem : xs[j] ∈ xs := List.getElem_mem hlt
      have htk : (xs.take (j + 1)).filter keep = (xs.take j).filter keep ++ (if keep xs[j] then [xs[j]] else []) := by
        rw [List.take_succ_eq_append_getElem hlt, List.filter_append]
        by_cases hk : keep xs[j] = true
        · simp [hk]
        · simp [hk]
      have hpl : ((xs.take j).filter keep).length < xs.length := by
        have := List.length_filter_le keep (xs.take j)
        rw [List.length_take] at this
        omega
      have hpre : ((xs.take (j + 1)).filter keep) <+: xs.filter keep := by
        conv => rhs; rw [← List.take_append_drop (j + 1) xs, List.filter_append]
        exact List.prefix_append _ _
      obtain ⟨x, hxe⟩ : ∃ x, xs[j] = x := ⟨_, rfl⟩
      rw [hxe] at hc0 hc1 hmem htk
      rw [Int.toNat_natCast] at hc0 hc1
      have hji : (j : Int) < (xs.length : Int) := by omega
      have hl2 : (xs.length : Int) ≤ 9223372036854775807 := by have := HR.out.2.1; omega
      have hg := HG.out x
      obtain ⟨pre, hpe⟩ : ∃ pre, (xs.take j).filter keep = pre := ⟨_, rfl⟩
      rw [hpe] at hJs htk hpl
      obtain ⟨w1, hw1⟩ : ∃ w1, wr.alloc (.cells #[.string x.f0, .string x.f1] 28) = w1 := ⟨_, rfl⟩
      have hbw : Below wr.heap.size wr w1 := by rw [← hw1]; exact below_alloc (Below.refl _ wr) _
      have hok1 : Ok w1 := HOk.out _ _ hok (KP.of_below hbw hwn)
      have hb21 := boxed_below hb2 hbw
      have hcell : w1.heap[wr.heap.size]? = some (.cells #[.string x.f0, .string x.f1] 28 (0, 0)) := by rw [← hw1]; exact World.alloc_heap_new wr _
      have hJ1 := abides_below HJ.out hJs hbw
      have hg1 := hg w1 hmem hok1
      have HGone := Lib.hid hg1
      have HB := Lib.hid (hbel.trans (hbw.mono hbel.size))
      have HPre := Lib.hid hpre
      have HTk := Lib.hid htk
      have hcg : (wr.alloc (.cells #[.string x.f0, .string x.f1] 28)).cell? ⟨B2, 0, none⟩ = some (.func (.func g) #[] lb) := by rw [hw1]; exact hb21.cell
      have HW := Lib.hid hw1
      have HB21 := Lib.hid hb21
      have HJ1 := Lib.hid hJ1
      have HOk1 := Lib.hid hok1
      have HCell := Lib.hid hcell
      have HWn : Hid (n₀ ≤ w1.heap.size) := Lib.hid (Nat.le_trans hwn hbw.size)
      clear hrd hget hxe hpe hbw hok1 hb21 hcell hJ1 hg hg1 hw1 hpre htk hJs hbel hb2 hok hwn
      subst eA
      gi_wp2_with fail
      refine ⟨trivial, ?_⟩
      rw [HW.out]
      refine (callsIn_wide.2 HGone.out).mono ?_
      rintro e W2 ⟨rfl, hb⟩
      have hcell2 := (hb.block wr.heap.size (blk_lt HCell.out)).trans HCell.out
      have hf0 : W2.cell? ⟨wr.heap.size, 0, none⟩ = some (.string x.f0) := by simp [World.cell?, hcell2]
      have hf1 : W2.cell? ⟨wr.heap.size, 1, none⟩ = some (.string x.f1) := by simp [World.cell?, hcell2]
      have hJ2 := abides_below HJ.out HJ1.out hb
      have hok2 := HOk.out _ _ HOk1.out (KP.of_below hb HWn.out)
      have hb22 := boxed_below HB21.out hb
      have hbel2 := HB.out.trans (hb.mono HB.out.size)
      have hwn2 : n₀ ≤ W2.heap.size := Nat.le_trans HWn.out hb.size
      have HJ2 := Lib.hid hJ2
      have HOk2 := Lib.hid hok2
      have HB22 := Lib.hid hb22
      have HBel2 := Lib.hid hbel2
      have HWn2 := Lib.hid hwn2
      clear hb hcell2 hJ2 hok2 hb22 hbel2 hwn2 hcg
      by_cases hk : keep x = true
      · have HK := Lib.hid hk
        rw [hk]
        clear hk
        obtain ⟨fn, tmps, assign, body, hy, hRd⟩ := HY.out pre x W2 HJ2.out hpl
        dsimp only [encS] at hy
        have HRd := Lib.hid hRd
        clear hRd
        gi_wp2_with fail
        refine HRd.out.mono ?_
        rintro e W3 (⟨rfl, hJ3, hk3⟩ | ⟨rfl, hJx3⟩)
        · have hbel3 := HBel2.out.trans (hk3.below hn₀ HXX.out)
          have hb23 := hk3.boxed HB22.out hB2 hX2
          have hok3 := HOk.out _ _ HOk2.out hk3
          have hwn3 : n₀ ≤ W3.heap.size := Nat.le_trans HWn2.out hk3.size
          gi_wp2
          go_roundw
          case rel =>
            refine ⟨j + 1, by go_num, by omega, ?_, hbel3, hb23, hok3, hwn3⟩
            rw [HTk.out, HK.out]
            simpa using hJ3
          case measure => simp [intOf]; omega
        · gi_wp2
          refine bodyPost_ret (results_none rfl _ _ _) rfl ?_
          refine ⟨⟨_, rfl⟩, .inr ⟨_, ?_, hJx3⟩⟩
          have := HPre.out
          rw [HTk.out, HK.out] at this
          simpa using this
      · have hk' : keep x = false := by simpa using hk
        have HK := Lib.hid hk'
        rw [hk']
        clear hk hk'
        gi_wp2
        refine ⟨fun _ h => (by cases h), ?_⟩
        gi_wp2
        go_roundw
        case rel =>
          refine ⟨j + 1, by go_num, by omega, ?_, HBel2.out, HB22.out, HOk2.out, HWn2.out⟩
          rw [HTk.out, HK.out]
          simpa using HJ2.out
        case measure => simp [intOf]; omega
    · obtain rfl : j = xs.length := by omega
      rw [List.take_length] at hJs
      gi_wp2
      go_end0
      exact ⟨⟨_, rfl⟩, .inl ⟨_, rfl, hJs⟩⟩
end Go.Proofs.YtbdafijdfpmdiaaDoor.PHead
