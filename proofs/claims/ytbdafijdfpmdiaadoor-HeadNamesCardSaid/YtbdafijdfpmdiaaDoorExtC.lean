/- head.build: the table of the bytes that may stand in a name; head.folded: a name in small letters. -/
import Derived.Test.YtbdafijdfpmdiaaDoorExtD
import Derived.Test.YtbdafijdfpmdiaaDoorExtB
import Derived.Laws.Rows
import Derived.Laws.CopyOwn
import Derived.IntWalk
import Derived.Outline
namespace Go.Proofs.YtbdafijdfpmdiaaDoor.PHead
open Go.RowKit Go.Proofs.YtbdafijdfpmdiaaDoorW.PrintWords Go.Proofs.YtbdafijdfpmdiaaDoorW.PrintLast Go.Proofs.YtbdafijdfpmdiaaDoorW.PrintMore

/-- What the table holds at c. -/
def tabv (c : Nat) : Int := if (97 ≤ c ∧ c ≤ 122) ∨ (48 ≤ c ∧ c ≤ 57) ∨ c = 45 ∨ c = 95 then c else if 65 ≤ c ∧ c ≤ 90 then c + 32 else 0
/-- Cells of 256 bytes that are as f says. -/
def TabOf (cells : Array Value) (f : Nat → Int) : Prop := cells.size = 256 ∧ ∀ j, j < 256 → cells[j]? = some (.int .u8 (f j))
/-- The block g is such a table. -/
def ARow (W : World) (g : Nat) (f : Nat → Int) : Prop := ∃ cells, W.heap[g]? = some (.cells cells 65 (0, 0)) ∧ TabOf cells f
def upTo (f : Nat → Int) (k : Nat) : Nat → Int := fun j => if j < k then f j else 0

theorem ARow.cell {W : World} {g : Nat} {f : Nat → Int} (h : ARow W g f) (j : Nat) (hj : j < 256) : W.cell? ⟨g, j, none⟩ = some (.int .u8 (f j)) := by
  obtain ⟨cells, h1, h2, h3⟩ := h
  rw [cell_of_row W g j cells 65 (0, 0) h1]
  exact h3 j hj
theorem ARow.free {W : World} {g : Nat} {f : Nat → Int} (h : ARow W g f) (j : Nat) : W.frozen? ⟨g, j, none⟩ = false := by
  obtain ⟨cells, h1, h2⟩ := h
  exact frozen_of_row W g j cells 65 h1
theorem ARow.set {W : World} {g : Nat} {f f' : Nat → Int} (h : ARow W g f) (k : Nat) (v : Int) (hk : k < 256) (h1 : f' k = v) (h2 : ∀ j, j ≠ k → f' j = f j) : ARow (W.setCell ⟨g, k, none⟩ (.int .u8 v)) g f' := by
  obtain ⟨cells, hb, hs, hc⟩ := h
  refine ⟨cells.setIfInBounds k (.int .u8 v), by simp [World.setCell, Array.getElem?_modify, hb], by simpa using hs, ?_⟩
  intro j hj
  by_cases e : k = j
  · subst e
    have : k < cells.size := by omega
    simp [this, h1]
  · rw [Array.getElem?_setIfInBounds_ne e, hc j hj, h2 j (fun x => e x.symm)]
theorem ARow.same {W : World} {g : Nat} {f f' : Nat → Int} (h : ARow W g f) (h2 : ∀ j, f' j = f j) : ARow W g f' := by
  obtain rfl : f' = f := funext h2
  exact h
theorem zeroTab : TabOf Tryd.zeroCells65 (fun _ => 0) := by
  have h : Tryd.zeroCells65 = Array.replicate 256 (.int .u8 0) := by kernel_rfl
  rw [h]
  exact ⟨by simp, fun j hj => by simp [hj]⟩

theorem upTo_hit (f : Nat → Int) (k : Nat) : upTo f (k + 1) k = f k := by simp [upTo]
theorem upTo_far (f : Nat → Int) (k j : Nat) (h : j ≠ k) : upTo f (k + 1) j = upTo f k j := by
  unfold upTo
  by_cases h1 : j < k
  · rw [if_pos h1, if_pos (by omega)]
  · rw [if_neg h1, if_neg (by omega)]
theorem upTo_none (f : Nat → Int) (k : Nat) (h : f k = 0) (j : Nat) : upTo f (k + 1) j = upTo f k j := by
  by_cases e : j = k
  · subst e
    rw [upTo_hit, h]
    simp [upTo]
  · exact upTo_far f k j e

set_option maxHeartbeats 4000000 in
set_option maxRecDepth 100000 in
theorem build60 (w : World) :
    Calls Tryd.prog 60 #[] w fun e w' => ∃ x, e = .returned (.agg x) ∧ TabOf x tabv ∧ Below w.heap.size w w' := by
  go_enter Tryd.func60, Tryd.ntmps60
  go_wp2
  have hrow : ARow (w.alloc (.cells Tryd.zeroCells65 65)) w.heap.size (upTo tabv 0) := ⟨_, heap_alloc_new w _, by
    rw [show upTo tabv 0 = fun _ => 0 from funext fun j => if_neg (Nat.not_lt_zero _)]
    exact zeroTab⟩
  have hbel : Below w.heap.size w (w.alloc (.cells Tryd.zeroCells65 65)) := (Below.refl _ w).alloc (Nat.le_refl _) _
  have hsz : (w.alloc (.cells Tryd.zeroCells65 65)).heap.size = w.heap.size + 1 := by simp
  obtain ⟨w1, hw1⟩ : ∃ w1, w.alloc (.cells Tryd.zeroCells65 65) = w1 := ⟨_, rfl⟩
  rw [hw1] at hrow hbel hsz ⊢
  clear hw1
  obtain ⟨g, hg⟩ : ∃ g, w.heap.size = g := ⟨_, rfl⟩
  have HG := Lib.hid hg
  rw [hg]
  rw [hg] at hrow
  clear hg
  go_loopw [3] (fun v3 wr => ∃ k : Nat, v3 = .int .i64 k ∧ k ≤ 256 ∧ ARow wr g (upTo tabv k) ∧ Below w.heap.size w wr) (fun i _ => 256 - (intOf i).toNat)
  case atStart => exact ⟨0, rfl, by omega, hrow, hbel⟩
  case round =>
    clear hrow hbel
    obtain ⟨k, rfl, hk, hrow, hbel⟩ := hrel
    by_cases hlt : k < 256
    · have hc := hrow.cell k hlt
      have hf := hrow.free k
      have hkk : IntKind.u8.wrap (k : Int) = k := IntWalk.u8_in _ (by omega)
      have HR := Lib.hid hrow
      have HB := Lib.hid hbel
      have HH := Lib.hid (upTo_hit tabv k)
      have HF := Lib.hid (upTo_far tabv k)
      clear hrow hbel
      have hset : ∀ v : Int, tabv k = v → ARow (wr.setCell ⟨g, k, none⟩ (.int .u8 v)) g (upTo tabv (k + 1)) ∧ Below w.heap.size w (wr.setCell ⟨g, k, none⟩ (.int .u8 v)) := fun v hv => ⟨HR.out.set k v hlt (by rw [HH.out, hv]) HF.out, HB.out.setCell (p := ⟨g, k, none⟩) (by rw [HG.out]; exact Nat.le_refl _) _⟩
      have HS := Lib.hid hset
      clear hset
      by_cases c1 : 97 ≤ (k : Int)
      · have b1 : decide (97 ≤ (k : Int)) = true := decide_eq_true c1
        by_cases c2 : (k : Int) ≤ 122
        · have b2 : decide ((k : Int) ≤ 122) = true := decide_eq_true c2
          go_wp2
          go_roundw
          case rel =>
            have := HS.out k (by unfold tabv; rw [if_pos (by omega)])
            exact ⟨k + 1, by go_num, by omega, this.1, this.2⟩
          case measure => simp [intOf]; omega
        · have b2 : decide ((k : Int) ≤ 122) = false := decide_eq_false c2
          have b3 : decide (48 ≤ (k : Int)) = true := decide_eq_true (by omega)
          have b4 : decide ((k : Int) ≤ 57) = false := decide_eq_false (by omega)
          have b5 : ((k : Int) == 45) = false := beq_eq_false_iff_ne.2 (by omega)
          have b6 : ((k : Int) == 95) = false := beq_eq_false_iff_ne.2 (by omega)
          have b7 : decide (65 ≤ (k : Int)) = true := decide_eq_true (by omega)
          have b8 : decide ((k : Int) ≤ 90) = false := decide_eq_false (by omega)
          go_wp2
          go_roundw
          case rel => exact ⟨k + 1, by go_num, by omega, HR.out.same (upTo_none _ _ (by unfold tabv; rw [if_neg (by omega), if_neg (by omega)])), HB.out⟩
          case measure => simp [intOf]; omega
      · have b1 : decide (97 ≤ (k : Int)) = false := decide_eq_false c1
        by_cases c3 : 48 ≤ k ∧ k ≤ 57
        · have b3 : decide (48 ≤ (k : Int)) = true := decide_eq_true (by omega)
          have b4 : decide ((k : Int) ≤ 57) = true := decide_eq_true (by omega)
          go_wp2
          go_roundw
          case rel =>
            have := HS.out k (by unfold tabv; rw [if_pos (by omega)])
            exact ⟨k + 1, by go_num, by omega, this.1, this.2⟩
          case measure => simp [intOf]; omega
        by_cases c5 : k = 45
        · have b3 : decide (48 ≤ (k : Int)) = false := decide_eq_false (by omega)
          have b5 : ((k : Int) == 45) = true := beq_iff_eq.2 (by omega)
          have HK := Lib.hid c5
          clear c5
          go_wp2
          go_roundw
          case rel =>
            have := HS.out k (by unfold tabv; have := HK.out; rw [if_pos (by omega)])
            exact ⟨k + 1, by go_num, by omega, this.1, this.2⟩
          case measure => simp [intOf]; omega
        by_cases c6 : k = 95
        · have b3 : decide (48 ≤ (k : Int)) = true := decide_eq_true (by omega)
          have b4 : decide ((k : Int) ≤ 57) = false := decide_eq_false (by omega)
          have b5 : ((k : Int) == 45) = false := beq_eq_false_iff_ne.2 (by omega)
          have b6 : ((k : Int) == 95) = true := beq_iff_eq.2 (by omega)
          have HK := Lib.hid c6
          clear c6
          go_wp2
          go_roundw
          case rel =>
            have := HS.out k (by unfold tabv; have := HK.out; rw [if_pos (by omega)])
            exact ⟨k + 1, by go_num, by omega, this.1, this.2⟩
          case measure => simp [intOf]; omega
        have b5 : ((k : Int) == 45) = false := beq_eq_false_iff_ne.2 (by omega)
        have b6 : ((k : Int) == 95) = false := beq_eq_false_iff_ne.2 (by omega)
        by_cases c7 : 65 ≤ k ∧ k ≤ 90
        · have b3 : decide (48 ≤ (k : Int)) = true := decide_eq_true (by omega)
          have b4 : decide ((k : Int) ≤ 57) = false := decide_eq_false (by omega)
          have b7 : decide (65 ≤ (k : Int)) = true := decide_eq_true (by omega)
          have b8 : decide ((k : Int) ≤ 90) = true := decide_eq_true (by omega)
          go_wp2
          go_roundw
          case rel =>
            have := HS.out ((k : Int) + 97 - 65) (by unfold tabv; rw [if_neg (by omega), if_pos (by omega)]; omega)
            exact ⟨k + 1, by go_num, by omega, this.1, this.2⟩
          case measure => simp [intOf]; omega
        by_cases c8 : 48 ≤ k
        · have b3 : decide (48 ≤ (k : Int)) = true := decide_eq_true (by omega)
          have b4 : decide ((k : Int) ≤ 57) = false := decide_eq_false (by omega)
          by_cases c9 : 65 ≤ k
          · have b7 : decide (65 ≤ (k : Int)) = true := decide_eq_true (by omega)
            have b8 : decide ((k : Int) ≤ 90) = false := decide_eq_false (by omega)
            go_wp2
            go_roundw
            case rel => exact ⟨k + 1, by go_num, by omega, HR.out.same (upTo_none _ _ (by unfold tabv; rw [if_neg (by omega), if_neg (by omega)])), HB.out⟩
            case measure => simp [intOf]; omega
          · have b7 : decide (65 ≤ (k : Int)) = false := decide_eq_false (by omega)
            go_wp2
            go_roundw
            case rel => exact ⟨k + 1, by go_num, by omega, HR.out.same (upTo_none _ _ (by unfold tabv; rw [if_neg (by omega), if_neg (by omega)])), HB.out⟩
            case measure => simp [intOf]; omega
        · have b3 : decide (48 ≤ (k : Int)) = false := decide_eq_false (by omega)
          have b7 : decide (65 ≤ (k : Int)) = false := decide_eq_false (by omega)
          go_wp2
          go_roundw
          case rel => exact ⟨k + 1, by go_num, by omega, HR.out.same (upTo_none _ _ (by unfold tabv; rw [if_neg (by omega), if_neg (by omega)])), HB.out⟩
          case measure => simp [intOf]; omega
    · obtain rfl : k = 256 := by omega
      obtain ⟨cells, hb, hs, ht⟩ := hrow
      have hi65 : (Tryd.prog.info? 65).map (·.size) = some cells.size := by rw [hs]; kernel_rfl
      have hone : cells.all (·.oneCell') = true := by
        rw [Array.all_eq_true]
        intro i hi
        have := ht i (by omega)
        rw [Array.getElem?_eq_getElem hi] at this
        rw [Option.some.inj this]
        rfl
      have HS := Lib.hid hs
      have HT := Lib.hid ht
      have HB := Lib.hid hbel
      clear hs ht hbel
      go_wp2_with (first | (refine wpList_load_row rfl 65 _ rfl g rfl 65 cells (0, 0) _ hb Tryd.underlying65 rfl hi65 ?_) | (refine wpList_store_row rfl 65 _ _ rfl g cells rfl rfl 65 cells hb hi65 rfl hone ?_))
      refine bodyPost_ret (v := .agg cells) (results_cell_row rfl _ _ g 65 cells (0, 0) _ rfl (setRow_heap wr g cells cells 65 (0, 0) hb) Tryd.underlying65 rfl hi65) rfl ?_
      refine ⟨cells, rfl, ⟨HS.out, fun j hj => ?_⟩, ?_⟩
      · rw [HT.out j hj]
        unfold upTo
        rw [if_pos hj]
      · exact below_setRow HB.out (by rw [HG.out]; exact Nat.le_refl _) _
theorem ARow.below {W W' : World} {g : Nat} {f : Nat → Int} (h : ARow W g f) (hb : Below W.heap.size W W') : ARow W' g f := by
  obtain ⟨cells, h1, h2⟩ := h
  exact ⟨cells, (hb.block g (blk_lt h1)).trans h1, h2⟩
theorem tab_one {x : Array Value} {f : Nat → Int} (h : TabOf x f) : x.all (·.oneCell') = true := by
  rw [Array.all_eq_true]
  intro i hi
  have := h.2 i (by rw [← h.1]; exact hi)
  rw [Array.getElem?_eq_getElem hi] at this
  rw [Option.some.inj this]
  rfl
theorem zero65_size : Tryd.zeroCells65.size = 256 := zeroTab.1
theorem store65 {x : Array Value} {f : Nat → Int} (h : TabOf x f) (W : World) (g : Nat) (hg : W.heap[g]? = some (.cells Tryd.zeroCells65 65 (0, 0))) : (storeVar 65 ⟨g, 0, none⟩ (.agg x)).run Tryd.prog W = .ok () (W.setRow g x) :=
  run_storeVar_row W g 65 65 Tryd.zeroCells65 x hg (by rw [h.1]; kernel_rfl) (by rw [h.1]; exact zero65_size) (tab_one h)
theorem make38 (n : Nat) (hn : n ≤ 30) : ∃ zs : Array Value, (zs.size = n ∧ ∀ j, j < n → zs[j]? = some (.int .u8 0)) ∧ ∀ W : World, (Instr.makeSlice 38 (.int .i64 (n : Int)) (.int .i64 (n : Int))).run Tryd.prog W = .ok (.slice (some ⟨W.heap.size, 0, none⟩) n n) (W.alloc (.cells zs 5)) := by
  obtain ⟨i0, hi, hzz⟩ := Option.map_eq_some_iff.1 info5
  simp only [Prod.mk.injEq] at hzz
  obtain ⟨hz0, hz1, hz2⟩ := hzz
  refine ⟨madeCells (Value.int .u8 0).cells n, ?_, fun W => ?_⟩
  · refine ⟨size_madeCells _ _, fun j hj => ?_⟩
    simp [madeCells, hj, show (Value.int IntKind.u8 0).cells = #[Value.int .u8 0] from rfl, Nat.mod_one]
  · have := run_make (P := Tryd.prog) W 38 5 i0 (.int .u8 0) Tryd.underlying38 hi hz0 .i64 .i64 n n (by omega) (by omega) (by rw [hz2]; omega) (by omega)
    rw [hz1, Int.toNat_natCast, Nat.mul_one] at this
    exact this

theorem step_store65 {ops : Array Oper} {o : Oper} {a : Act} {W : World} {K : Act → World → Prop} {Q : Exit → Act → World → Prop} {E : Prop} {x : Array Value} {f : Nat → Int} (h : TabOf x f)
    (hgd : o.guard = none) (p v : Operand) (ho : o.op = .store 65 p v) (g : Nat) (hx : a.eval p = .pointer (some ⟨g, 0, none⟩)) (hy : a.eval v = .agg x) (hg : W.heap[g]? = some (.cells Tryd.zeroCells65 65 (0, 0)))
    (hK : K (a.put o.dst undef) (W.setRow g x)) : if Region.wanted o (yielded ops a.tmps) = true then Oper.wp Tryd.prog o a W K Q else E := by
  rw [if_pos (by simp [Region.wanted, hgd])]
  exact wp_store_row 65 p v ho g x hx hy 65 Tryd.zeroCells65 hg (by rw [h.1]; kernel_rfl) (by rw [h.1]; exact zero65_size) (tab_one h) hK

end Go.Proofs.YtbdafijdfpmdiaaDoor.PHead
