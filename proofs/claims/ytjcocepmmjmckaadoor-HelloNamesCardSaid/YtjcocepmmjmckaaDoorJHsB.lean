/- host.build: what a byte is in a host, as a table; rows of bytes that a conversion lays. -/
import Derived.Test.YtjcocepmmjmckaaDoorJHsD
import Derived.Lib.Hide
import Derived.Lib.ConvBytes
import Derived.Lib.Strings
import Derived.Laws.BytesArg
import Derived.Laws.Rows
import Derived.Laws.CopyOwn
import Derived.IntWalk
import Derived.Outline
set_option linter.unusedVariables false
namespace Go.Proofs.YtjcocepmmjmckaaDoor.PHello
open Go.RowKit Go.Proofs.YtjcocepmmjmckaaDoorW.PrintWords Go.Proofs.YtjcocepmmjmckaaDoorW.PrintLast Go.Proofs.YtjcocepmmjmckaaDoorW.PrintMore

def numsB (l : List UInt8) : List Int := l.map fun b => (b.toNat : Int)
/-- Block g holds the numbers l (bytes), and then some; it bears a conversion's mark. -/
def BRow (W : World) (g : Nat) (l : List Int) : Prop := ∃ cur : Array Value, W.heap[g]? = some (.cells cur 5 (cur.size, cur.size + 1)) ∧ l.length ≤ cur.size ∧ ∀ j, j < l.length → cur[j]? = some (.int .u8 (l.getD j 0))

theorem BRow.cell {W : World} {g : Nat} {l : List Int} (h : BRow W g l) (j : Nat) (hj : j < l.length) : W.cell? ⟨g, j, none⟩ = some (.int .u8 (l.getD j 0)) := by
  obtain ⟨cur, h1, h2, h3⟩ := h
  simp [World.cell?, h1, h3 j hj]
theorem BRow.free {W : World} {g : Nat} {l : List Int} (h : BRow W g l) (j : Nat) (hj : j < l.length) : W.frozen? ⟨g, j, none⟩ = false := by
  obtain ⟨cur, h1, h2, h3⟩ := h
  simp [World.frozen?, h1]
  omega
theorem BRow.set {W : World} {g : Nat} {l : List Int} (h : BRow W g l) (j : Nat) (v : Int) : BRow (W.setCell ⟨g, j, none⟩ (.int .u8 v)) g (l.set j v) := by
  obtain ⟨cur, h1, h2, h3⟩ := h
  refine ⟨cur.setIfInBounds j (.int .u8 v), ?_, by simpa using h2, ?_⟩
  · simp [World.setCell, Array.getElem?_modify, h1]
  · intro i hi
    have hi' : i < l.length := by simpa using hi
    by_cases e : j = i
    · subst e
      have : j < cur.size := by omega
      simp [List.getD, this, hi']
    · rw [Array.getElem?_setIfInBounds_ne (by exact e), h3 i hi']
      simp [List.getD, List.getElem?_set_ne e]
theorem BRow.conv (w : World) (s : ByteArray) : BRow (Lib.bytesWorld w 5 s) w.heap.size (numsB s.data.toList) := by
  have hl : (numsB s.data.toList).length = s.data.size := by unfold numsB; rw [List.length_map, Array.length_toList]
  refine ⟨_, Lib.bytesWorld_at_new w 5 s, ?_, ?_⟩
  · rw [hl]
    unfold Lib.bytesCells
    rw [Array.size_append, Array.size_map]
    omega
  · intro j hj
    rw [hl] at hj
    unfold Lib.bytesCells
    rw [Array.getElem?_append_left (by rw [Array.size_map]; exact hj)]
    unfold numsB
    rw [Array.getElem?_map, Array.getElem?_eq_getElem hj, List.getD, List.getElem?_map, Array.getElem?_toList, Array.getElem?_eq_getElem hj]
    rfl
theorem BRow.below {W W1 : World} {g B : Nat} {l : List Int} (h : BRow W g l) (hb : Below B W W1) (hg : g < B) : BRow W1 g l := by
  obtain ⟨cur, h1, h2, h3⟩ := h
  exact ⟨cur, (hb.block g hg).trans h1, h2, h3⟩
theorem conv_below (w : World) (s : ByteArray) : Below w.heap.size w (Lib.bytesWorld w 5 s) :=
  ⟨rfl, rfl, rfl, by rw [Lib.bytesWorld_size]; omega, fun k hk => Lib.bytesWorld_at_old w 5 s k hk⟩

/-- The first k letters made small. -/
def midL (l : List UInt8) (k : Nat) : List UInt8 := (l.take k).map lowB ++ l.drop k
theorem midL_zero (l : List UInt8) : midL l 0 = l := by simp [midL]
theorem midL_all (l : List UInt8) : midL l l.length = l.map lowB := by simp [midL]
theorem midL_len (l : List UInt8) (k : Nat) (hk : k ≤ l.length) : (midL l k).length = l.length := by simp [midL]; omega
theorem midL_at (l : List UInt8) (k : Nat) (hk : k < l.length) : (numsB (midL l k)).getD k 0 = ((l[k]).toNat : Int) := by
  have h1 : ((l.take k).map lowB).length = k := by simp; omega
  have h2 : (midL l k)[k]? = some l[k] := by
    unfold midL
    rw [List.getElem?_append_right (by omega), h1]
    simp [hk]
  simp [numsB, List.getD, h2]
theorem midL_succ (l : List UInt8) (k : Nat) (hk : k < l.length) : midL l (k + 1) = (midL l k).set k (lowB l[k]) := by
  have h1 : ((l.take k).map lowB).length = k := by simp; omega
  unfold midL
  rw [List.take_succ_eq_append_getElem hk, List.map_append, List.set_append_right _ _ (by omega), h1, Nat.sub_self, List.drop_eq_getElem_cons hk, List.set_cons_zero]
  simp
theorem numsB_set (l : List UInt8) (k : Nat) (b : UInt8) : numsB (l.set k b) = (numsB l).set k (b.toNat : Int) := by simp [numsB, List.map_set]
theorem midL_same (l : List UInt8) (k : Nat) (hk : k < l.length) (h : lowB l[k] = l[k]) : midL l (k + 1) = midL l k := by
  rw [midL_succ l k hk, h]
  have h1 : ((l.take k).map lowB).length = k := by simp; omega
  unfold midL
  rw [List.set_append_right _ _ (by omega), h1, Nat.sub_self, List.drop_eq_getElem_cons hk, List.set_cons_zero]
/-- Cells of 256 bytes that are as f says. -/
def TabOf (cells : Array Value) (f : Nat → Int) : Prop := cells.size = 256 ∧ ∀ j, j < 256 → cells[j]? = some (.int .u8 (f j))
/-- The block g is such a table. -/
def ARow (W : World) (g : Nat) (f : Nat → Int) : Prop := ∃ cells, W.heap[g]? = some (.cells cells 116 (0, 0)) ∧ TabOf cells f
theorem ARow.cell {W : World} {g : Nat} {f : Nat → Int} (h : ARow W g f) (j : Nat) (hj : j < 256) : W.cell? ⟨g, j, none⟩ = some (.int .u8 (f j)) := by
  obtain ⟨cells, h1, h2, h3⟩ := h
  rw [cell_of_row W g j cells 116 (0, 0) h1]
  exact h3 j hj
theorem ARow.free {W : World} {g : Nat} {f : Nat → Int} (h : ARow W g f) (j : Nat) : W.frozen? ⟨g, j, none⟩ = false := by
  obtain ⟨cells, h1, h2⟩ := h
  exact frozen_of_row W g j cells 116 h1
theorem ARow.set {W : World} {g : Nat} {f f' : Nat → Int} (h : ARow W g f) (k : Nat) (v : Int) (hk : k < 256) (h1 : f' k = v) (h2 : ∀ j, j ≠ k → f' j = f j) : ARow (W.setCell ⟨g, k, none⟩ (.int .u8 v)) g f' := by
  obtain ⟨cells, hb, hs, hc⟩ := h
  refine ⟨cells.setIfInBounds k (.int .u8 v), by simp [World.setCell, Array.getElem?_modify, hb], by simpa using hs, ?_⟩
  intro j hj
  by_cases e : k = j
  · subst e
    have : k < cells.size := by omega
    simp [this, h1]
  · rw [Array.getElem?_setIfInBounds_ne e, hc j hj, h2 j (fun x => e x.symm)]
theorem ARow.same {W : World} {g : Nat} {f f' : Nat → Int} (h : ARow W g f) (h2 : ∀ j, f' j = f j) : ARow W g f' := by
  obtain rfl : f' = f := funext h2
  exact h
theorem zeroTab : TabOf Tryd.zeroCells116 (fun _ => 0) := by
  have h : Tryd.zeroCells116 = Array.replicate 256 (.int .u8 0) := by kernel_rfl
  rw [h]
  exact ⟨by simp, fun j hj => by simp [hj]⟩


/-- The table after the letters up to k; after the digits up to k; in the end. -/
def tabA (k : Nat) : Nat → Int := fun j => if 97 ≤ j ∧ j < k then 3 else if 65 ≤ j ∧ j + 32 < k then 4 else 0
def tabD (k : Nat) : Nat → Int := fun j => if 48 ≤ j ∧ j < k then 3 else tabA 123 j
def tabv : Nat → Int := fun j => if j = 46 then 1 else if j = 45 then 2 else tabD 58 j
def tabH (k : Nat) : Nat → Int := fun j => if j = k then 3 else tabA k j

set_option maxHeartbeats 4000000 in
set_option maxRecDepth 100000 in
theorem build32 (w : World) :
    Calls Tryd.prog 78 #[] w fun e w' => ∃ x, e = .returned (.agg x) ∧ TabOf x tabv ∧ Below w.heap.size w w' := by
  go_enter Tryd.func78, Tryd.ntmps78
  go_wp2
  have hrow : ARow (w.alloc (.cells Tryd.zeroCells116 116)) w.heap.size (tabA 97) := ⟨_, heap_alloc_new w _, by
    rw [show tabA 97 = fun _ => 0 from funext fun j => by unfold tabA; rw [if_neg (by omega), if_neg (by omega)]]
    exact zeroTab⟩
  have hbel : Below w.heap.size w (w.alloc (.cells Tryd.zeroCells116 116)) := (Below.refl _ w).alloc (Nat.le_refl _) _
  obtain ⟨w1, hw1⟩ : ∃ w1, w.alloc (.cells Tryd.zeroCells116 116) = w1 := ⟨_, rfl⟩
  rw [hw1] at hrow hbel ⊢
  clear hw1
  obtain ⟨g, hg⟩ : ∃ g, w.heap.size = g := ⟨_, rfl⟩
  have HG := Lib.hid hg
  rw [hg]
  rw [hg] at hrow
  clear hg
  go_loopw [1] (fun v1 wr => ∃ k : Nat, v1 = .int .i32 k ∧ 97 ≤ k ∧ k ≤ 123 ∧ ARow wr g (tabA k) ∧ Below w.heap.size w wr) (fun i _ => 123 - (intOf i).toNat)
  case atStart => exact ⟨97, rfl, by omega, by omega, hrow, hbel⟩
  case round =>
    clear hrow hbel
    obtain ⟨k, rfl, hk0, hk, hrow, hbel⟩ := hrel
    by_cases hlt : k < 123
    · have b1 : decide ((k : Int) ≤ 122) = true := decide_eq_true (by omega)
      have hf := hrow.free k
      have hc := hrow.cell k (by omega)
      have hf2 := hrow.free (k - 97 + 65)
      have hc2 := hrow.cell (k - 97 + 65) (by omega)
      have HR := Lib.hid hrow
      have HB := Lib.hid hbel
      clear hrow hbel
      go_wp2
      go_roundw
      case rel =>
        have s1 : ARow (wr.setCell ⟨g, k, none⟩ (.int .u8 3)) g (tabH k) := HR.out.set k 3 (by omega) (by unfold tabH; rw [if_pos rfl]) (fun j hj => by unfold tabH; rw [if_neg hj])
        have s2 : ARow ((wr.setCell ⟨g, k, none⟩ (.int .u8 3)).setCell ⟨g, k - 97 + 65, none⟩ (.int .u8 4)) g (tabA (k + 1)) := s1.set (k - 97 + 65) 4 (by omega) (by unfold tabA; rw [if_neg (by omega), if_pos (by omega)]) (fun j hj => by
          unfold tabH tabA
          by_cases e : j = k
          · rw [if_pos (by omega), if_pos e]
          · rw [if_neg e]
            by_cases e1 : 97 ≤ j ∧ j < k
            · rw [if_pos (by omega), if_pos e1]
            · rw [if_neg (by omega), if_neg e1]
              by_cases e2 : 65 ≤ j ∧ j + 32 < k
              · rw [if_pos (by omega), if_pos e2]
              · rw [if_neg (by omega), if_neg e2])
        exact ⟨k + 1, by go_num, by omega, by omega, s2, (HB.out.setCell (p := ⟨g, k, none⟩) (by rw [HG.out]; exact Nat.le_refl _) _).setCell (p := ⟨g, k - 97 + 65, none⟩) (by rw [HG.out]; exact Nat.le_refl _) _⟩
      case measure => simp [intOf]; omega
    · obtain rfl : k = 123 := by omega
      have HR := Lib.hid hrow
      have HB := Lib.hid hbel
      clear hrow hbel
      go_wp2
      go_loopw [2] (fun v2 wq => ∃ m : Nat, v2 = .int .i32 m ∧ 48 ≤ m ∧ m ≤ 58 ∧ ARow wq g (tabD m) ∧ Below w.heap.size w wq) (fun i _ => 58 - (intOf i).toNat)
      case atStart =>
        have hs : ∀ j, tabD 48 j = tabA 123 j := fun j => by unfold tabD; rw [if_neg (by omega)]
        exact ⟨48, rfl, by omega, by omega, HR.out.same hs, HB.out⟩
      case round =>
        clear HR HB
        obtain ⟨m, rfl, hm0, hm, hrow, hbel⟩ := hrel
        by_cases hlt2 : m < 58
        · have b1 : decide ((m : Int) ≤ 57) = true := decide_eq_true (by omega)
          have hf := hrow.free m
          have hc := hrow.cell m (by omega)
          have HR := Lib.hid hrow
          have HB := Lib.hid hbel
          clear hrow hbel
          go_wp2
          go_roundw
          case rel =>
            have s1 : ARow (wr.setCell ⟨g, m, none⟩ (.int .u8 3)) g (tabD (m + 1)) := HR.out.set m 3 (by omega) (by unfold tabD; rw [if_pos (by omega)]) (fun j hj => by
              unfold tabD
              by_cases e : 48 ≤ j ∧ j < m
              · rw [if_pos (by omega), if_pos e]
              · rw [if_neg (by omega), if_neg e])
            exact ⟨m + 1, by go_num, by omega, by omega, s1, HB.out.setCell (p := ⟨g, m, none⟩) (by rw [HG.out]; exact Nat.le_refl _) _⟩
          case measure => simp [intOf]; omega
        · obtain rfl : m = 58 := by omega
          have hf := hrow.free 45
          have hc := hrow.cell 45 (by omega)
          have hf2 := hrow.free 46
          have hc2 := hrow.cell 46 (by omega)
          have s1 : ARow (wr.setCell ⟨g, 45, none⟩ (.int .u8 2)) g (fun j => if j = 45 then 2 else tabD 58 j) := hrow.set 45 2 (by omega) (if_pos rfl) (fun j hj => if_neg hj)
          have s2 : ARow ((wr.setCell ⟨g, 45, none⟩ (.int .u8 2)).setCell ⟨g, 46, none⟩ (.int .u8 1)) g tabv := s1.set 46 1 (by omega) (if_pos rfl) (fun j hj => if_neg hj)
          have hbel2 : Below w.heap.size w ((wr.setCell ⟨g, 45, none⟩ (.int .u8 2)).setCell ⟨g, 46, none⟩ (.int .u8 1)) := (hbel.setCell (p := ⟨g, 45, none⟩) (by rw [HG.out]; exact Nat.le_refl _) _).setCell (p := ⟨g, 46, none⟩) (by rw [HG.out]; exact Nat.le_refl _) _
          obtain ⟨cells, hb, hs, ht⟩ := s2
          have hi52 : (Tryd.prog.info? 116).map (·.size) = some cells.size := by rw [hs]; kernel_rfl
          have hone : cells.all (·.oneCell') = true := by
            rw [Array.all_eq_true]
            intro i hi
            have := ht i (by omega)
            rw [Array.getElem?_eq_getElem hi] at this
            rw [Option.some.inj this]
            rfl
          have HS := Lib.hid hs
          have HT := Lib.hid ht
          have HB := Lib.hid hbel2
          clear hs ht hbel hbel2 hrow s1
          go_wp2_with (first | (refine wpList_load_row rfl 116 _ rfl g rfl 116 cells (0, 0) _ hb Tryd.underlying116 rfl hi52 ?_) | (refine wpList_store_row rfl 116 _ _ rfl g cells rfl rfl 116 cells hb hi52 rfl hone ?_))
          refine bodyPost_ret (v := .agg cells) (results_cell_row rfl _ _ g 116 cells (0, 0) _ rfl (setRow_heap _ g cells cells 116 (0, 0) hb) Tryd.underlying116 rfl hi52) rfl ?_
          exact ⟨cells, rfl, ⟨HS.out, HT.out⟩, below_setRow HB.out (by rw [HG.out]; exact Nat.le_refl _) _⟩
theorem ARow.below {W W' : World} {g : Nat} {f : Nat → Int} (h : ARow W g f) (hb : Below W.heap.size W W') : ARow W' g f := by
  obtain ⟨cells, h1, h2⟩ := h
  exact ⟨cells, (hb.block g (blk_lt h1)).trans h1, h2⟩
theorem tab_one {x : Array Value} {f : Nat → Int} (h : TabOf x f) : x.all (·.oneCell') = true := by
  rw [Array.all_eq_true]
  intro i hi
  have := h.2 i (by rw [← h.1]; exact hi)
  rw [Array.getElem?_eq_getElem hi] at this
  rw [Option.some.inj this]
  rfl
theorem zero52_size : Tryd.zeroCells116.size = 256 := zeroTab.1
theorem store52 {x : Array Value} {f : Nat → Int} (h : TabOf x f) (W : World) (g : Nat) (hg : W.heap[g]? = some (.cells Tryd.zeroCells116 116 (0, 0))) : (storeVar 116 ⟨g, 0, none⟩ (.agg x)).run Tryd.prog W = .ok () (W.setRow g x) :=
  run_storeVar_row W g 116 116 Tryd.zeroCells116 x hg (by rw [h.1]; kernel_rfl) (by rw [h.1]; exact zero52_size) (tab_one h)
theorem step_store52 {ops : Array Oper} {o : Oper} {a : Act} {W : World} {K : Act → World → Prop} {Q : Exit → Act → World → Prop} {E : Prop} {x : Array Value} {f : Nat → Int} (h : TabOf x f)
    (hgd : o.guard = none) (p v : Operand) (ho : o.op = .store 116 p v) (g : Nat) (hx : a.eval p = .pointer (some ⟨g, 0, none⟩)) (hy : a.eval v = .agg x) (hg : W.heap[g]? = some (.cells Tryd.zeroCells116 116 (0, 0)))
    (hK : K (a.put o.dst undef) (W.setRow g x)) : if Region.wanted o (yielded ops a.tmps) = true then Oper.wp Tryd.prog o a W K Q else E := by
  rw [if_pos (by simp [Region.wanted, hgd])]
  exact wp_store_row 116 p v ho g x hx hy 116 Tryd.zeroCells116 hg (by rw [h.1]; kernel_rfl) (by rw [h.1]; exact zero52_size) (tab_one h) hK

end Go.Proofs.YtjcocepmmjmckaaDoor.PHello
