/- slices.Clone of bytes. -/
import Derived.Test.YtjcocepmmjmckaaDoorJExtQ
import Derived.Test.YtjcocepmmjmckaaDoorPHellox1
set_option linter.unusedVariables false
set_option linter.unusedSimpArgs false
namespace Go.Proofs.YtjcocepmmjmckaaDoor.PHello
open Go.RowKit Go.Proofs.YtjcocepmmjmckaaDoorW.PrintWords Go.Proofs.YtjcocepmmjmckaaDoorW.PrintLast Go.Proofs.YtjcocepmmjmckaaDoorW.PrintMore

theorem eql_nil (W : World) (A : Option Addr) (l c : Nat) : (binOp .eql 25 (.slice A l c) (.slice none 0 0)).run Tryd.prog W = .ok (.bool A.isNone) W := by
  simp [binOp, run_equal_slice_nil W 25 5 A l c Tryd.underlying25]
set_option maxHeartbeats 1600000 in
set_option maxRecDepth 100000 in
theorem clone_calls (A0 : Option Addr) (c0 : Nat) (l0 : List Int) (w : World) (hr0 : Kd.C (Kd.int .u8) w A0 l0.length l0) (hc0 : l0.length ≤ c0) (hl : l0.length < 140737488355328) :
    Calls Tryd.prog 29 #[.slice A0 l0.length c0] w fun e w' => ∃ v0_ : Value, e = .returned (v0_) ∧ Kd.R (Kd.int .u8) 5 w' w.heap.size (fun _ => True) v0_ l0 ∧ Below w.heap.size w w' := by
  cases A0 with
  | none =>
    have hz : l0 = [] := by
      cases l0 with
      | nil => rfl
      | cons x l => obtain ⟨a, ha, _⟩ := hr0.2.2 (by simp); cases ha
    subst hz
    have heq := fun W => eql_nil W none 0 c0
    clear hr0 hc0 hl
    go_enter Tryd.func29, Tryd.ntmps29
    go_wp2
    go_ret
    exact ⟨_, rfl, Kd.R_nil _ _ _ _ (fun _ => True), Below.refl _ _⟩
  | some a =>
    have heq := fun W => eql_nil W (some a) l0.length c0
    have HR := Lib.hid hr0
    have HC := Lib.hid hc0
    have HL := Lib.hid hl
    clear hr0 hc0 hl
    go_enter Tryd.func29, Tryd.ntmps29
    go_wp2_with (first
      | ((with_reducible refine gate_dst (N := 5) rfl ?_); refine Kd.R_lit (Kd.int .u8) w.heap.size 5 ?hg (N := 5) ?hd (xs := ([] : List Int)) (inner := []) (ok := fun _ => True) (okp := fun _ => True) ?hr (Reps.none _ _) (fun _ hk => hk) trivial (Below.refl _ _) (Nat.le_refl _) (by simp) ?_; (case hd => rfl); (case hg => rfl); (case hr => first | (go_simp; done) | (go_simp; rfl)); intro v5 w5 ho hb hg_ hnew_; have HO := Lib.hid ho; have HB := Lib.hid hb; clear ho hb hg_ hnew_)
      | ((with_reducible refine gate_builtin (b := .append) (xs := #[.tmp 5, .tmp 6]) rfl ?_); at_builtin; refine Kd.R_append_rows (Kd.int .u8) (w0 := w) w.heap.size rfl (.tmp 5) (.tmp 6) 25 5 (.int .u8 0) 1 rfl Tryd.underlying25 info5 rfl (by decide) (by omega) v5 ([] : List Int) l0 _ _ _ (fun _ => True) (fun _ => False) rfl rfl ?aO ?aR (fun _ _ h => h) (fun _ h => h.elim) ?aF ?aB ?aS ?aL ?_; (case aR => exact Kd.C_below HR.out HB.out); (case aB => exact HB.out); (case aF => exact (fun _ _ => trivial)); (case aO => exact HO.out); (case aS => exact HB.out.size); (case aL => have := HL.out; simp; omega); intro v7 w7 ho hb hg hat; rw [List.nil_append] at ho; have HO7 := Lib.hid ho; have HB7 := Lib.hid hb; clear ho hb hg hat))
    go_ret
    exact ⟨_, rfl, HO7.out, HB7.out⟩
end Go.Proofs.YtjcocepmmjmckaaDoor.PHello
/- A greeting's block. -/
set_option linter.unusedVariables false
set_option linter.unusedSimpArgs false
namespace Go.Proofs.YtjcocepmmjmckaaDoor.PHello
open Go.RowKit Go.Proofs.YtjcocepmmjmckaaDoorW.PrintWords Go.Proofs.YtjcocepmmjmckaaDoorW.PrintLast Go.Proofs.YtjcocepmmjmckaaDoorW.PrintMore

/-- A greeting's cells. -/
def gcs (m : Int) (R : List Value) (s u me : Value) (h : ByteArray) (a : Int) (x : Value) : List Value := .int .i64 m :: (R ++ [s, u, me, .string h, .int .i64 a, x])
/-- Block g holds a greeting. -/
def GB (w : World) (g : Nat) (m : Int) (R : List Value) (s u me : Value) (h : ByteArray) (a : Int) (x : Value) : Prop :=
  R.length = 32 ∧ w.heap[g]? = some (.cells (gcs m R s u me h a x).toArray 35 (0, 0))
section
variable {w w' : World} {g : Nat} {m a : Int} {R : List Value} {s u me x : Value} {h : ByteArray}
theorem GB.lt (hg : GB w g m R s u me h a x) : g < w.heap.size := (Array.getElem?_eq_some_iff.1 hg.2).1
theorem GB.at (hg : GB w g m R s u me h a x) (k : Nat) (v : Value) (hk : (gcs m R s u me h a x)[k]? = some v) : w.cell? ⟨g, k, none⟩ = some v := by
  simp [World.cell?, hg.2, hk]
theorem gcs_tail (hR : R.length = 32) (k : Nat) : (gcs m R s u me h a x)[33 + k]? = [s, u, me, .string h, .int .i64 a, x][k]? := by
  unfold gcs
  rw [show 33 + k = (32 + k) + 1 by omega, List.getElem?_cons_succ, List.getElem?_append_right (by omega), hR, Nat.add_sub_cancel_left]
theorem GB.c0 (hg : GB w g m R s u me h a x) : w.cell? ⟨g, 0, none⟩ = some (.int .i64 m) := hg.at 0 _ rfl
theorem GB.c33 (hg : GB w g m R s u me h a x) : w.cell? ⟨g, 33, none⟩ = some s := hg.at 33 _ (gcs_tail hg.1 0)
theorem GB.c34 (hg : GB w g m R s u me h a x) : w.cell? ⟨g, 34, none⟩ = some u := hg.at 34 _ (gcs_tail hg.1 1)
theorem GB.c35 (hg : GB w g m R s u me h a x) : w.cell? ⟨g, 35, none⟩ = some me := hg.at 35 _ (gcs_tail hg.1 2)
theorem GB.c36 (hg : GB w g m R s u me h a x) : w.cell? ⟨g, 36, none⟩ = some (.string h) := hg.at 36 _ (gcs_tail hg.1 3)
theorem GB.c37 (hg : GB w g m R s u me h a x) : w.cell? ⟨g, 37, none⟩ = some (.int .i64 a) := hg.at 37 _ (gcs_tail hg.1 4)
theorem GB.c38 (hg : GB w g m R s u me h a x) : w.cell? ⟨g, 38, none⟩ = some x := hg.at 38 _ (gcs_tail hg.1 5)
theorem GB.frozen (hg : GB w g m R s u me h a x) (k : Nat) : w.frozen? ⟨g, k, none⟩ = false := by simp [World.frozen?, hg.2]
theorem GB.heap_set (hg : GB w g m R s u me h a x) (k : Nat) (v : Value) : (w.setCell ⟨g, k, none⟩ v).heap[g]? = some (.cells ((gcs m R s u me h a x).set k v).toArray 35 (0, 0)) := by
  have := hg.2
  simp [World.setCell, Array.getElem?_modify, this]
theorem gcs_set (hR : R.length = 32) (k : Nat) (v : Value) : (gcs m R s u me h a x).set (33 + k) v = .int .i64 m :: (R ++ [s, u, me, .string h, .int .i64 a, x].set k v) := by
  unfold gcs
  rw [show 33 + k = (32 + k) + 1 by omega, List.set_cons_succ, List.set_append_right _ _ (by omega), hR, Nat.add_sub_cancel_left]
theorem GB.s0 (hg : GB w g m R s u me h a x) (m' : Int) : GB (w.setCell ⟨g, 0, none⟩ (.int .i64 m')) g m' R s u me h a x := ⟨hg.1, hg.heap_set 0 _⟩
theorem GB.s33 (hg : GB w g m R s u me h a x) (v : Value) : GB (w.setCell ⟨g, 33, none⟩ v) g m R v u me h a x := ⟨hg.1, by rw [hg.heap_set, gcs_set hg.1 0]; rfl⟩
theorem GB.s34 (hg : GB w g m R s u me h a x) (v : Value) : GB (w.setCell ⟨g, 34, none⟩ v) g m R s v me h a x := ⟨hg.1, by rw [hg.heap_set, gcs_set hg.1 1]; rfl⟩
theorem GB.s35 (hg : GB w g m R s u me h a x) (v : Value) : GB (w.setCell ⟨g, 35, none⟩ v) g m R s u v h a x := ⟨hg.1, by rw [hg.heap_set, gcs_set hg.1 2]; rfl⟩
theorem GB.s36 (hg : GB w g m R s u me h a x) (v : ByteArray) : GB (w.setCell ⟨g, 36, none⟩ (.string v)) g m R s u me v a x := ⟨hg.1, by rw [hg.heap_set, gcs_set hg.1 3]; rfl⟩
theorem GB.s37 (hg : GB w g m R s u me h a x) (v : Int) : GB (w.setCell ⟨g, 37, none⟩ (.int .i64 v)) g m R s u me h v x := ⟨hg.1, by rw [hg.heap_set, gcs_set hg.1 4]; rfl⟩
theorem GB.s38 (hg : GB w g m R s u me h a x) (v : Value) : GB (w.setCell ⟨g, 38, none⟩ v) g m R s u me h a v := ⟨hg.1, by rw [hg.heap_set, gcs_set hg.1 5]; rfl⟩
theorem GB.tch {X : Nat → Prop} (hg : GB w g m R s u me h a x) (ht : Tch X w w') (hx : ¬ X g) : GB w' g m R s u me h a x := ⟨hg.1, (ht.block g hg.lt hx).trans hg.2⟩
end
theorem Tch.setc (w : World) (b k : Nat) (v : Value) : Tch (· = b) w (w.setCell ⟨b, k, none⟩ v) := by
  refine ⟨by simp [World.setCell], by simp [World.setCell], by simp [World.setCell], by simp [World.setCell], fun i hk hx => ?_⟩
  simp only [World.setCell]
  rw [Array.getElem?_modify, if_neg (fun e => hx e.symm)]
theorem Tch.row {α : Type} {d : Kd α} {e : Nat} {X ok : Nat → Prop} {w w' : World} {base : Nat} {v : Value} {xs : List α} (h : d.R e w base ok v xs) (ht : Tch X w w') (hx : ∀ k, X k → k < base) : d.R e w' base ok v xs :=
  Kd.R_mono (Kd.R_step (Kd.R_bound h) (fun k hk hlt => ht.block k hlt (fun e => by have := hx k e; omega))) (fun k hk => hk.1)
end Go.Proofs.YtjcocepmmjmckaaDoor.PHello
