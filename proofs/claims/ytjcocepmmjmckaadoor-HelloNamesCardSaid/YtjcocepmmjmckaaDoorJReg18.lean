/- hello.Write (20): what it answers; rows of rows that a statement lays. -/
import Derived.Test.YtjcocepmmjmckaaDoorJExtL
import Derived.Test.YtjcocepmmjmckaaDoorJRegInv
set_option linter.unusedVariables false
set_option linter.unusedSimpArgs false
namespace Go.Proofs.YtjcocepmmjmckaaDoor.PHello
open Go.RowKit Go.Proofs.YtjcocepmmjmckaaDoorW.PrintWords Go.Proofs.YtjcocepmmjmckaaDoorW.PrintLast Go.Proofs.YtjcocepmmjmckaaDoorW.PrintMore

/-- Extensions out of numbers and bytes. -/
def toS (xs : List (Int × List UInt8)) : List S59 := xs.map fun x => ⟨x.1, numsB x.2⟩
theorem toS_len (xs : List (Int × List UInt8)) : (toS xs).length = xs.length := by simp [toS]
def suiB (sui : List Int) : List UInt8 := (sui.map fun n => rowB 2 n.toNat).flatten
def extB (x : Int × List UInt8) : List UInt8 := rowB 2 x.1.toNat ++ pcB 2 x.2
def nameB (h : List UInt8) : List UInt8 := pcB 2 ([0] ++ pcB 2 h)
def allX (xs : List (Int × List UInt8)) (a : Nat) (h : List UInt8) : List (Int × List UInt8) := xs.take a ++ (0, nameB h) :: xs.drop a
def extsB (xs : List (Int × List UInt8)) : List UInt8 := (xs.map extB).flatten
def ownB (R ses : List UInt8) (sui : List Int) (met h : List UInt8) (a : Nat) (xs : List (Int × List UInt8)) : List UInt8 :=
  [1] ++ pcB 3 ([3, 3] ++ R ++ pcB 1 ses ++ pcB 2 (suiB sui) ++ pcB 1 met ++ pcB 2 (extsB (allX xs a h)))
/-- What Write answers. -/
def writeR (m : Int) (R ses : List UInt8) (sui : List Int) (met : List UInt8) (h : ByteArray) (a : Int) (xs : List (Int × List UInt8)) : Option (List UInt8) :=
  if mayR m (numsB ses) sui (numsB met) h a (toS xs) = true then
    if (ownB R ses sui met h.data.toList a.toNat xs).length ≤ 16384 then some ([22, 3, UInt8.ofNat m.toNat] ++ pcB 2 (ownB R ses sui met h.data.toList a.toNat xs)) else none
  else none
theorem suiB_len (sui : List Int) : (suiB sui).length = sui.length * 2 := by
  unfold suiB
  induction sui with
  | nil => rfl
  | cons n r ih => rw [List.map_cons, List.flatten_cons, List.length_append, ih, rowB_len, List.length_cons]; omega
theorem pcB_len (k : Nat) (b : List UInt8) : (pcB k b).length = k + b.length := by simp [pcB, rowB_len]
theorem extB_len (x : Int × List UInt8) : (extB x).length = 4 + x.2.length := by simp only [extB, List.length_append, rowB_len, pcB_len]; omega
theorem nameB_len (h : List UInt8) : (nameB h).length = 5 + h.length := by simp only [nameB, pcB_len, List.length_append, List.length_cons, List.length_nil]; omega
theorem extsB_le {xs : List (Int × List UInt8)} {M : Nat} (h : ∀ x ∈ xs, x.2.length ≤ M) : (extsB xs).length ≤ xs.length * (M + 4) := by
  unfold extsB
  induction xs with
  | nil => simp
  | cons x r ih =>
    rw [List.map_cons, List.flatten_cons, List.length_append, extB_len, List.length_cons]
    have h1 := h x List.mem_cons_self
    have h2 := ih (fun y hy => h y (List.mem_cons_of_mem _ hy))
    rw [Nat.add_mul, Nat.one_mul]
    omega
/-- A row of rows that a statement has laid. -/
theorem rdLL_lit {w : World} {g : Nat} {vals : List Value} {ls : List (List UInt8)} (hg : w.heap[g]? = some (.cells vals.toArray 25 (0, 0))) (hl : vals.length = ls.length) (hm : ls.length ≤ 9223372036854775807)
    (hv : ∀ (j : Nat) (v : Value) (l : List UInt8), vals[j]? = some v → ls[j]? = some l → ∃ A c, v = .slice A l.length c ∧ l.length ≤ c ∧ Kd.C (Kd.int .u8) w A l.length (numsB l)) : RdLL w (some ⟨g, 0, none⟩) ls := by
  refine ⟨by simp, hm, fun _ => ⟨_, rfl, fun j p hj => ?_⟩⟩
  have hjl : j < ls.length := by have := (List.getElem?_eq_some_iff.1 hj).1; simpa using this
  have hp : p = numsB ls[j] := by simpa [hjl] using hj.symm
  subst hp
  obtain ⟨A, c, h1, h2, h3⟩ := hv j vals[j] ls[j] (List.getElem?_eq_getElem (by omega)) (List.getElem?_eq_getElem hjl)
  refine ⟨[vals[j]], rfl, ⟨A, c, by rw [numsB_len, h1], by rw [numsB_len]; exact h2, by rw [numsB_len]; exact h3⟩, fun i u hu => ?_⟩
  have hi : i = 0 := by have := (List.getElem?_eq_some_iff.1 hu).1; simpa using this
  subst hi
  simp only [List.getElem?_cons_zero, Option.some.injEq] at hu
  subst hu
  rw [Addr.add_lit]
  show w.cell? ⟨g, 0 + (j * 1 + 0), none⟩ = _
  rw [Nat.zero_add, Nat.mul_one, Nat.add_zero, cell_of_row w g j vals.toArray 25 (0, 0) hg]
  simp [show j < vals.length by omega]
/-- Rows that can be read as bytes, told by a value. -/
def RdV (w : World) (v : Value) (l : List UInt8) : Prop := ∃ A c, v = .slice A l.length c ∧ l.length ≤ c ∧ Kd.C (Kd.int .u8) w A l.length (numsB l)
theorem RdV.below {w w' : World} {v : Value} {l : List UInt8} (h : RdV w v l) (hb : Below w.heap.size w w') : RdV w' v l := by
  obtain ⟨A, c, h1, h2, h3⟩ := h
  exact ⟨A, c, h1, h2, Kd.C_below h3 hb⟩
theorem RwB.rdV {base : Nat} {w : World} {v : Value} {l : List UInt8} (h : RwB base w v l) : RdV w v l := by
  obtain ⟨A, c, h1, h2, h3⟩ := Kd.R_reads h
  rw [numsB_len] at h1 h2 h3
  exact ⟨A, c, h1, h2, h3⟩
theorem BRow.rdC {w : World} {g : Nat} {l : List UInt8} (h : BRow w g (numsB l)) (hm : l.length ≤ 9223372036854775807) : Kd.C (Kd.int .u8) w (some ⟨g, 0, none⟩) l.length (numsB l) := by
  refine ⟨numsB_len l, hm, fun _ => ⟨_, rfl, fun j p hj => ?_⟩⟩
  have hjl : j < (numsB l).length := (List.getElem?_eq_some_iff.1 hj).1
  have hc := h.cell j hjl
  have hp : (numsB l).getD j 0 = p := by simp [List.getD, hj]
  rw [hp] at hc
  refine ⟨[.int .u8 p], rfl, rfl, fun i u hu => ?_⟩
  have hi : i = 0 := by have := (List.getElem?_eq_some_iff.1 hu).1; simpa using this
  subst hi
  simp only [List.getElem?_cons_zero, Option.some.injEq] at hu
  subst hu
  rw [Addr.add_lit]
  show w.cell? ⟨g, 0 + (j * 1 + 0), none⟩ = _
  rw [Nat.zero_add, Nat.mul_one, Nat.add_zero]
  exact hc
/-- Bytes that a statement has laid. -/
theorem litC {w : World} {g : Nat} {l : List UInt8} (hg : w.heap[g]? = some (.cells (cellsB l).toArray 5 (0, 0))) (hm : l.length ≤ 9223372036854775807) : Kd.C (Kd.int .u8) w (some ⟨g, 0, none⟩) l.length (numsB l) := by
  refine ⟨numsB_len l, hm, fun _ => ⟨_, rfl, fun j p hj => ?_⟩⟩
  have hjl : j < (numsB l).length := (List.getElem?_eq_some_iff.1 hj).1
  refine ⟨[.int .u8 p], rfl, rfl, fun i u hu => ?_⟩
  have hi : i = 0 := by have := (List.getElem?_eq_some_iff.1 hu).1; simpa using this
  subst hi
  simp only [List.getElem?_cons_zero, Option.some.injEq] at hu
  subst hu
  rw [Addr.add_lit]
  show w.cell? ⟨g, 0 + (j * 1 + 0), none⟩ = _
  rw [Nat.zero_add, Nat.mul_one, Nat.add_zero, cell_of_row w g j (cellsB l).toArray 5 (0, 0) hg]
  simp [cellsB, hj]
end Go.Proofs.YtjcocepmmjmckaaDoor.PHello
/- hello.Write's region 5 (20): the extensions cloned, the name put in. -/
set_option linter.unusedVariables false
set_option linter.unusedSimpArgs false
namespace Go.Proofs.YtjcocepmmjmckaaDoor.PHello
open Go.RowKit Go.Proofs.YtjcocepmmjmckaaDoorW.PrintWords Go.Proofs.YtjcocepmmjmckaaDoorW.PrintLast Go.Proofs.YtjcocepmmjmckaaDoorW.PrintMore
open Go.Proofs.YtjcocepmmjmckaaDoor.RegInv

noncomputable def ops5 : Array Oper := opsOf Tryd.f20 5
/-- What holds of its slots: g the greeting's block, nb the name's. -/
def Phi5 (W : World) (g nb : Nat) (a : Int) (nv : Value) (Ax : Option Addr) (cx : Nat) (xs : List (Int × List UInt8)) (al : List (Int × List UInt8)) (b : Bool) (d : Nat) (v : Value) (w : World) : Prop :=
  match d with
  | 24 => v = .pointer (some ⟨g, 38, none⟩)
  | 25 => v = .slice Ax xs.length cx
  | 26 => b = false → ∃ rows, RawR W.heap.size w v rows ∧ LinkX W (toS xs) rows
  | 27 => v = .pointer (some ⟨g, 37, none⟩)
  | 28 => v = .int .i64 a
  | 29 => v = .agg #[.int .i64 0, nv]
  | 30 => b = false → ∃ vb, v = .slice (some ⟨vb, 0, none⟩) 1 1 ∧ w.heap[vb]? = some (.cells #[.int .i64 0, nv] 59 (0, 0))
  | 31 => ∃ A c, v = .slice A (xs.length + 1) c ∧ xs.length + 1 ≤ c ∧ Kd.C k59 w A (xs.length + 1) (toS al)
  | 32 => v = .int .i64 (xs.length + 1)
  | 33 => v = .int .i64 0
  | _ => True
def B5 (W : World) (l : Array Bool) (g : Nat → Value) (w : World) : Prop :=
  Below W.heap.size W w ∧ (l.getD 2 false = true → l.getD 6 false = true → l.getD 7 false = false → ∀ vb, g 30 = .slice (some ⟨vb, 0, none⟩) 1 1 → some vb ≠ (g 26).ownBlock)
theorem Phi5.stable {W : World} {g nb : Nat} {a : Int} {nv : Value} {Ax : Option Addr} {cx : Nat} {xs al : List (Int × List UInt8)} {b : Bool} {d : Nat} {v : Value} {w w' : World} (h : Phi5 W g nb a nv Ax cx xs al b d v w) (hb : Below w.heap.size w w') : Phi5 W g nb a nv Ax cx xs al b d v w' := by
  unfold Phi5 at h ⊢
  split at h
  all_goals first
    | exact h
    | skip
  · intro e
    obtain ⟨rows, h1, h2⟩ := h e
    exact ⟨rows, Kd.R_below h1 hb, h2⟩
  · intro e
    obtain ⟨vb, h1, h2⟩ := h e
    exact ⟨vb, h1, (hb.block _ (Array.getElem?_eq_some_iff.1 h2).1).trans h2⟩
  · obtain ⟨A, c, h1, h2, h3⟩ := h
    exact ⟨A, c, h1, h2, Kd.C_below h3 hb⟩
theorem rawC_link {w : World} {A : Option Addr} {n : Nat} {rows : List (List Value)} {es : List S59} (h : Kd.C (Kd.raw 2) w A n rows) (hl : es.length = rows.length) (hk : ∀ (j : Nat) (x : S59) (c : List Value), es[j]? = some x → rows[j]? = some c → k59.K w x c) : Kd.C k59 w A n es := by
  refine ⟨by rw [hl]; exact h.1, h.2.1, fun hp => ?_⟩
  obtain ⟨ad, e, hc⟩ := h.2.2 hp
  refine ⟨ad, e, fun j p hj => ?_⟩
  have hjl : j < rows.length := by rw [← hl]; exact (List.getElem?_eq_some_iff.1 hj).1
  obtain ⟨c, h1, ⟨rfl, h2⟩, h3⟩ := hc j _ (List.getElem?_eq_getElem hjl)
  exact ⟨rows[j], h1, hk j p _ hj (List.getElem?_eq_getElem hjl), h3⟩
theorem putIn_link {W w : World} {xs : List (Int × List UInt8)} {rows : List (List Value)} {i : Nat} {h : List UInt8} {nv : Value} (hl : LinkX W (toS xs) rows) (hi : i ≤ xs.length) (hw : Below W.heap.size W w) (hn : RdV W nv (nameB h)) :
    (toS (allX xs i h)).length = (putIn rows i [.int .i64 0, nv]).length ∧ ∀ (j : Nat) (x : S59) (c : List Value), (toS (allX xs i h))[j]? = some x → (putIn rows i [.int .i64 0, nv])[j]? = some c → k59.K w x c := by
  have hrl : rows.length = xs.length := by have := hl.1; rwa [toS_len] at this
  have hxl : (xs.take i).length = i := by rw [List.length_take]; omega
  have hrl2 : (rows.take i).length = i := by rw [List.length_take]; omega
  have e : toS (allX xs i h) = (toS xs).take i ++ (⟨0, numsB (nameB h)⟩ : S59) :: (toS xs).drop i := by simp [toS, allX, List.map_take, List.map_drop]
  have htl : ((toS xs).take i).length = i := by rw [List.length_take, toS_len]; omega
  refine ⟨?_, fun j x c hx hc => ?_⟩
  · rw [putIn_len (by omega), toS_len, hrl]
    simp only [allX, List.length_append, List.length_take, List.length_cons, List.length_drop]
    omega
  · rw [e] at hx
    unfold putIn at hc
    by_cases h1 : j < i
    · rw [List.getElem?_append_left (by omega), List.getElem?_take, if_pos h1] at hx hc
      exact k59.K_below hw (hl.2 j x c hx hc)
    · rw [List.getElem?_append_right (by omega)] at hx hc
      rw [htl] at hx
      rw [hrl2] at hc
      by_cases h2 : j = i
      · subst h2
        rw [Nat.sub_self] at hx hc
        simp only [List.getElem?_cons_zero, Option.some.injEq] at hx hc
        subst hx
        subst hc
        obtain ⟨A, c1, rfl, h3, h4⟩ := hn.below hw
        have := k59_mk w (⟨0, numsB (nameB h)⟩ : S59) (A1 := A) (c1 := c1) (by rw [numsB_len]; exact h3) (by rw [numsB_len]; exact h4)
        rw [numsB_len] at this
        exact this
      · obtain ⟨q, hq⟩ : ∃ q, j - i = q + 1 := ⟨j - i - 1, by omega⟩
        rw [hq, List.getElem?_cons_succ, List.getElem?_drop] at hx hc
        exact k59.K_below hw (hl.2 (i + q) x c hx hc)
theorem ops5_0 : (ops5[0]?).map (fun o => (o.op, o.dst, o.guard)) = some (.fieldAddr 35 (.tmp 1) 7, some 24, none) := by kernel_rfl
theorem ops5_1 : (ops5[1]?).map (fun o => (o.op, o.dst, o.guard)) = some (.load 33 (.tmp 24), some 25, none) := by kernel_rfl
theorem ops5_2 : (ops5[2]?).map (fun o => (o.op, o.dst, o.guard)) = some (.call { callee := .value (.func 46), args := #[.tmp 25], argTypes := #[33] }, some 26, none) := by kernel_rfl
theorem ops5_3 : (ops5[3]?).map (fun o => (o.op, o.dst, o.guard)) = some (.fieldAddr 35 (.tmp 1) 6, some 27, none) := by kernel_rfl
theorem ops5_4 : (ops5[4]?).map (fun o => (o.op, o.dst, o.guard)) = some (.load 3 (.tmp 27), some 28, none) := by kernel_rfl
theorem ops5_5 : (ops5[5]?).map (fun o => (o.op, o.dst, o.guard)) = some (.load 59 (.tmp 4), some 29, none) := by kernel_rfl
theorem ops5_6 : (ops5[6]?).map (fun o => (o.op, o.dst, o.guard)) = some (.buildSlice 33 1 #[(0, .tmp 29)], some 30, none) := by kernel_rfl
theorem ops5_7 : (ops5[7]?).map (fun o => (o.op, o.dst, o.guard)) = some (.call { callee := .value (.func 45), args := #[.tmp 26, .tmp 28, .tmp 30], argTypes := #[33, 3, 33] }, some 31, none) := by kernel_rfl
theorem ops5_8 : (ops5[8]?).map (fun o => (o.op, o.dst, o.guard)) = some (.call { callee := .builtin .len, args := #[.tmp 31], argTypes := #[33] }, some 32, none) := by kernel_rfl
theorem ops5_9 : (ops5[9]?).map (fun o => (o.op, o.dst, o.guard)) = some (.move (.const (.int .i64 0)), some 33, none) := by kernel_rfl
theorem ops5_n : ops5.size = 10 := by kernel_rfl
theorem ops5_d : distB ops5 = true := by kernel_rfl
theorem ops5_o : orderB ops5 = true := by kernel_rfl
theorem getD_f (l : Array Bool) (i f : Nat) (h : i ≠ f) : (l.setIfInBounds i true).getD f false = l.getD f false := getD_set_ne false h
set_option maxHeartbeats 4000000 in
set_option maxRecDepth 100000 in
theorem reg5 {Q : Exit → Act → World → Prop} (g0 : Nat → Value) (W : World) (g nb : Nat) (a : Nat) (nv : Value) (Ax : Option Addr) (cx : Nat) (xs : List (Int × List UInt8)) (hn : List UInt8)
    {m : Int} {R : List Value} {s u me : Value} {hs : ByteArray} (hg : GB W g m R s u me hs a (.slice Ax xs.length cx)) (hnb : W.heap[nb]? = some (.cells #[.int .i64 0, nv] 59 (0, 0))) (hnv : RdV W nv (nameB hn)) (hex : Kd.C k59 W Ax xs.length (toS xs)) (hcx : xs.length ≤ cx) (hxl : xs.length ≤ 65536) (ha : a ≤ xs.length)
    (h1 : g0 1 = .pointer (some ⟨g, 0, none⟩)) (h4 : g0 4 = .pointer (some ⟨nb, 0, none⟩))
    (hQ : ∀ (gn : Nat → Value) (w : World), (∃ A c, gn 31 = .slice A (xs.length + 1) c ∧ xs.length + 1 ≤ c ∧ Kd.C k59 w A (xs.length + 1) (toS (allX xs a hn))) → gn 32 = .int .i64 (xs.length + 1) → gn 33 = .int .i64 0 → (∀ k, noDstB ops5 k = true → gn k = g0 k) → Below W.heap.size W w → Q .normal (actOf 92 gn []) w) :
    (Code.region 5 ops5 true).wp Tryd.prog Q (actOf 92 g0 []) W := by
  have hbase : Below W.heap.size W W.drew := below_drew (Below.refl _ _)
  have hone : nv.oneCell' = true := by obtain ⟨A, c, rfl, _⟩ := hnv; rfl
  refine wp_region_inv (by kernel_rfl) g0 92 [] rfl (fun l => Phi5 W g nb a nv Ax cx xs (allX xs a hn) (l.getD 7 false)) (B5 W) ops5_d ops5_o ⟨hbase, fun h2 _ _ => ?_⟩ ?_ ?_
  · simp [ops5_n] at h2
  · intro l gn w i o hi hl hr hI K hK
    have hB := hI.base.1
    have hgw := hg.below hB hg.lt
    have ev : ∀ k, k < 92 → (actOf 92 gn []).eval (.tmp k) = gn k := fun k hk => actOf_eval 92 gn [] k hk
    have k1 : gn 1 = .pointer (some ⟨g, 0, none⟩) := (hI.keep 1 (by kernel_rfl)).trans h1
    have k4 : gn 4 = .pointer (some ⟨nb, 0, none⟩) := (hI.keep 4 (by kernel_rfl)).trans h4
    have hnbw : w.heap[nb]? = some (.cells #[.int .i64 0, nv] 59 (0, 0)) := (hB.block _ (Array.getElem?_eq_some_iff.1 hnb).1).trans hnb
    have same : ∀ j, j ≠ 2 → j ≠ 6 → j ≠ 7 → ∀ d v, d ≠ 26 → d ≠ 30 → B5 W l gn w → B5 W (l.setIfInBounds j true) (upd gn d v) w := fun j j2 j6 j7 d v d26 d30 h => by
      refine ⟨h.1, ?_⟩
      rw [getD_f l j 2 j2, getD_f l j 6 j6, getD_f l j 7 j7, upd_ne gn v (fun e => d30 e.symm), upd_ne gn v (fun e => d26 e.symm)]
      exact h.2
    match i, hi with
    | 0, hi =>
      obtain ⟨e1, e2, e3⟩ := op_at hi ops5_0
      refine step_value hI ops5_d hi e3 e2 (w' := w) (v := .pointer (some ⟨g, 38, none⟩)) ?_ hK ?_ ?_ hr ?_
      · unfold execOp; simp only [e1, ev 1 (by decide), k1]; kernel_rfl
      · exact same 0 (by decide) (by decide) (by decide) _ _ (by decide) (by decide) hI.base
      · rfl
      · rw [getD_f l 0 7 (by decide)]; exact fun _ _ _ _ _ _ _ _ h => h
    | 1, hi =>
      obtain ⟨e1, e2, e3⟩ := op_at hi ops5_1
      have k24 : gn 24 = .pointer (some ⟨g, 38, none⟩) := hI.at_ ops5_0 (dep_at hi hr 0 (by kernel_rfl))
      refine step_value hI ops5_d hi e3 e2 (w' := w) (v := .slice Ax xs.length cx) ?_ hK ?_ ?_ hr ?_
      · unfold execOp
        simp only [e1, ev 24 (by decide), k24]
        have hc := hgw.c38
        simp [Instr.loadAt, Instr.sureAddr, loadVar, isAgg, Sem.run_bind, run_underlying Tryd.underlying33, hc]
      · exact same 1 (by decide) (by decide) (by decide) _ _ (by decide) (by decide) hI.base
      · rfl
      · rw [getD_f l 1 7 (by decide)]; exact fun _ _ _ _ _ _ _ _ h => h
    | 2, hi =>
      obtain ⟨e1, e2, e3⟩ := op_at hi ops5_2
      have k25 : gn 25 = .slice Ax xs.length cx := hI.at_ ops5_1 (dep_at hi hr 1 (by kernel_rfl))
      refine step_call hI ops5_d hi e3 e2 (run_call Tryd.func46 (by kernel_rfl) (by kernel_rfl) #[.slice Ax xs.length cx] e1 (by simp [ev 25 (by decide), k25])) hK ?_ hr
      have hcl := cloneX_calls W w hB Ax cx (toS xs) (by rw [toS_len]; exact hex) (by rw [toS_len]; exact hcx) (by rw [toS_len]; omega)
      rw [toS_len] at hcl
      refine hcl.mono ?_
      rintro e w' ⟨v, rows, rfl, hrw, hlk, hb⟩
      refine ⟨v, rfl, ⟨hB.trans (hb.mono hB.size), fun _ h6 h7 vb hvb hk => ?_⟩, ?_, ?_⟩
      · rw [upd_ne gn v (by decide)] at hvb
        rw [upd_same] at hk
        rw [getD_f l 2 6 (by decide)] at h6
        rw [getD_f l 2 7 (by decide)] at h7
        have p6 := hI.at_ ops5_6 h6
        rw [h7] at p6
        obtain ⟨vb', hv', hh⟩ := p6 rfl
        rw [hvb] at hv'
        simp only [Value.slice.injEq, Option.some.injEq, Addr.mk.injEq, and_true, true_and] at hv'
        subst hv'
        have h8 := Kd.R_base hrw vb hk.symm
        have h9 := (Array.getElem?_eq_some_iff.1 hh).1
        omega
      · exact fun _ => ⟨rows, Kd.R_lower hrw hB.size, hlk⟩
      · rw [getD_f l 2 7 (by decide)]; exact fun _ _ _ _ _ _ _ _ h => h.stable hb
    | 3, hi =>
      obtain ⟨e1, e2, e3⟩ := op_at hi ops5_3
      refine step_value hI ops5_d hi e3 e2 (w' := w) (v := .pointer (some ⟨g, 37, none⟩)) ?_ hK ?_ ?_ hr ?_
      · unfold execOp; simp only [e1, ev 1 (by decide), k1]; kernel_rfl
      · exact same 3 (by decide) (by decide) (by decide) _ _ (by decide) (by decide) hI.base
      · rfl
      · rw [getD_f l 3 7 (by decide)]; exact fun _ _ _ _ _ _ _ _ h => h
    | 4, hi =>
      obtain ⟨e1, e2, e3⟩ := op_at hi ops5_4
      have k27 : gn 27 = .pointer (some ⟨g, 37, none⟩) := hI.at_ ops5_3 (dep_at hi hr 3 (by kernel_rfl))
      refine step_value hI ops5_d hi e3 e2 (w' := w) (v := .int .i64 a) ?_ hK ?_ ?_ hr ?_
      · unfold execOp
        simp only [e1, ev 27 (by decide), k27]
        have hc := hgw.c37
        simp [Instr.loadAt, Instr.sureAddr, loadVar, isAgg, Sem.run_bind, run_underlying Tryd.underlying3, hc]
      · exact same 4 (by decide) (by decide) (by decide) _ _ (by decide) (by decide) hI.base
      · rfl
      · rw [getD_f l 4 7 (by decide)]; exact fun _ _ _ _ _ _ _ _ h => h
    | 5, hi =>
      obtain ⟨e1, e2, e3⟩ := op_at hi ops5_5
      refine step_value hI ops5_d hi e3 e2 (w' := w) (v := .agg #[.int .i64 0, nv]) ?_ hK ?_ ?_ hr ?_
      · unfold execOp
        simp only [e1, ev 4 (by decide), k4]
        have hl := run_loadVar_row (P := Tryd.prog) w nb 59 59 #[.int .i64 0, nv] (0, 0) _ hnbw Tryd.underlying59 rfl info59s
        simp [Instr.loadAt, Instr.sureAddr, Sem.run_bind, hl]
      · exact same 5 (by decide) (by decide) (by decide) _ _ (by decide) (by decide) hI.base
      · rfl
      · rw [getD_f l 5 7 (by decide)]; exact fun _ _ _ _ _ _ _ _ h => h
    | 6, hi =>
      obtain ⟨e1, e2, e3⟩ := op_at hi ops5_6
      have k29 : gn 29 = .agg #[.int .i64 0, nv] := hI.at_ ops5_5 (dep_at hi hr 5 (by kernel_rfl))
      have hba := below_alloc (Below.refl w.heap.size w) (.cells #[.int .i64 0, nv] 59)
      refine step_value hI ops5_d hi e3 e2 (w' := w.alloc (.cells #[.int .i64 0, nv] 59)) (v := .slice (some ⟨w.heap.size, 0, none⟩) 1 1) ?_ hK ?_ ?_ hr ?_
      · unfold execOp
        simp only [e1]
        have e29 := actOf_q 92 gn [] 29 (by decide)
        rw [k29] at e29
        go_simp
      · refine ⟨hB.trans (hba.mono hB.size), fun h2 _ h7 vb hvb hk => ?_⟩
        rw [upd_same] at hvb
        rw [upd_ne gn _ (by decide)] at hk
        rw [getD_f l 6 2 (by decide)] at h2
        rw [getD_f l 6 7 (by decide)] at h7
        simp only [Value.slice.injEq, Option.some.injEq, Addr.mk.injEq, and_true, true_and] at hvb
        have p2 := hI.at_ ops5_2 h2
        rw [h7] at p2
        obtain ⟨rows, hrw, _⟩ := p2 rfl
        have h8 := Kd.R_lt hrw vb hk.symm
        omega
      · exact fun _ => ⟨w.heap.size, rfl, World.alloc_heap_new w _⟩
      · rw [getD_f l 6 7 (by decide)]; exact fun _ _ _ _ _ _ _ _ h => h.stable hba
    | 7, hi =>
      obtain ⟨e1, e2, e3⟩ := op_at hi ops5_7
      have l2 := dep_at hi hr 2 (by kernel_rfl)
      have l4 := dep_at hi hr 4 (by kernel_rfl)
      have l6 := dep_at hi hr 6 (by kernel_rfl)
      have k28 : gn 28 = .int .i64 a := hI.at_ ops5_4 l4
      have p2 := hI.at_ ops5_2 l2
      have p6 := hI.at_ ops5_6 l6
      rw [hl] at p2 p6
      obtain ⟨rows, hrw, hlk⟩ := p2 rfl
      obtain ⟨vb, k30, hvb⟩ := p6 rfl
      have hne := hI.base.2 l2 l6 hl vb k30
      have hrl : rows.length = xs.length := by have := hlk.1; rwa [toS_len] at this
      refine step_call hI ops5_d hi e3 e2 (run_call Tryd.func45 (by kernel_rfl) (by kernel_rfl) #[gn 26, .int .i64 a, .slice (some ⟨vb, 0, none⟩) 1 1] e1 (by simp [ev 26 (by decide), ev 28 (by decide), ev 30 (by decide), k28, k30])) hK ?_ hr
      refine (insert_calls W w W.heap.size a (gn 26) rows (.int .i64 0) nv vb hB hB.size hrw (by omega) (by omega) hvb hne rfl hone).mono ?_
      rintro e w' ⟨A, c, rfl, hc1, hc2, hb2⟩
      rw [hrl] at hc1 hc2 ⊢
      obtain ⟨q1, q2⟩ := putIn_link (h := hn) (nv := nv) hlk ha hb2 hnv
      have hsz : (l.setIfInBounds 7 true).getD 7 false = true := by
        have h7 : 7 < l.size := by
          rw [hI.len, ops5_n]; decide
        simp [h7]
      refine ⟨_, rfl, ⟨hb2, fun _ _ h7 => ?_⟩, ⟨A, c, rfl, hc1, rawC_link hc2 q1 q2⟩, ?_⟩
      · rw [hsz] at h7; cases h7
      · rw [hsz, hl]
        intro j oj d u hj hdj hlj hne hu
        have hd : d ≠ 31 := fun e => hne (dist_of ops5_d hj hi (by rw [hdj, e]) e2)
        unfold Phi5 at hu ⊢
        split at hu
        all_goals first
          | exact hu
          | (intro e; cases e)
          | exact absurd rfl hd
    | 8, hi =>
      obtain ⟨e1, e2, e3⟩ := op_at hi ops5_8
      obtain ⟨A, c, k31, _, _⟩ := hI.at_ ops5_7 (dep_at hi hr 7 (by kernel_rfl))
      refine step_value hI ops5_d hi e3 e2 (w' := w) (v := .int .i64 (xs.length + 1)) ?_ hK ?_ ?_ hr ?_
      · unfold execOp
        simp only [e1]
        have e31 := actOf_q 92 gn [] 31 (by decide)
        rw [k31] at e31
        go_simp
      · exact same 8 (by decide) (by decide) (by decide) _ _ (by decide) (by decide) hI.base
      · rfl
      · rw [getD_f l 8 7 (by decide)]; exact fun _ _ _ _ _ _ _ _ h => h
    | 9, hi =>
      obtain ⟨e1, e2, e3⟩ := op_at hi ops5_9
      refine step_value hI ops5_d hi e3 e2 (w' := w) (v := .int .i64 0) ?_ hK ?_ ?_ hr ?_
      · unfold execOp; simp only [e1]; rfl
      · exact same 9 (by decide) (by decide) (by decide) _ _ (by decide) (by decide) hI.base
      · rfl
      · rw [getD_f l 9 7 (by decide)]; exact fun _ _ _ _ _ _ _ _ h => h
    | k + 10, hi =>
      have h5 : k + 10 < ops5.size := (Array.getElem?_eq_some_iff.1 hi).1
      rw [ops5_n] at h5
      omega
  · intro l gn w hl hI
    have hs : ∀ i, i < 10 → l.getD i false = true := fun i hi => hl i (by rw [ops5_n]; exact hi)
    exact hQ gn w (hI.at_ ops5_7 (hs 7 (by decide))) (hI.at_ ops5_8 (hs 8 (by decide))) (hI.at_ ops5_9 (hs 9 (by decide))) hI.keep hI.base.1
end Go.Proofs.YtjcocepmmjmckaaDoor.PHello
/- Regions that draw their order, by what each slot is to hold: constants, rows of one's own, rows of rows. -/
set_option linter.unusedVariables false
set_option linter.unusedSimpArgs false
namespace Go.Proofs.YtjcocepmmjmckaaDoor.PHello
open Go.RowKit Go.Proofs.YtjcocepmmjmckaaDoorW.PrintWords Go.Proofs.YtjcocepmmjmckaaDoorW.PrintLast Go.Proofs.YtjcocepmmjmckaaDoorW.PrintMore
open Go.Proofs.YtjcocepmmjmckaaDoor.RegInv

/-- What a slot is to hold; a row's word ends when operation 'till' has come up. -/
inductive Sp where
  | any
  | val (v : Value)
  | own (base : Nat) (l : List UInt8) (till : Nat)
  | ll (ls : List (List UInt8)) (till : Nat)
def Sp.holds (s : Sp) (l : Array Bool) (v : Value) (w : World) : Prop :=
  match s with
  | .any => True
  | .val u => v = u
  | .own base r t => l.getD t false = false → RwB base w v r
  | .ll ls t => l.getD t false = false → ∃ vb, v = .slice (some ⟨vb, 0, none⟩) ls.length ls.length ∧ RdLL w (some ⟨vb, 0, none⟩) ls
theorem getD_back {l : Array Bool} {i t : Nat} (h : (l.setIfInBounds i true).getD t false = false) : l.getD t false = false := by
  cases hq : l.getD t false with
  | false => rfl
  | true => rw [getD_set_true hq] at h; cases h
theorem Sp.stable {s : Sp} {l : Array Bool} {i : Nat} {v : Value} {w w' : World} (h : s.holds l v w) (hb : Below w.heap.size w w') : s.holds (l.setIfInBounds i true) v w' := by
  cases s with
  | any => trivial
  | val u => exact h
  | own base r t => exact fun e => (h (getD_back e)).below hb
  | ll ls t =>
    intro e
    obtain ⟨vb, h1, h2⟩ := h (getD_back e)
    exact ⟨vb, h1, Kd.C_below h2 hb⟩
/-- The world grows: beyond what was there, till operation t has come up; then beyond base0. -/
def Bt (W : World) (base0 t : Nat) (l : Array Bool) (_g : Nat → Value) (w : World) : Prop := Below base0 W w ∧ (l.getD t false = false → Below W.heap.size W w) ∧ base0 ≤ W.heap.size
def Phs (sp : Nat → Sp) (l : Array Bool) (d : Nat) (v : Value) (w : World) : Prop := (sp d).holds l v w
section
variable {ops : Array Oper} {g0 : Nat → Value} {sp : Nat → Sp} {W : World} {base0 t N : Nat} {ds : List Deferred} {l : Array Bool} {g : Nat → Value} {w : World} {i d : Nat} {o : Oper} {op : Op} {K : Act → World → Prop} {Q : Exit → Act → World → Prop}
theorem Bt.same (h : Bt W base0 t l g w) (g' : Nat → Value) {w' : World} (hb : Below w.heap.size w w') : Bt W base0 t (l.setIfInBounds i true) g' w' :=
  ⟨h.1.trans (hb.mono (Nat.le_trans h.2.2 h.1.size)), fun e => (h.2.1 (getD_back e)).trans (hb.mono h.1.size), h.2.2⟩
/-- A constant: an address, a move, a number, a cell that is known. -/
theorem st_val {v : Value} (hI : RInv ops g0 (Phs sp) (Bt W base0 t) l g w) (hd : distB ops = true) (hi : ops[i]? = some o) (hr : ∀ e ∈ o.after, Region.binds .any e = true → l.getD e.on false = true) (hK : ∀ g' w', RInv ops g0 (Phs sp) (Bt W base0 t) (l.setIfInBounds i true) g' w' → K (actOf N g' ds) w')
    (hop : (ops[i]?).map (fun o => (o.op, o.dst, o.guard)) = some (op, some d, none)) (hsp : sp d = .val v) (hrun : o.op = op → (execOp (actOf N g ds).eval o).run Tryd.prog w = .ok (.value v) w) :
    if Region.wanted o (yielded ops (actOf N g ds).tmps) = true then Oper.wp Tryd.prog o (actOf N g ds) w K Q else K ((actOf N g ds).put o.dst undef) w := by
  obtain ⟨e1, e2, e3⟩ := op_at hi hop
  refine step_value hI hd hi e3 e2 (hrun e1) hK (hI.base.same _ (Below.refl _ _)) ?_ hr (fun _ _ _ _ _ _ _ _ h => Sp.stable h (Below.refl _ _))
  show (sp d).holds _ _ _
  rw [hsp]
  rfl
/-- Rows laid in a row. -/
theorem st_ll {vals : List Value} {ls : List (List UInt8)} {till : Nat} (hI : RInv ops g0 (Phs sp) (Bt W base0 t) l g w) (hd : distB ops = true) (hi : ops[i]? = some o) (hr : ∀ e ∈ o.after, Region.binds .any e = true → l.getD e.on false = true) (hK : ∀ g' w', RInv ops g0 (Phs sp) (Bt W base0 t) (l.setIfInBounds i true) g' w' → K (actOf N g' ds) w')
    (hop : (ops[i]?).map (fun o => (o.op, o.dst, o.guard)) = some (op, some d, none)) (hsp : sp d = .ll ls till) (hlen : vals.length = ls.length) (hm : ls.length ≤ 9223372036854775807)
    (hrun : o.op = op → (execOp (actOf N g ds).eval o).run Tryd.prog w = .ok (.value (.slice (some ⟨w.heap.size, 0, none⟩) ls.length ls.length)) (w.alloc (.cells vals.toArray 25)))
    (hv : ∀ (j : Nat) (v : Value) (l : List UInt8), vals[j]? = some v → ls[j]? = some l → RdV w v l) :
    if Region.wanted o (yielded ops (actOf N g ds).tmps) = true then Oper.wp Tryd.prog o (actOf N g ds) w K Q else K ((actOf N g ds).put o.dst undef) w := by
  obtain ⟨e1, e2, e3⟩ := op_at hi hop
  have hb := below_alloc (Below.refl w.heap.size w) (.cells vals.toArray 25)
  refine step_value hI hd hi e3 e2 (hrun e1) hK (hI.base.same _ hb) ?_ hr (fun _ _ _ _ _ _ _ _ h => Sp.stable h hb)
  show (sp d).holds _ _ _
  rw [hsp]
  exact fun _ => ⟨w.heap.size, rfl, rdLL_lit (World.alloc_heap_new w _) hlen hm (fun j v l h1 h2 => (hv j v l h1 h2).below hb)⟩
/-- Bytes laid in a row. -/
theorem st_bytes {r : List UInt8} {base till : Nat} (hI : RInv ops g0 (Phs sp) (Bt W base0 t) l g w) (hd : distB ops = true) (hi : ops[i]? = some o) (hr : ∀ e ∈ o.after, Region.binds .any e = true → l.getD e.on false = true) (hK : ∀ g' w', RInv ops g0 (Phs sp) (Bt W base0 t) (l.setIfInBounds i true) g' w' → K (actOf N g' ds) w')
    (hop : (ops[i]?).map (fun o => (o.op, o.dst, o.guard)) = some (op, some d, none)) (hsp : sp d = .own base r till) (hbase : base ≤ W.heap.size) (hm : r.length ≤ 9223372036854775807)
    (hrun : o.op = op → (execOp (actOf N g ds).eval o).run Tryd.prog w = .ok (.value (.slice (some ⟨w.heap.size, 0, none⟩) r.length r.length)) (w.alloc (.cells (cellsB r).toArray 5))) :
    if Region.wanted o (yielded ops (actOf N g ds).tmps) = true then Oper.wp Tryd.prog o (actOf N g ds) w K Q else K ((actOf N g ds).put o.dst undef) w := by
  obtain ⟨e1, e2, e3⟩ := op_at hi hop
  have hb := below_alloc (Below.refl w.heap.size w) (.cells (cellsB r).toArray 5)
  refine step_value hI hd hi e3 e2 (hrun e1) hK (hI.base.same _ hb) ?_ hr (fun _ _ _ _ _ _ _ _ h => Sp.stable h hb)
  show (sp d).holds _ _ _
  rw [hsp]
  intro _
  have h1 := World.ownsRow_lit (base := base) (e := 5) (size := 1) w (cellsB r).toArray r.length (Nat.le_trans hbase hI.base.1.size) (by simpa [maxLen] using hm) (by simp [cellsB_len])
  have h2 := Kd.R_of_own (enc := Value.int .u8) (h1 := fun _ => rfl) (ok := fun _ => True) (xs := numsB r) (w := w.alloc (.cells (cellsB r).toArray 5)) (v := .slice (some ⟨w.heap.size, 0, none⟩) r.length r.length) (base := base) (e := 5) (by rw [numsB_len]; exact h1) (fun _ _ => trivial)
  exact h2
/-- hello.piece. -/
theorem st_piece {k s : Nat} {ls : List (List UInt8)} {till1 till base : Nat} (hI : RInv ops g0 (Phs sp) (Bt W base0 t) l g w) (hd : distB ops = true) (hi : ops[i]? = some o) (hr : ∀ e ∈ o.after, Region.binds .any e = true → l.getD e.on false = true) (hK : ∀ g' w', RInv ops g0 (Phs sp) (Bt W base0 t) (l.setIfInBounds i true) g' w' → K (actOf N g' ds) w')
    {j : Nat} {opj : Op} (hj : (ops[j]?).map (fun o => (o.op, o.dst, o.guard)) = some (opj, some s, none)) (hdep : depB ops i j = true) (hs : sp s = .ll ls till1) (hsN : s < N) (hlive : l.getD till1 false = false)
    (hop : (ops[i]?).map (fun o => (o.op, o.dst, o.guard)) = some (.call { callee := .value (.func 44), args := #[.const (.int .i64 k), .tmp s], argTypes := #[3, 53] }, some d, none)) (hsp : sp d = .own base (pcB k ls.flatten) till) (hbase : base ≤ W.heap.size) (hk : k ≤ 3) (hl : lenAll ls ≤ 70368744177664) :
    if Region.wanted o (yielded ops (actOf N g ds).tmps) = true then Oper.wp Tryd.prog o (actOf N g ds) w K Q else K ((actOf N g ds).put o.dst undef) w := by
  obtain ⟨e1, e2, e3⟩ := op_at hi hop
  have hh : (sp s).holds l (g s) w := hI.at_ hj (dep_at hi hr j hdep)
  rw [hs] at hh
  obtain ⟨vb, hv, hrd⟩ := hh hlive
  refine step_call hI hd hi e3 e2 (run_call Tryd.func44 (by kernel_rfl) (by kernel_rfl) #[.int .i64 k, .slice (some ⟨vb, 0, none⟩) ls.length ls.length] e1 (by simp [actOf_eval N g ds s hsN, hv, actOf_const])) hK ?_ hr
  refine (hpiece_calls k _ _ ls w hk hrd (Nat.le_refl _) hl).mono ?_
  rintro e w' ⟨v, rfl, hrw, hb⟩
  refine ⟨v, rfl, hI.base.same _ hb, ?_, fun _ _ _ _ _ _ _ _ h => Sp.stable h hb⟩
  show (sp d).holds _ _ _
  rw [hsp]
  exact fun _ => Kd.R_lower hrw (Nat.le_trans hbase hI.base.1.size)
/-- hello.row. -/
theorem st_row {n k s : Nat} {till base : Nat} (hI : RInv ops g0 (Phs sp) (Bt W base0 t) l g w) (hd : distB ops = true) (hi : ops[i]? = some o) (hr : ∀ e ∈ o.after, Region.binds .any e = true → l.getD e.on false = true) (hK : ∀ g' w', RInv ops g0 (Phs sp) (Bt W base0 t) (l.setIfInBounds i true) g' w' → K (actOf N g' ds) w')
    {j : Nat} {opj : Op} (hj : (ops[j]?).map (fun o => (o.op, o.dst, o.guard)) = some (opj, some s, none)) (hdep : depB ops i j = true) (hs : sp s = .val (.int .i64 n)) (hsN : s < N)
    (hop : (ops[i]?).map (fun o => (o.op, o.dst, o.guard)) = some (.call { callee := .value (.func 47), args := #[.tmp s, .const (.int .i64 k)], argTypes := #[3, 3] }, some d, none)) (hsp : sp d = .own base (rowB k n) till) (hbase : base ≤ W.heap.size) (hk : k ≤ 3) (hn : n ≤ 9223372036854775807) :
    if Region.wanted o (yielded ops (actOf N g ds).tmps) = true then Oper.wp Tryd.prog o (actOf N g ds) w K Q else K ((actOf N g ds).put o.dst undef) w := by
  obtain ⟨e1, e2, e3⟩ := op_at hi hop
  have hh : (sp s).holds l (g s) w := hI.at_ hj (dep_at hi hr j hdep)
  rw [hs] at hh
  have hh' : g s = .int .i64 n := hh
  refine step_call hI hd hi e3 e2 (run_call Tryd.func47 (by kernel_rfl) (by kernel_rfl) #[.int .i64 n, .int .i64 k] e1 (by simp [actOf_eval N g ds s hsN, hh', actOf_const])) hK ?_ hr
  refine (row_calls n k w hn hk).mono ?_
  rintro e w' ⟨v, rfl, hrw, hb⟩
  refine ⟨v, rfl, hI.base.same _ hb, ?_, fun _ _ _ _ _ _ _ _ h => Sp.stable h hb⟩
  show (sp d).holds _ _ _
  rw [hsp]
  exact fun _ => Kd.R_lower hrw (Nat.le_trans hbase hI.base.1.size)
/-- A value in a world that stays. -/
theorem st_hold {v : Value} (hI : RInv ops g0 (Phs sp) (Bt W base0 t) l g w) (hd : distB ops = true) (hi : ops[i]? = some o) (hr : ∀ e ∈ o.after, Region.binds .any e = true → l.getD e.on false = true) (hK : ∀ g' w', RInv ops g0 (Phs sp) (Bt W base0 t) (l.setIfInBounds i true) g' w' → K (actOf N g' ds) w')
    (hop : (ops[i]?).map (fun o => (o.op, o.dst, o.guard)) = some (op, some d, none)) (hv : (sp d).holds (l.setIfInBounds i true) v w) (hrun : o.op = op → (execOp (actOf N g ds).eval o).run Tryd.prog w = .ok (.value v) w) :
    if Region.wanted o (yielded ops (actOf N g ds).tmps) = true then Oper.wp Tryd.prog o (actOf N g ds) w K Q else K ((actOf N g ds).put o.dst undef) w := by
  obtain ⟨e1, e2, e3⟩ := op_at hi hop
  exact step_value hI hd hi e3 e2 (hrun e1) hK (hI.base.same _ (Below.refl _ _)) hv hr (fun _ _ _ _ _ _ _ _ h => Sp.stable h (Below.refl _ _))
/-- A move or an assignment of a slot. -/
theorem run_move {s : Nat} {ty : TypeId} (hs : s < N) (h : o.op = .move (.tmp s) ∨ o.op = .assign (.tmp s)) : (execOp (actOf N g ds).eval o).run Tryd.prog w = .ok (.value (g s)) w := by
  unfold execOp
  rcases h with h | h
  all_goals
    simp only [h, actOf_eval N g ds s hs]
    rfl
/-- What a word of one's own may outlive: till it ends. -/
def Sp.ended (s : Sp) (l : Array Bool) : Prop :=
  match s with
  | .any => True
  | .val _ => True
  | .own _ _ t => l.getD t false = true
  | .ll _ t => l.getD t false = true
theorem Sp.stable_ended {s : Sp} {l l' : Array Bool} {v : Value} {w w' : World} (h : s.holds l v w) (he : s.ended l') : s.holds l' v w' := by
  cases s with
  | any => trivial
  | val u => exact h
  | own base r t => exact fun e => by rw [show l'.getD t false = true from he] at e; cases e
  | ll ls t => exact fun e => by rw [show l'.getD t false = true from he] at e; cases e
theorem set_true_at {l : Array Bool} {i : Nat} (h : i < l.size) : (l.setIfInBounds i true).getD i false = true := by simp [h]
/-- A slot whose writer is still to come. -/
def Unborn (ops : Array Oper) (l : Array Bool) (k : Nat) : Prop := ∀ (j : Nat) (o : Oper), ops[j]? = some o → o.dst = some k → l.getD j false = false
theorem unborn {ops : Array Oper} {l : Array Bool} (k j : Nat) (hk : soleB ops k j = true) (hl : l.getD j false = false) : Unborn ops l k := by
  intro i o hi ho
  have h1 := List.all_eq_true.1 hk i (List.mem_range.2 (Array.getElem?_eq_some_iff.1 hi).1)
  rw [hi] at h1
  simp only [Option.map_some, ho, beq_self_eq_true, bne_self_eq_false, Bool.or_false, beq_iff_eq] at h1
  rw [h1]
  exact hl
/-- Bytes behind a row of one's own. -/
theorem st_app {s1 s2 : Nat} {l1 l2 : List UInt8} {base till : Nat} (hI : RInv ops g0 (Phs sp) (Bt W base0 t) l g w) (hd : distB ops = true) (hi : ops[i]? = some o) (hr : ∀ e ∈ o.after, Region.binds .any e = true → l.getD e.on false = true) (hK : ∀ g' w', RInv ops g0 (Phs sp) (Bt W base0 t) (l.setIfInBounds i true) g' w' → K (actOf N g' ds) w')
    (hop : (ops[i]?).map (fun o => (o.op, o.dst, o.guard)) = some (.call { callee := .builtin .append, args := #[.tmp s1, .tmp s2], argTypes := #[25, 25] }, some d, none)) (h1N : s1 < N) (h2N : s2 < N)
    (hR : RwB base w (g s1) l1) (hS : RdV w (g s2) l2) (hsp : sp d = .own base (l1 ++ l2) till) (hb0 : base0 ≤ base) (hbase : base ≤ W.heap.size) (hB : Below base W w) (hT : (l.setIfInBounds i true).getD t false = true ∨ base = W.heap.size) (hl : l1.length + l2.length ≤ 140737488355328)
    (hend : ∀ d', d' ≠ d → (sp d').ended (l.setIfInBounds i true) ∨ Unborn ops l d') :
    if Region.wanted o (yielded ops (actOf N g ds).tmps) = true then Oper.wp Tryd.prog o (actOf N g ds) w K Q else K ((actOf N g ds).put o.dst undef) w := by
  obtain ⟨e1, e2, e3⟩ := op_at hi hop
  obtain ⟨A2, c2, hv2, hc2, hC2⟩ := hS
  refine Kd.R_append_rows_step (Kd.int .u8) (w0 := W) base (by simp [Region.wanted, e3]) (.tmp s1) (.tmp s2) 25 5 (.int .u8 0) 1 e1 Tryd.underlying25 info5 rfl (by decide) (by decide) (g s1) (numsB l1) (numsB l2) A2 l2.length c2 (fun _ => True) (fun _ => False) (actOf_eval N g ds s1 h1N) (by rw [actOf_eval N g ds s2 h2N, hv2]) hR hC2 (fun _ _ h => h) (fun _ h => h.elim) (fun _ _ => trivial) hB (Nat.le_trans hbase hB.size) (by rw [numsB_len]; omega) ?_
  intro v1 w1 ho hb hg hat
  rw [← numsB_app] at ho
  rw [actOf_putO, e2]
  refine hK _ _ (RInv.put hI hd hi e2 ⟨hb.mono hb0, fun e => ?_, hI.base.2.2⟩ (fun d' e => ?_) hr (fun j oj d' u hj hdj hlj hne hu => ?_))
  · rcases hT with hT | hT
    · rw [hT] at e; cases e
    · rw [← hT]; exact hb
  · injection e with e
    subst e
    show (sp d).holds _ _ _
    rw [hsp]
    exact fun _ => ho
  · rcases hend d' fun e => hne (dist_of hd hj hi hdj (by rw [e2, e])) with he | he
    · exact Sp.stable_ended hu he
    · rw [he j oj hj hdj] at hlj; cases hlj
end
end Go.Proofs.YtjcocepmmjmckaaDoor.PHello
/- hello.Write's region 8 (20): an extension's bytes behind those so far. -/
set_option linter.unusedVariables false
set_option linter.unusedSimpArgs false
namespace Go.Proofs.YtjcocepmmjmckaaDoor.PHello
open Go.RowKit Go.Proofs.YtjcocepmmjmckaaDoorW.PrintWords Go.Proofs.YtjcocepmmjmckaaDoorW.PrintLast Go.Proofs.YtjcocepmmjmckaaDoorW.PrintMore
open Go.Proofs.YtjcocepmmjmckaaDoor.RegInv

noncomputable def ops8 : Array Oper := opsOf Tryd.f20 8
theorem ops8_0 : (ops8[0]?).map (fun o => (o.op, o.dst, o.guard)) = some (.move (.tmp 5), some 37, none) := by kernel_rfl
theorem ops8_1 : (ops8[1]?).map (fun o => (o.op, o.dst, o.guard)) = some (.fieldAddr 59 (.tmp 8) 0, some 38, none) := by kernel_rfl
theorem ops8_2 : (ops8[2]?).map (fun o => (o.op, o.dst, o.guard)) = some (.load 3 (.tmp 38), some 39, none) := by kernel_rfl
theorem ops8_3 : (ops8[3]?).map (fun o => (o.op, o.dst, o.guard)) = some (.call { callee := .value (.func 47), args := #[.tmp 39, .const (.int .i64 2)], argTypes := #[3, 3] }, some 40, none) := by kernel_rfl
theorem ops8_4 : (ops8[4]?).map (fun o => (o.op, o.dst, o.guard)) = some (.fieldAddr 59 (.tmp 8) 1, some 41, none) := by kernel_rfl
theorem ops8_5 : (ops8[5]?).map (fun o => (o.op, o.dst, o.guard)) = some (.load 25 (.tmp 41), some 42, none) := by kernel_rfl
theorem ops8_6 : (ops8[6]?).map (fun o => (o.op, o.dst, o.guard)) = some (.buildSlice 53 1 #[(0, .tmp 42)], some 43, none) := by kernel_rfl
theorem ops8_7 : (ops8[7]?).map (fun o => (o.op, o.dst, o.guard)) = some (.call { callee := .value (.func 44), args := #[.const (.int .i64 2), .tmp 43], argTypes := #[3, 53] }, some 44, none) := by kernel_rfl
theorem ops8_8 : (ops8[8]?).map (fun o => (o.op, o.dst, o.guard)) = some (.call { callee := .builtin .append, args := #[.tmp 40, .tmp 44], argTypes := #[25, 25] }, some 45, none) := by kernel_rfl
theorem ops8_9 : (ops8[9]?).map (fun o => (o.op, o.dst, o.guard)) = some (.call { callee := .builtin .append, args := #[.tmp 37, .tmp 45], argTypes := #[25, 25] }, some 46, none) := by kernel_rfl
theorem ops8_10 : (ops8[10]?).map (fun o => (o.op, o.dst, o.guard)) = some (.assign (.tmp 46), some 5, none) := by kernel_rfl
theorem ops8_n : ops8.size = 11 := by kernel_rfl
theorem ops8_d : distB ops8 = true := by kernel_rfl
theorem ops8_o : orderB ops8 = true := by kernel_rfl
def sp8 (W : World) (base0 xb t : Nat) (vd v5 : Value) (eb xd : List UInt8) (d : Nat) : Sp :=
  match d with
  | 37 => .val v5
  | 38 => .val (.pointer (some ⟨xb, 0, none⟩))
  | 39 => .val (.int .i64 t)
  | 40 => .own W.heap.size (rowB 2 t) 8
  | 41 => .val (.pointer (some ⟨xb, 1, none⟩))
  | 42 => .val vd
  | 43 => .ll [xd] 8
  | 44 => .own W.heap.size (pcB 2 xd) 8
  | 45 => .own W.heap.size (rowB 2 t ++ pcB 2 xd) 9
  | 46 => .own base0 (eb ++ (rowB 2 t ++ pcB 2 xd)) 11
  | 5 => .own base0 (eb ++ (rowB 2 t ++ pcB 2 xd)) 11
  | _ => .any
theorem getD_big {l : Array Bool} {i : Nat} (h : l.size ≤ i) : l.getD i false = false := by
  simp [h]
set_option maxHeartbeats 4000000 in
set_option maxRecDepth 100000 in
theorem reg8 {Q : Exit → Act → World → Prop} (g0 : Nat → Value) (W : World) (base0 xb t : Nat) (vd v5 : Value) (eb xd : List UInt8) (hbox : W.heap[xb]? = some (.cells #[.int .i64 t, vd] 59 (0, 0))) (hvd : RdV W vd xd) (hv5 : RwB base0 W v5 eb) (hb : base0 ≤ W.heap.size) (ht : t ≤ 65535) (hxd : xd.length ≤ 16777300) (hel : eb.length ≤ 140737454800000)
    (h5 : g0 5 = v5) (h8 : g0 8 = .pointer (some ⟨xb, 0, none⟩))
    (hQ : ∀ (gn : Nat → Value) (w : World), RwB base0 w (gn 5) (eb ++ (rowB 2 t ++ pcB 2 xd)) → (∀ k, noDstB ops8 k = true → gn k = g0 k) → Below base0 W w → Q .normal (actOf 92 gn []) w) :
    (Code.region 8 ops8 true).wp Tryd.prog Q (actOf 92 g0 []) W := by
  refine wp_region_inv (by kernel_rfl) g0 92 [] rfl (Phs (sp8 W base0 xb t vd v5 eb xd)) (Bt W base0 9) ops8_d ops8_o ⟨below_drew (Below.refl _ _), fun _ => below_drew (Below.refl _ _), hb⟩ ?_ ?_
  · intro l gn w i o hi hl hr hI K hK
    have hB0 := hI.base.1
    have ev : ∀ k, k < 92 → (actOf 92 gn []).eval (.tmp k) = gn k := fun k hk => actOf_eval 92 gn [] k hk
    have k8 : gn 8 = .pointer (some ⟨xb, 0, none⟩) := (hI.keep 8 (by kernel_rfl)).trans h8
    have early : l.getD 9 false = false → w.heap[xb]? = some (.cells #[.int .i64 t, vd] 59 (0, 0)) := fun e => ((hI.base.2.1 e).block _ (Array.getElem?_eq_some_iff.1 hbox).1).trans hbox
    match i, hi with
    | 0, hi =>
      refine st_val hI ops8_d hi hr hK ops8_0 (v := v5) rfl fun e => ?_
      have k5 : gn 5 = v5 := (hI.keepOf 5 10 (by kernel_rfl) (hI.before 10 0 (by kernel_rfl) hl)).trans h5
      have := run_move (N := 92) (g := gn) (ds := []) (w := w) (o := o) (s := 5) (ty := 25) (by decide) (.inl e)
      rwa [k5] at this
    | 1, hi =>
      refine st_val hI ops8_d hi hr hK ops8_1 rfl fun e => ?_
      unfold execOp; simp only [e, ev 8 (by decide), k8]; kernel_rfl
    | 2, hi =>
      have k38 : gn 38 = .pointer (some ⟨xb, 0, none⟩) := hI.at_ ops8_1 (dep_at hi hr 1 (by kernel_rfl))
      have hc := early (hI.before 9 8 (by kernel_rfl) (hI.before 8 3 (by kernel_rfl) (hI.before 3 2 (by kernel_rfl) hl)))
      refine st_val hI ops8_d hi hr hK ops8_2 (v := .int .i64 t) rfl fun e => ?_
      unfold execOp
      simp only [e, ev 38 (by decide), k38]
      have hc0 : w.cell? ⟨xb, 0, none⟩ = some (.int .i64 t) := by rw [cell_of_row w xb 0 _ 59 (0, 0) hc]; rfl
      simp [Instr.loadAt, Instr.sureAddr, loadVar, isAgg, Sem.run_bind, run_underlying Tryd.underlying3, hc0]
    | 3, hi =>
      exact st_row (n := t) (k := 2) hI ops8_d hi hr hK ops8_2 (by kernel_rfl) rfl (by decide) ops8_3 rfl (Nat.le_refl _) (by decide) (by omega)
    | 4, hi =>
      refine st_val hI ops8_d hi hr hK ops8_4 rfl fun e => ?_
      unfold execOp; simp only [e, ev 8 (by decide), k8]; kernel_rfl
    | 5, hi =>
      have k41 : gn 41 = .pointer (some ⟨xb, 1, none⟩) := hI.at_ ops8_4 (dep_at hi hr 4 (by kernel_rfl))
      have hc := early (hI.before 9 8 (by kernel_rfl) (hI.before 8 7 (by kernel_rfl) (hI.before 7 6 (by kernel_rfl) (hI.before 6 5 (by kernel_rfl) hl))))
      refine st_val hI ops8_d hi hr hK ops8_5 (v := vd) rfl fun e => ?_
      unfold execOp
      simp only [e, ev 41 (by decide), k41]
      have hc0 : w.cell? ⟨xb, 1, none⟩ = some vd := by rw [cell_of_row w xb 1 _ 59 (0, 0) hc]; rfl
      simp [Instr.loadAt, Instr.sureAddr, loadVar, isAgg, Sem.run_bind, run_underlying Tryd.underlying25, hc0]
    | 6, hi =>
      have k42 : gn 42 = vd := hI.at_ ops8_5 (dep_at hi hr 5 (by kernel_rfl))
      refine st_ll (vals := [vd]) (ls := [xd]) hI ops8_d hi hr hK ops8_6 rfl rfl (by simp) (fun e => ?_) (fun j v q hj hq => ?_)
      · unfold execOp
        simp only [e]
        have e42 := actOf_q 92 gn [] 42 (by decide)
        rw [k42] at e42
        obtain ⟨A, c, rfl, _⟩ := hvd
        go_simp
      · have hj0 : j = 0 := by have := (List.getElem?_eq_some_iff.1 hj).1; simpa using this
        subst hj0
        simp only [List.getElem?_cons_zero, Option.some.injEq] at hj hq
        subst hj
        subst hq
        exact hvd.below (hI.base.2.1 (hI.before 9 8 (by kernel_rfl) (hI.before 8 7 (by kernel_rfl) (hI.before 7 6 (by kernel_rfl) hl))))
    | 7, hi =>
      exact st_piece (k := 2) (ls := [xd]) hI ops8_d hi hr hK ops8_6 (by kernel_rfl) rfl (by decide) (hI.before 8 7 (by kernel_rfl) hl) ops8_7 (by show _ = Sp.own _ (pcB 2 ([xd] : List (List UInt8)).flatten) _; rw [List.flatten_singleton]; rfl) (Nat.le_refl _) (by decide) (by simp [lenAll]; omega)
    | 8, hi =>
      have p40 := hI.at_ ops8_3 (dep_at hi hr 3 (by kernel_rfl)) hl
      have p44 := hI.at_ ops8_7 (dep_at hi hr 7 (by kernel_rfl)) hl
      refine st_app (base := W.heap.size) hI ops8_d hi hr hK ops8_8 (by decide) (by decide) p40 (RwB.rdV p44) rfl hb (Nat.le_refl _) (hI.base.2.1 (hI.before 9 8 (by kernel_rfl) hl)) (.inr rfl) (by simp only [rowB_len, pcB_len]; omega) (fun d' hd' => ?_)
      have hs8 : (l.setIfInBounds 8 true).getD 8 false = true := set_true_at (by rw [hI.len, ops8_n]; decide)
      unfold sp8
      split
      all_goals first
        | exact .inl trivial
        | exact .inl hs8
        | exact absurd rfl hd'
        | exact .inr (unborn 45 8 (by kernel_rfl) hl)
        | exact .inr (unborn 46 9 (by kernel_rfl) (hI.before 9 8 (by kernel_rfl) hl))
        | exact .inr (unborn 5 10 (by kernel_rfl) (hI.before 10 8 (by kernel_rfl) hl))
    | 9, hi =>
      have p37 : gn 37 = v5 := hI.at_ ops8_0 (dep_at hi hr 0 (by kernel_rfl))
      have p45 := hI.at_ ops8_8 (dep_at hi hr 8 (by kernel_rfl)) hl
      have hs9 : (l.setIfInBounds 9 true).getD 9 false = true := set_true_at (by rw [hI.len, ops8_n]; decide)
      have hs8 : (l.setIfInBounds 9 true).getD 8 false = true := getD_set_true (dep_at hi hr 8 (by kernel_rfl))
      refine st_app (base := base0) hI ops8_d hi hr hK ops8_9 (by decide) (by decide) (by rw [p37]; exact hv5.below (hI.base.2.1 hl)) (RwB.rdV p45) rfl (Nat.le_refl _) hb hB0 (.inl hs9) (by simp only [List.length_append, rowB_len, pcB_len]; omega) (fun d' hd' => ?_)
      unfold sp8
      split
      all_goals first
        | exact .inl trivial
        | exact .inl hs8
        | exact .inl hs9
        | exact absurd rfl hd'
        | exact .inr (unborn 5 10 (by kernel_rfl) (hI.before 10 9 (by kernel_rfl) hl))
    | 10, hi =>
      have p46 := hI.at_ ops8_9 (dep_at hi hr 9 (by kernel_rfl)) (getD_big (by rw [hI.len, ops8_n]; decide))
      refine st_hold (v := gn 46) hI ops8_d hi hr hK ops8_10 (fun _ => p46) fun e => ?_
      exact run_move (N := 92) (g := gn) (ds := []) (w := w) (o := o) (s := 46) (ty := 25) (by decide) (.inr e)
    | k + 11, hi =>
      have h5 : k + 11 < ops8.size := (Array.getElem?_eq_some_iff.1 hi).1
      rw [ops8_n] at h5
      omega
  · intro l gn w hl hI
    have hs : l.getD 10 false = true := hl 10 (by rw [ops8_n]; decide)
    exact hQ gn w (hI.at_ ops8_10 hs (getD_big (by rw [hI.len, ops8_n]; decide))) hI.keep hI.base.1
end Go.Proofs.YtjcocepmmjmckaaDoor.PHello
/- hello.Write's region 15 (20): all pieces together. -/
set_option linter.unusedVariables false
set_option linter.unusedSimpArgs false
namespace Go.Proofs.YtjcocepmmjmckaaDoor.PHello
open Go.RowKit Go.Proofs.YtjcocepmmjmckaaDoorW.PrintWords Go.Proofs.YtjcocepmmjmckaaDoorW.PrintLast Go.Proofs.YtjcocepmmjmckaaDoorW.PrintMore
open Go.Proofs.YtjcocepmmjmckaaDoor.RegInv

noncomputable def ops15 : Array Oper := opsOf Tryd.f20 15
theorem ops15_0 : (ops15[0]?).map (fun o => (o.op, o.dst, o.guard)) = some (.buildSlice 25 1 #[(0, .const (.int .u8 1))], some 60, none) := by kernel_rfl
theorem ops15_1 : (ops15[1]?).map (fun o => (o.op, o.dst, o.guard)) = some (.buildSlice 25 2 #[(0, .const (.int .u8 3)), (1, .const (.int .u8 3))], some 61, none) := by kernel_rfl
theorem ops15_2 : (ops15[2]?).map (fun o => (o.op, o.dst, o.guard)) = some (.fieldAddr 35 (.tmp 1) 1, some 62, none) := by kernel_rfl
theorem ops15_3 : (ops15[3]?).map (fun o => (o.op, o.dst, o.guard)) = some (.slice 31 (.tmp 62) none none none, some 63, none) := by kernel_rfl
theorem ops15_4 : (ops15[4]?).map (fun o => (o.op, o.dst, o.guard)) = some (.fieldAddr 35 (.tmp 1) 2, some 64, none) := by kernel_rfl
theorem ops15_5 : (ops15[5]?).map (fun o => (o.op, o.dst, o.guard)) = some (.load 25 (.tmp 64), some 65, none) := by kernel_rfl
theorem ops15_6 : (ops15[6]?).map (fun o => (o.op, o.dst, o.guard)) = some (.buildSlice 53 1 #[(0, .tmp 65)], some 66, none) := by kernel_rfl
theorem ops15_7 : (ops15[7]?).map (fun o => (o.op, o.dst, o.guard)) = some (.call { callee := .value (.func 44), args := #[.const (.int .i64 1), .tmp 66], argTypes := #[3, 53] }, some 67, none) := by kernel_rfl
theorem ops15_8 : (ops15[8]?).map (fun o => (o.op, o.dst, o.guard)) = some (.move (.tmp 6), some 68, none) := by kernel_rfl
theorem ops15_9 : (ops15[9]?).map (fun o => (o.op, o.dst, o.guard)) = some (.buildSlice 53 1 #[(0, .tmp 68)], some 69, none) := by kernel_rfl
theorem ops15_10 : (ops15[10]?).map (fun o => (o.op, o.dst, o.guard)) = some (.call { callee := .value (.func 44), args := #[.const (.int .i64 2), .tmp 69], argTypes := #[3, 53] }, some 70, none) := by kernel_rfl
theorem ops15_11 : (ops15[11]?).map (fun o => (o.op, o.dst, o.guard)) = some (.fieldAddr 35 (.tmp 1) 4, some 71, none) := by kernel_rfl
theorem ops15_12 : (ops15[12]?).map (fun o => (o.op, o.dst, o.guard)) = some (.load 25 (.tmp 71), some 72, none) := by kernel_rfl
theorem ops15_13 : (ops15[13]?).map (fun o => (o.op, o.dst, o.guard)) = some (.buildSlice 53 1 #[(0, .tmp 72)], some 73, none) := by kernel_rfl
theorem ops15_14 : (ops15[14]?).map (fun o => (o.op, o.dst, o.guard)) = some (.call { callee := .value (.func 44), args := #[.const (.int .i64 1), .tmp 73], argTypes := #[3, 53] }, some 74, none) := by kernel_rfl
theorem ops15_15 : (ops15[15]?).map (fun o => (o.op, o.dst, o.guard)) = some (.move (.tmp 5), some 75, none) := by kernel_rfl
theorem ops15_16 : (ops15[16]?).map (fun o => (o.op, o.dst, o.guard)) = some (.buildSlice 53 1 #[(0, .tmp 75)], some 76, none) := by kernel_rfl
theorem ops15_17 : (ops15[17]?).map (fun o => (o.op, o.dst, o.guard)) = some (.call { callee := .value (.func 44), args := #[.const (.int .i64 2), .tmp 76], argTypes := #[3, 53] }, some 77, none) := by kernel_rfl
theorem ops15_18 : (ops15[18]?).map (fun o => (o.op, o.dst, o.guard)) = some (.buildSlice 53 6 #[(0, .tmp 61), (1, .tmp 63), (2, .tmp 67), (3, .tmp 70), (4, .tmp 74), (5, .tmp 77)], some 78, none) := by kernel_rfl
theorem ops15_19 : (ops15[19]?).map (fun o => (o.op, o.dst, o.guard)) = some (.call { callee := .value (.func 44), args := #[.const (.int .i64 3), .tmp 78], argTypes := #[3, 53] }, some 79, none) := by kernel_rfl
theorem ops15_20 : (ops15[20]?).map (fun o => (o.op, o.dst, o.guard)) = some (.call { callee := .builtin .append, args := #[.tmp 60, .tmp 79], argTypes := #[25, 25] }, some 80, none) := by kernel_rfl
theorem ops15_21 : (ops15[21]?).map (fun o => (o.op, o.dst, o.guard)) = some (.assign (.tmp 80), some 11, none) := by kernel_rfl
theorem ops15_n : ops15.size = 22 := by kernel_rfl
theorem ops15_d : distB ops15 = true := by kernel_rfl
theorem ops15_o : orderB ops15 = true := by kernel_rfl
def sp15 (W : World) (g : Nat) (R ses sb met eb : List UInt8) (vs v6 vm v5 : Value) (d : Nat) : Sp :=
  match d with
  | 60 => .own W.heap.size [1] 20
  | 61 => .own W.heap.size [3, 3] 20
  | 62 => .val (.pointer (some ⟨g, 1, none⟩))
  | 63 => .val (.slice (some ⟨g, 1, none⟩) 32 32)
  | 64 => .val (.pointer (some ⟨g, 33, none⟩))
  | 65 => .val vs
  | 66 => .ll [ses] 20
  | 67 => .own W.heap.size (pcB 1 ses) 20
  | 68 => .val v6
  | 69 => .ll [sb] 20
  | 70 => .own W.heap.size (pcB 2 sb) 20
  | 71 => .val (.pointer (some ⟨g, 35, none⟩))
  | 72 => .val vm
  | 73 => .ll [met] 20
  | 74 => .own W.heap.size (pcB 1 met) 20
  | 75 => .val v5
  | 76 => .ll [eb] 20
  | 77 => .own W.heap.size (pcB 2 eb) 20
  | 78 => .ll [[3, 3], R, pcB 1 ses, pcB 2 sb, pcB 1 met, pcB 2 eb] 20
  | 79 => .own W.heap.size (pcB 3 ([3, 3] ++ R ++ pcB 1 ses ++ pcB 2 sb ++ pcB 1 met ++ pcB 2 eb)) 20
  | 80 => .own W.heap.size ([1] ++ pcB 3 ([3, 3] ++ R ++ pcB 1 ses ++ pcB 2 sb ++ pcB 1 met ++ pcB 2 eb)) 23
  | 11 => .own W.heap.size ([1] ++ pcB 3 ([3, 3] ++ R ++ pcB 1 ses ++ pcB 2 sb ++ pcB 1 met ++ pcB 2 eb)) 23
  | _ => .any
/-- The random bytes of a greeting, read. -/
theorem GB.randC {w : World} {g : Nat} {m a : Int} {R : List UInt8} {s u me x : Value} {h : ByteArray} (hg : GB w g m (cellsB R) s u me h a x) : RdV w (.slice (some ⟨g, 1, none⟩) 32 32) R := by
  have hR : R.length = 32 := by have := hg.1; rwa [cellsB_len] at this
  refine ⟨some ⟨g, 1, none⟩, 32, by rw [hR], by omega, ⟨numsB_len R, by omega, fun _ => ⟨_, rfl, fun j p hj => ?_⟩⟩⟩
  have hjl : j < (numsB R).length := (List.getElem?_eq_some_iff.1 hj).1
  rw [numsB_len] at hjl
  refine ⟨[.int .u8 p], rfl, rfl, fun i u hu => ?_⟩
  have hi : i = 0 := by have := (List.getElem?_eq_some_iff.1 hu).1; simpa using this
  subst hi
  simp only [List.getElem?_cons_zero, Option.some.injEq] at hu
  subst hu
  rw [Addr.add_lit]
  have := hg.at (1 + j) (.int .u8 p) (by
    unfold gcs
    rw [Nat.add_comm 1 j, List.getElem?_cons_succ, List.getElem?_append_left (by rw [cellsB_len]; exact hjl)]
    simp [cellsB, hj])
  show w.cell? ⟨g, 1 + (j * 1 + 0), none⟩ = _
  rw [Nat.mul_one, Nat.add_zero]
  exact this
set_option maxHeartbeats 8000000 in
set_option maxRecDepth 100000 in
theorem reg15 {Q : Exit → Act → World → Prop} (g0 : Nat → Value) (W : World) (g : Nat) (m a : Int) (R ses sb met eb : List UInt8) (vs u vm x v6 v5 : Value) (h : ByteArray) (hg : GB W g m (cellsB R) vs u vm h a x) (hvs : RdV W vs ses) (hvm : RdV W vm met) (hv6 : RdV W v6 sb) (hv5 : RdV W v5 eb) (h1 : g0 1 = .pointer (some ⟨g, 0, none⟩)) (h6 : g0 6 = v6) (h5 : g0 5 = v5)
    (hl1 : ses.length ≤ 16777216) (hl2 : sb.length ≤ 33554432) (hl3 : met.length ≤ 16777216) (hl4 : eb.length ≤ 35184372088832)
    (hQ : ∀ (gn : Nat → Value) (w : World), RwB W.heap.size w (gn 11) ([1] ++ pcB 3 ([3, 3] ++ R ++ pcB 1 ses ++ pcB 2 sb ++ pcB 1 met ++ pcB 2 eb)) → (∀ k, noDstB ops15 k = true → gn k = g0 k) → Below W.heap.size W w → Q .normal (actOf 92 gn []) w) :
    (Code.region 15 ops15 true).wp Tryd.prog Q (actOf 92 g0 []) W := by
  have hR : R.length = 32 := by have := hg.1; rwa [cellsB_len] at this
  refine wp_region_inv (by kernel_rfl) g0 92 [] rfl (Phs (sp15 W g R ses sb met eb vs v6 vm v5)) (Bt W W.heap.size 23) ops15_d ops15_o ⟨below_drew (Below.refl _ _), fun _ => below_drew (Below.refl _ _), Nat.le_refl _⟩ ?_ ?_
  · intro l gn w i o hi hl hr hI K hK
    have hB0 := hI.base.1
    have hgw := hg.below hB0 hg.lt
    have ev : ∀ k, k < 92 → (actOf 92 gn []).eval (.tmp k) = gn k := fun k hk => actOf_eval 92 gn [] k hk
    have k1 : gn 1 = .pointer (some ⟨g, 0, none⟩) := (hI.keep 1 (by kernel_rfl)).trans h1
    have k6 : gn 6 = v6 := (hI.keep 6 (by kernel_rfl)).trans h6
    have k5 : gn 5 = v5 := (hI.keep 5 (by kernel_rfl)).trans h5
    match i, hi with
    | 0, hi =>
      refine st_bytes (r := [1]) hI ops15_d hi hr hK ops15_0 rfl (Nat.le_refl _) (by decide) fun e => ?_
      unfold execOp
      simp only [e]
      go_simp
      rfl
    | 1, hi =>
      refine st_bytes (r := [3, 3]) hI ops15_d hi hr hK ops15_1 rfl (Nat.le_refl _) (by decide) fun e => ?_
      unfold execOp
      simp only [e]
      go_simp
      rfl
    | 2, hi =>
      refine st_val hI ops15_d hi hr hK ops15_2 rfl fun e => ?_
      unfold execOp; simp only [e, ev 1 (by decide), k1]; kernel_rfl
    | 3, hi =>
      have k62 : gn 62 = .pointer (some ⟨g, 1, none⟩) := hI.at_ ops15_2 (dep_at hi hr 2 (by kernel_rfl))
      refine st_val hI ops15_d hi hr hK ops15_3 (v := .slice (some ⟨g, 1, none⟩) 32 32) rfl fun e => ?_
      unfold execOp
      simp only [e]
      have e62 := actOf_q 92 gn [] 62 (by decide)
      rw [k62] at e62
      go_simp
    | 4, hi =>
      refine st_val hI ops15_d hi hr hK ops15_4 rfl fun e => ?_
      unfold execOp; simp only [e, ev 1 (by decide), k1]; kernel_rfl
    | 5, hi =>
      have k64 : gn 64 = .pointer (some ⟨g, 33, none⟩) := hI.at_ ops15_4 (dep_at hi hr 4 (by kernel_rfl))
      refine st_val hI ops15_d hi hr hK ops15_5 (v := vs) rfl fun e => ?_
      unfold execOp
      simp only [e, ev 64 (by decide), k64]
      have hc0 := hgw.c33
      simp [Instr.loadAt, Instr.sureAddr, loadVar, isAgg, Sem.run_bind, run_underlying Tryd.underlying25, hc0]
    | 6, hi =>
      have k65 : gn 65 = vs := hI.at_ ops15_5 (dep_at hi hr 5 (by kernel_rfl))
      refine st_ll (vals := [vs]) (ls := [ses]) hI ops15_d hi hr hK ops15_6 rfl rfl (by simp) (fun e => ?_) (fun j v q hj hq => ?_)
      · unfold execOp
        simp only [e]
        have e65 := actOf_q 92 gn [] 65 (by decide)
        rw [k65] at e65
        obtain ⟨A, c, rfl, _⟩ := hvs
        go_simp
      · have hj0 : j = 0 := by have := (List.getElem?_eq_some_iff.1 hj).1; simpa using this
        subst hj0
        simp only [List.getElem?_cons_zero, Option.some.injEq] at hj hq
        subst hj
        subst hq
        exact hvs.below hB0
    | 7, hi =>
      exact st_piece (k := 1) (ls := [ses]) hI ops15_d hi hr hK ops15_6 (by kernel_rfl) rfl (by decide) (hI.before 20 19 (by kernel_rfl) (hI.before 19 18 (by kernel_rfl) (hI.before 18 7 (by kernel_rfl) hl))) ops15_7 (by show _ = Sp.own _ (pcB 1 ([ses] : List (List UInt8)).flatten) _; rw [List.flatten_singleton]; rfl) (Nat.le_refl _) (by decide) (by simp only [lenAll, List.flatten_cons, List.flatten_nil, List.append_nil, List.length_append, List.length_cons, List.length_nil, pcB_len]; omega)
    | 8, hi =>
      refine st_val hI ops15_d hi hr hK ops15_8 (v := v6) rfl fun e => ?_
      have := run_move (N := 92) (g := gn) (ds := []) (w := w) (o := o) (s := 6) (ty := 25) (by decide) (.inl e)
      rwa [k6] at this
    | 9, hi =>
      have k68 : gn 68 = v6 := hI.at_ ops15_8 (dep_at hi hr 8 (by kernel_rfl))
      refine st_ll (vals := [v6]) (ls := [sb]) hI ops15_d hi hr hK ops15_9 rfl rfl (by simp) (fun e => ?_) (fun j v q hj hq => ?_)
      · unfold execOp
        simp only [e]
        have e68 := actOf_q 92 gn [] 68 (by decide)
        rw [k68] at e68
        obtain ⟨A, c, rfl, _⟩ := hv6
        go_simp
      · have hj0 : j = 0 := by have := (List.getElem?_eq_some_iff.1 hj).1; simpa using this
        subst hj0
        simp only [List.getElem?_cons_zero, Option.some.injEq] at hj hq
        subst hj
        subst hq
        exact hv6.below hB0
    | 10, hi =>
      exact st_piece (k := 2) (ls := [sb]) hI ops15_d hi hr hK ops15_9 (by kernel_rfl) rfl (by decide) (hI.before 20 19 (by kernel_rfl) (hI.before 19 18 (by kernel_rfl) (hI.before 18 10 (by kernel_rfl) hl))) ops15_10 (by show _ = Sp.own _ (pcB 2 ([sb] : List (List UInt8)).flatten) _; rw [List.flatten_singleton]; rfl) (Nat.le_refl _) (by decide) (by simp only [lenAll, List.flatten_cons, List.flatten_nil, List.append_nil, List.length_append, List.length_cons, List.length_nil, pcB_len]; omega)
    | 11, hi =>
      refine st_val hI ops15_d hi hr hK ops15_11 rfl fun e => ?_
      unfold execOp; simp only [e, ev 1 (by decide), k1]; kernel_rfl
    | 12, hi =>
      have k71 : gn 71 = .pointer (some ⟨g, 35, none⟩) := hI.at_ ops15_11 (dep_at hi hr 11 (by kernel_rfl))
      refine st_val hI ops15_d hi hr hK ops15_12 (v := vm) rfl fun e => ?_
      unfold execOp
      simp only [e, ev 71 (by decide), k71]
      have hc0 := hgw.c35
      simp [Instr.loadAt, Instr.sureAddr, loadVar, isAgg, Sem.run_bind, run_underlying Tryd.underlying25, hc0]
    | 13, hi =>
      have k72 : gn 72 = vm := hI.at_ ops15_12 (dep_at hi hr 12 (by kernel_rfl))
      refine st_ll (vals := [vm]) (ls := [met]) hI ops15_d hi hr hK ops15_13 rfl rfl (by simp) (fun e => ?_) (fun j v q hj hq => ?_)
      · unfold execOp
        simp only [e]
        have e72 := actOf_q 92 gn [] 72 (by decide)
        rw [k72] at e72
        obtain ⟨A, c, rfl, _⟩ := hvm
        go_simp
      · have hj0 : j = 0 := by have := (List.getElem?_eq_some_iff.1 hj).1; simpa using this
        subst hj0
        simp only [List.getElem?_cons_zero, Option.some.injEq] at hj hq
        subst hj
        subst hq
        exact hvm.below hB0
    | 14, hi =>
      exact st_piece (k := 1) (ls := [met]) hI ops15_d hi hr hK ops15_13 (by kernel_rfl) rfl (by decide) (hI.before 20 19 (by kernel_rfl) (hI.before 19 18 (by kernel_rfl) (hI.before 18 14 (by kernel_rfl) hl))) ops15_14 (by show _ = Sp.own _ (pcB 1 ([met] : List (List UInt8)).flatten) _; rw [List.flatten_singleton]; rfl) (Nat.le_refl _) (by decide) (by simp only [lenAll, List.flatten_cons, List.flatten_nil, List.append_nil, List.length_append, List.length_cons, List.length_nil, pcB_len]; omega)
    | 15, hi =>
      refine st_val hI ops15_d hi hr hK ops15_15 (v := v5) rfl fun e => ?_
      have := run_move (N := 92) (g := gn) (ds := []) (w := w) (o := o) (s := 5) (ty := 25) (by decide) (.inl e)
      rwa [k5] at this
    | 16, hi =>
      have k75 : gn 75 = v5 := hI.at_ ops15_15 (dep_at hi hr 15 (by kernel_rfl))
      refine st_ll (vals := [v5]) (ls := [eb]) hI ops15_d hi hr hK ops15_16 rfl rfl (by simp) (fun e => ?_) (fun j v q hj hq => ?_)
      · unfold execOp
        simp only [e]
        have e75 := actOf_q 92 gn [] 75 (by decide)
        rw [k75] at e75
        obtain ⟨A, c, rfl, _⟩ := hv5
        go_simp
      · have hj0 : j = 0 := by have := (List.getElem?_eq_some_iff.1 hj).1; simpa using this
        subst hj0
        simp only [List.getElem?_cons_zero, Option.some.injEq] at hj hq
        subst hj
        subst hq
        exact hv5.below hB0
    | 17, hi =>
      exact st_piece (k := 2) (ls := [eb]) hI ops15_d hi hr hK ops15_16 (by kernel_rfl) rfl (by decide) (hI.before 20 19 (by kernel_rfl) (hI.before 19 18 (by kernel_rfl) (hI.before 18 17 (by kernel_rfl) hl))) ops15_17 (by show _ = Sp.own _ (pcB 2 ([eb] : List (List UInt8)).flatten) _; rw [List.flatten_singleton]; rfl) (Nat.le_refl _) (by decide) (by simp only [lenAll, List.flatten_cons, List.flatten_nil, List.append_nil, List.length_append, List.length_cons, List.length_nil, pcB_len]; omega)
    | 18, hi =>
      have live : l.getD 20 false = false := (hI.before 20 19 (by kernel_rfl) (hI.before 19 18 (by kernel_rfl) hl))
      have r61 : RdV w (gn 61) _ := RwB.rdV (hI.at_ ops15_1 (dep_at hi hr 1 (by kernel_rfl)) live)
      have k63 : gn 63 = .slice (some ⟨g, 1, none⟩) 32 32 := hI.at_ ops15_3 (dep_at hi hr 3 (by kernel_rfl))
      have r63 : RdV w (gn 63) R := by rw [k63]; exact hgw.randC
      have r67 : RdV w (gn 67) _ := RwB.rdV (hI.at_ ops15_7 (dep_at hi hr 7 (by kernel_rfl)) live)
      have r70 : RdV w (gn 70) _ := RwB.rdV (hI.at_ ops15_10 (dep_at hi hr 10 (by kernel_rfl)) live)
      have r74 : RdV w (gn 74) _ := RwB.rdV (hI.at_ ops15_14 (dep_at hi hr 14 (by kernel_rfl)) live)
      have r77 : RdV w (gn 77) _ := RwB.rdV (hI.at_ ops15_17 (dep_at hi hr 17 (by kernel_rfl)) live)
      refine st_ll (vals := [gn 61, gn 63, gn 67, gn 70, gn 74, gn 77]) (ls := [[3, 3], R, pcB 1 ses, pcB 2 sb, pcB 1 met, pcB 2 eb]) hI ops15_d hi hr hK ops15_18 rfl rfl (by simp) (fun e => ?_) (fun j v q hj hq => ?_)
      · unfold execOp
        simp only [e]
        have e61 := actOf_q 92 gn [] 61 (by decide)
        have e63 := actOf_q 92 gn [] 63 (by decide)
        have e67 := actOf_q 92 gn [] 67 (by decide)
        have e70 := actOf_q 92 gn [] 70 (by decide)
        have e74 := actOf_q 92 gn [] 74 (by decide)
        have e77 := actOf_q 92 gn [] 77 (by decide)
        obtain ⟨A61, c61, q61, _⟩ := r61
        rw [q61] at e61 ⊢
        obtain ⟨A63, c63, q63, _⟩ := r63
        rw [q63] at e63 ⊢
        obtain ⟨A67, c67, q67, _⟩ := r67
        rw [q67] at e67 ⊢
        obtain ⟨A70, c70, q70, _⟩ := r70
        rw [q70] at e70 ⊢
        obtain ⟨A74, c74, q74, _⟩ := r74
        rw [q74] at e74 ⊢
        obtain ⟨A77, c77, q77, _⟩ := r77
        rw [q77] at e77 ⊢
        go_simp
      · match j, hj, hq with
        | 0, hj, hq =>
          simp only [List.getElem?_cons_succ, List.getElem?_cons_zero, Option.some.injEq] at hj hq
          subst hj
          subst hq
          exact r61
        | 1, hj, hq =>
          simp only [List.getElem?_cons_succ, List.getElem?_cons_zero, Option.some.injEq] at hj hq
          subst hj
          subst hq
          exact r63
        | 2, hj, hq =>
          simp only [List.getElem?_cons_succ, List.getElem?_cons_zero, Option.some.injEq] at hj hq
          subst hj
          subst hq
          exact r67
        | 3, hj, hq =>
          simp only [List.getElem?_cons_succ, List.getElem?_cons_zero, Option.some.injEq] at hj hq
          subst hj
          subst hq
          exact r70
        | 4, hj, hq =>
          simp only [List.getElem?_cons_succ, List.getElem?_cons_zero, Option.some.injEq] at hj hq
          subst hj
          subst hq
          exact r74
        | 5, hj, hq =>
          simp only [List.getElem?_cons_succ, List.getElem?_cons_zero, Option.some.injEq] at hj hq
          subst hj
          subst hq
          exact r77
    | 19, hi =>
      exact st_piece (k := 3) (ls := [[3, 3], R, pcB 1 ses, pcB 2 sb, pcB 1 met, pcB 2 eb]) hI ops15_d hi hr hK ops15_18 (by kernel_rfl) rfl (by decide) (hI.before 20 19 (by kernel_rfl) hl) ops15_19 (by rw [show ([[3, 3], R, pcB 1 ses, pcB 2 sb, pcB 1 met, pcB 2 eb] : List (List UInt8)).flatten = ([3, 3] ++ R ++ pcB 1 ses ++ pcB 2 sb ++ pcB 1 met ++ pcB 2 eb) by simp only [List.flatten_cons, List.flatten_nil, List.append_nil, List.append_assoc]]; rfl) (Nat.le_refl _) (by decide) (by simp only [lenAll, List.flatten_cons, List.flatten_nil, List.append_nil, List.length_append, List.length_cons, List.length_nil, pcB_len, hR]; omega)
    | 20, hi =>
      have p60 := hI.at_ ops15_0 (dep_at hi hr 0 (by kernel_rfl)) hl
      have p79 := hI.at_ ops15_19 (dep_at hi hr 19 (by kernel_rfl)) hl
      refine st_app (base := W.heap.size) hI ops15_d hi hr hK ops15_20 (by decide) (by decide) p60 (RwB.rdV p79) rfl (Nat.le_refl _) (Nat.le_refl _) hB0 (.inr rfl) (by simp only [pcB_len, List.length_append, List.length_cons, List.length_nil, hR]; omega) (fun d' hd' => ?_)
      have hs : (l.setIfInBounds 20 true).getD 20 false = true := set_true_at (by rw [hI.len, ops15_n]; decide)
      unfold sp15
      split
      all_goals first
        | exact .inl trivial
        | exact .inl hs
        | exact absurd rfl hd'
        | exact .inr (unborn 11 21 (by kernel_rfl) (hI.before 21 20 (by kernel_rfl) hl))
    | 21, hi =>
      have p80 := hI.at_ ops15_20 (dep_at hi hr 20 (by kernel_rfl)) (getD_big (by rw [hI.len, ops15_n]; decide))
      refine st_hold (v := gn 80) hI ops15_d hi hr hK ops15_21 (fun _ => p80) fun e => ?_
      exact run_move (N := 92) (g := gn) (ds := []) (w := w) (o := o) (s := 80) (ty := 25) (by decide) (.inr e)
    | k + 22, hi =>
      have h5 : k + 22 < ops15.size := (Array.getElem?_eq_some_iff.1 hi).1
      rw [ops15_n] at h5
      omega
  · intro l gn w hl hI
    have hs : l.getD 21 false = true := hl 21 (by rw [ops15_n]; decide)
    exact hQ gn w (hI.at_ ops15_21 hs (getD_big (by rw [hI.len, ops15_n]; decide))) hI.keep hI.base.1
end Go.Proofs.YtjcocepmmjmckaaDoor.PHello
/- hello.Write's region 18 (20): the record around them. -/
set_option linter.unusedVariables false
set_option linter.unusedSimpArgs false
namespace Go.Proofs.YtjcocepmmjmckaaDoor.PHello
open Go.RowKit Go.Proofs.YtjcocepmmjmckaaDoorW.PrintWords Go.Proofs.YtjcocepmmjmckaaDoorW.PrintLast Go.Proofs.YtjcocepmmjmckaaDoorW.PrintMore
open Go.Proofs.YtjcocepmmjmckaaDoor.RegInv

noncomputable def ops18 : Array Oper := opsOf Tryd.f20 18
theorem ops18_0 : (ops18[0]?).map (fun o => (o.op, o.dst, o.guard)) = some (.fieldAddr 35 (.tmp 1) 0, some 84, none) := by kernel_rfl
theorem ops18_1 : (ops18[1]?).map (fun o => (o.op, o.dst, o.guard)) = some (.load 3 (.tmp 84), some 85, none) := by kernel_rfl
theorem ops18_2 : (ops18[2]?).map (fun o => (o.op, o.dst, o.guard)) = some (.convert 3 5 (.tmp 85), some 86, none) := by kernel_rfl
theorem ops18_3 : (ops18[3]?).map (fun o => (o.op, o.dst, o.guard)) = some (.buildSlice 25 3 #[(0, .const (.int .u8 22)), (1, .const (.int .u8 3)), (2, .tmp 86)], some 87, none) := by kernel_rfl
theorem ops18_4 : (ops18[4]?).map (fun o => (o.op, o.dst, o.guard)) = some (.move (.tmp 11), some 88, none) := by kernel_rfl
theorem ops18_5 : (ops18[5]?).map (fun o => (o.op, o.dst, o.guard)) = some (.buildSlice 53 1 #[(0, .tmp 88)], some 89, none) := by kernel_rfl
theorem ops18_6 : (ops18[6]?).map (fun o => (o.op, o.dst, o.guard)) = some (.call { callee := .value (.func 44), args := #[.const (.int .i64 2), .tmp 89], argTypes := #[3, 53] }, some 90, none) := by kernel_rfl
theorem ops18_7 : (ops18[7]?).map (fun o => (o.op, o.dst, o.guard)) = some (.call { callee := .builtin .append, args := #[.tmp 87, .tmp 90], argTypes := #[25, 25] }, some 91, none) := by kernel_rfl
theorem ops18_8 : (ops18[8]?).map (fun o => (o.op, o.dst, o.guard)) = some (.assign (.tmp 91), some 2, none) := by kernel_rfl
theorem ops18_9 : (ops18[9]?).map (fun o => (o.op, o.dst, o.guard)) = some (.assign (.const (.int .i64 0)), some 3, none) := by kernel_rfl
theorem ops18_n : ops18.size = 10 := by kernel_rfl
theorem ops18_d : distB ops18 = true := by kernel_rfl
theorem ops18_o : orderB ops18 = true := by kernel_rfl
def sp18 (W : World) (g m : Nat) (ob : List UInt8) (v11 : Value) (d : Nat) : Sp :=
  match d with
  | 84 => .val (.pointer (some ⟨g, 0, none⟩))
  | 85 => .val (.int .i64 m)
  | 86 => .val (.int .u8 m)
  | 87 => .own W.heap.size [22, 3, UInt8.ofNat m] 7
  | 88 => .val v11
  | 89 => .ll [ob] 7
  | 90 => .own W.heap.size (pcB 2 ob) 7
  | 91 => .own W.heap.size ([22, 3, UInt8.ofNat m] ++ pcB 2 ob) 11
  | 2 => .own W.heap.size ([22, 3, UInt8.ofNat m] ++ pcB 2 ob) 11
  | 3 => .val (.int .i64 0)
  | _ => .any
set_option maxHeartbeats 8000000 in
set_option maxRecDepth 100000 in
theorem reg18 {Q : Exit → Act → World → Prop} (g0 : Nat → Value) (W : World) (g m : Nat) (a : Int) (R : List Value) (ob : List UInt8) (vs u vm x v11 : Value) (h : ByteArray) (hg : GB W g m R vs u vm h a x) (hv : RdV W v11 ob) (hm : m ≤ 4) (h1 : g0 1 = .pointer (some ⟨g, 0, none⟩)) (h11 : g0 11 = v11) (hl1 : ob.length ≤ 16384)
    (hQ : ∀ (gn : Nat → Value) (w : World), RwB W.heap.size w (gn 2) ([22, 3, UInt8.ofNat m] ++ pcB 2 ob) → gn 3 = .int .i64 0 → Below W.heap.size W w → Q .normal (actOf 92 gn []) w) :
    (Code.region 18 ops18 true).wp Tryd.prog Q (actOf 92 g0 []) W := by
  refine wp_region_inv (by kernel_rfl) g0 92 [] rfl (Phs (sp18 W g m ob v11)) (Bt W W.heap.size 11) ops18_d ops18_o ⟨below_drew (Below.refl _ _), fun _ => below_drew (Below.refl _ _), Nat.le_refl _⟩ ?_ ?_
  · intro l gn w i o hi hl hr hI K hK
    have hB0 := hI.base.1
    have hgw := hg.below hB0 hg.lt
    have ev : ∀ k, k < 92 → (actOf 92 gn []).eval (.tmp k) = gn k := fun k hk => actOf_eval 92 gn [] k hk
    have k1 : gn 1 = .pointer (some ⟨g, 0, none⟩) := (hI.keep 1 (by kernel_rfl)).trans h1
    have k11 : gn 11 = v11 := (hI.keep 11 (by kernel_rfl)).trans h11
    match i, hi with
    | 0, hi =>
      refine st_val hI ops18_d hi hr hK ops18_0 rfl fun e => ?_
      unfold execOp; simp only [e, ev 1 (by decide), k1]; kernel_rfl
    | 1, hi =>
      have k84 : gn 84 = .pointer (some ⟨g, 0, none⟩) := hI.at_ ops18_0 (dep_at hi hr 0 (by kernel_rfl))
      refine st_val hI ops18_d hi hr hK ops18_1 (v := .int .i64 m) rfl fun e => ?_
      unfold execOp
      simp only [e, ev 84 (by decide), k84]
      have hc0 := hgw.c0
      simp [Instr.loadAt, Instr.sureAddr, loadVar, isAgg, Sem.run_bind, run_underlying Tryd.underlying3, hc0]
    | 2, hi =>
      have k85 : gn 85 = .int .i64 m := hI.at_ ops18_1 (dep_at hi hr 1 (by kernel_rfl))
      refine st_val hI ops18_d hi hr hK ops18_2 (v := .int .u8 m) rfl fun e => ?_
      unfold execOp
      simp only [e]
      have e85 := actOf_q 92 gn [] 85 (by decide)
      rw [k85] at e85
      have hwr : IntKind.u8.wrap (m : Int) = m := by rcases (by omega : m = 0 ∨ m = 1 ∨ m = 2 ∨ m = 3 ∨ m = 4) with rfl | rfl | rfl | rfl | rfl <;> rfl
      go_simp
    | 3, hi =>
      have k86 : gn 86 = .int .u8 m := hI.at_ ops18_2 (dep_at hi hr 2 (by kernel_rfl))
      refine st_bytes (r := [22, 3, UInt8.ofNat m]) hI ops18_d hi hr hK ops18_3 rfl (Nat.le_refl _) (by simp) fun e => ?_
      unfold execOp
      simp only [e]
      have e86 := actOf_q 92 gn [] 86 (by decide)
      rw [k86] at e86
      have hcb : cellsB [22, 3, UInt8.ofNat m] = [.int .u8 22, .int .u8 3, .int .u8 m] := by
        have : ((UInt8.ofNat m).toNat : Int) = m := by simp; omega
        simp [cellsB, numsB]; omega
      rw [hcb]
      go_simp
    | 4, hi =>
      refine st_val hI ops18_d hi hr hK ops18_4 (v := v11) rfl fun e => ?_
      have := run_move (N := 92) (g := gn) (ds := []) (w := w) (o := o) (s := 11) (ty := 25) (by decide) (.inl e)
      rwa [k11] at this
    | 5, hi =>
      have k88 : gn 88 = v11 := hI.at_ ops18_4 (dep_at hi hr 4 (by kernel_rfl))
      refine st_ll (vals := [v11]) (ls := [ob]) hI ops18_d hi hr hK ops18_5 rfl rfl (by simp) (fun e => ?_) (fun j v q hj hq => ?_)
      · unfold execOp
        simp only [e]
        have e88 := actOf_q 92 gn [] 88 (by decide)
        rw [k88] at e88
        obtain ⟨A, c, rfl, _⟩ := hv
        go_simp
      · have hj0 : j = 0 := by have := (List.getElem?_eq_some_iff.1 hj).1; simpa using this
        subst hj0
        simp only [List.getElem?_cons_zero, Option.some.injEq] at hj hq
        subst hj
        subst hq
        exact hv.below hB0
    | 6, hi =>
      exact st_piece (k := 2) (ls := [ob]) hI ops18_d hi hr hK ops18_5 (by kernel_rfl) rfl (by decide) (hI.before 7 6 (by kernel_rfl) hl) ops18_6 (by show _ = Sp.own _ (pcB 2 ([ob] : List (List UInt8)).flatten) _; rw [List.flatten_singleton]; rfl) (Nat.le_refl _) (by decide) (by simp only [lenAll, List.flatten_cons, List.flatten_nil, List.append_nil, List.length_append, List.length_cons, List.length_nil, pcB_len]; omega)
    | 7, hi =>
      have p87 := hI.at_ ops18_3 (dep_at hi hr 3 (by kernel_rfl)) hl
      have p90 := hI.at_ ops18_6 (dep_at hi hr 6 (by kernel_rfl)) hl
      refine st_app (base := W.heap.size) hI ops18_d hi hr hK ops18_7 (by decide) (by decide) p87 (RwB.rdV p90) rfl (Nat.le_refl _) (Nat.le_refl _) hB0 (.inr rfl) (by simp only [pcB_len, List.length_append, List.length_cons, List.length_nil]; omega) (fun d' hd' => ?_)
      have hs : (l.setIfInBounds 7 true).getD 7 false = true := set_true_at (by rw [hI.len, ops18_n]; decide)
      unfold sp18
      split
      all_goals first
        | exact .inl trivial
        | exact .inl hs
        | exact absurd rfl hd'
        | exact .inr (unborn 2 8 (by kernel_rfl) (hI.before 8 7 (by kernel_rfl) hl))
    | 8, hi =>
      have p91 := hI.at_ ops18_7 (dep_at hi hr 7 (by kernel_rfl)) (getD_big (by rw [hI.len, ops18_n]; decide))
      refine st_hold (v := gn 91) hI ops18_d hi hr hK ops18_8 (fun _ => p91) fun e => ?_
      exact run_move (N := 92) (g := gn) (ds := []) (w := w) (o := o) (s := 91) (ty := 25) (by decide) (.inr e)
    | 9, hi =>
      refine st_val hI ops18_d hi hr hK ops18_9 (v := .int .i64 0) rfl fun e => ?_
      unfold execOp
      simp only [e]
      rfl
    | k + 10, hi =>
      have h5 : k + 10 < ops18.size := (Array.getElem?_eq_some_iff.1 hi).1
      rw [ops18_n] at h5
      omega
  · intro l gn w hl hI
    exact hQ gn w (hI.at_ ops18_8 (hl 8 (by rw [ops18_n]; decide)) (getD_big (by rw [hI.len, ops18_n]; decide))) (hI.at_ ops18_9 (hl 9 (by rw [ops18_n]; decide))) hI.base.1
end Go.Proofs.YtjcocepmmjmckaaDoor.PHello
