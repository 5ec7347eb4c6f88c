/- hello.Parse (13). -/
import Derived.Test.YtjcocepmmjmckaaDoorJExtW
import Derived.Test.YtjcocepmmjmckaaDoorJExtY
import Derived.Laws.Shifts
import Derived.Lib.AppendZerosOnto
import Derived.Lib.Walk
import Derived.Lib.SliceRun
import Derived.Lib.AppendZeros
import Derived.Lib.Overlaps
import Derived.Laws.Externs
import Derived.Laws.IdiomCopy
set_option linter.unusedVariables false
set_option linter.unusedSimpArgs false
namespace Go.Proofs.YtjcocepmmjmckaaDoor.PHello
open Go.RowKit Go.Proofs.YtjcocepmmjmckaaDoorW.PrintWords Go.Proofs.YtjcocepmmjmckaaDoorW.PrintLast Go.Proofs.YtjcocepmmjmckaaDoorW.PrintMore
theorem zero28 (w : World) : (zeroValue 28).run Tryd.prog w = .ok (.int .i64 0) w := by kernel_rfl
theorem zero35g (w : World) : (zeroValue 35).run Tryd.prog w = .ok (.agg (gcs 0 zeros nilS nilS nilS ⟨#[]⟩ 0 nilS).toArray) w := zero35 w
/-- What Parse tells. -/
def mayG (G : Gr) : Bool := mayR G.m (numsB G.ses) G.sui (numsB G.met) ⟨G.h.toArray⟩ (atI G.a) G.es
def parseR (l : List UInt8) : Option Gr :=
  match headR l with
  | none => none
  | some G => if G.a.isSome = true ∧ mayG G = true then some G else none
/-- Bytes as cells. -/
def cellsB (l : List UInt8) : List Value := (numsB l).map (Value.int .u8)
/-- A greeting's rows in memory of their own. -/
def GrRows (w' : World) (base : Nat) (G : Gr) (s u me x : Value) : Prop :=
  Kd.R (Kd.int .u8) 5 w' base (fun _ => True) s (numsB G.ses) ∧ Kd.R (Kd.int .i64) 3 w' base (fun _ => True) u G.sui ∧
    Kd.R (Kd.int .u8) 5 w' base (fun _ => True) me (numsB G.met) ∧ Kd.R k59 59 w' base (fun _ => True) x G.es
/-- What Parse answers. -/
def ParseP (l : List UInt8) (w : World) (e : Ending) (w' : World) : Prop :=
  Below w.heap.size w w' ∧
    ((∃ G s u me x, parseR l = some G ∧ e = .returned (.tuple #[.agg (gcs G.m (cellsB G.R) s u me ⟨G.h.toArray⟩ (atI G.a) x).toArray, .int .i64 0]) ∧ GrRows w' w.heap.size G s u me x) ∨
     (parseR l = none ∧ e = .returned (.tuple #[.agg (gcs 0 zeros nilS nilS nilS ⟨#[]⟩ 0 nilS).toArray, .int .i64 70])))
/-- What is put off. -/
def dfr (g eb : Nat) : Deferred := { target := .fn (.func 24) #[.pointer (some ⟨g, 0, none⟩), .pointer (some ⟨eb, 0, none⟩)], args := #[] }
/-- Where Parse's frame stands at its end. -/
def FrP (g eb : Nat) (a : Act) : Prop := a.defers = [dfr g eb] ∧ a.tmps.getD 2 undef = .pointer (some ⟨g, 0, none⟩) ∧ a.tmps.getD 3 undef = .pointer (some ⟨eb, 0, none⟩)
/-- Parse's memory at work. -/
structure St (w wr : World) (g eb : Nat) (m : Int) (R : List Value) (s u me : Value) (h : ByteArray) (a : Int) (x : Value) : Prop where
  bel : Below w.heap.size w wr
  gb : GB wr g m R s u me h a x
  eb : Boxed wr eb 28 (.int .i64 0)
/-- What Parse's body comes to, before what was put off. -/
def PQ (l : List UInt8) (w : World) (g eb : Nat) : Exit → Act → World → Prop
  | .panic ch, a, w' => ch = thrown ∧ FrP g eb a ∧ parseR l = none ∧ ∃ m R s u me h at' x, St w w' g eb m R s u me h at' x
  | .ret, a, w' => FrP g eb a ∧ ∃ G s u me x, parseR l = some G ∧ St w w' g eb G.m (cellsB G.R) s u me ⟨G.h.toArray⟩ (atI G.a) x ∧ GrRows w' w.heap.size G s u me x
  | _, _, _ => False
theorem res13 (g eb : Nat) (tmps : Array Value) (w : World) (h2 : tmps.getD 2 undef = .pointer (some ⟨g, 0, none⟩)) (h3 : tmps.getD 3 undef = .pointer (some ⟨eb, 0, none⟩)) {m : Int} {R : List Value} {s u me : Value} {h : ByteArray} {at' : Int} {x : Value} {e : Int}
    (hg : GB w g m R s u me h at' x) (he : Boxed w eb 28 (.int .i64 e)) :
    (results Tryd.f13 tmps).run Tryd.prog w = .ok (.tuple #[.agg (gcs m R s u me h at' x).toArray, .int .i64 e]) w := by
  have hr : Tryd.f13.results = #[.cell 2 35, .cell 3 28] := by kernel_rfl
  have h35 := run_loadVar_row (P := Tryd.prog) w g 35 35 (gcs m R s u me h at' x).toArray (0, 0) _ hg.2 Tryd.underlying35 rfl (by rw [info35]; simp [gcs, hg.1])
  have h28 : (loadVar 28 ⟨eb, 0, none⟩).run Tryd.prog w = .ok (.int .i64 e) w := by
    have hc := he.cell
    simp [loadVar, isAgg, Sem.run_bind, run_underlying Tryd.underlying28, hc]
  have h2' : tmps[2]?.getD undef = .pointer (some ⟨g, 0, none⟩) := by simpa using h2
  have h3' : tmps[3]?.getD undef = .pointer (some ⟨eb, 0, none⟩) := by simpa using h3
  simp [results, hr, h2', h3', asAddr, h35, h28]
theorem St.tch {w wr wr' : World} {g eb : Nat} {m : Int} {R : List Value} {s u me : Value} {h : ByteArray} {a : Int} {x : Value} {b : Nat} (hs : St w wr g eb m R s u me h a x) (ht : Tch (· = b) wr wr') (hg : g ≠ b) (he : eb ≠ b) (hb : w.heap.size ≤ b) : St w wr' g eb m R s u me h a x :=
  ⟨below_only hs.bel hb ht, hs.gb.tch ht hg, ht.boxed hs.eb he⟩
theorem pq_leave (l : List UInt8) (w : World) (g eb : Nat) (hne : g ≠ eb) (hg : w.heap.size ≤ g) (he : w.heap.size ≤ eb) (e : Exit) (a : Act) (w' : World) (h : PQ l w g eb e a w') :
    bodyPostD Tryd.prog Tryd.f13 (ParseP l w) e a w' := by
  cases e with
  | panic ch =>
    obtain ⟨rfl, ⟨hd, h2, h3⟩, hn, m, R, s, u, me, hh, at', x, hs⟩ := h
    show Leaves _ _ _ _ a.defers _ _
    rw [hd]
    refine leaves_cons (by simp) (f := 24) (args := #[.pointer (some ⟨g, 0, none⟩), .pointer (some ⟨eb, 0, none⟩)]) (by kernel_rfl) ((catch_wrong g eb _ w' hs.gb hs.eb hne).mono ?_)
    rintro e' u' w2 ⟨rfl, rfl, hg2, he2, ht⟩
    show Leaves _ _ _ _ [] _ _
    refine ⟨_, res13 g eb _ w2 h2 h3 hg2 he2, ?_, Or.inr ⟨hn, rfl⟩⟩
    exact hs.bel.trans (ht.below hs.bel.size (fun k e => by rcases e with rfl | rfl; exact hg; exact he))
  | ret =>
    obtain ⟨⟨hd, h2, h3⟩, G, s, u, me, x, hp, hs, hr⟩ := h
    show Leaves _ _ _ _ a.defers _ _
    rw [hd]
    refine leaves_cons (by simp) (f := 24) (args := #[.pointer (some ⟨g, 0, none⟩), .pointer (some ⟨eb, 0, none⟩)]) (by kernel_rfl) ((catch_idle _ _ w').mono ?_)
    rintro e' u' w2 ⟨rfl, rfl, rfl⟩
    show Leaves _ _ _ _ [] _ _
    exact ⟨_, res13 g eb _ w2 h2 h3 hs.gb hs.eb, hs.bel, Or.inl ⟨G, s, u, me, x, hp, rfl, hr⟩⟩
  | normal => exact h.elim
  | exit _ => exact h.elim
  | goto _ => exact h.elim
  | outgrown => exact h.elim
/-- Where Parse begins. -/
theorem start13 (w : World) (A : Option Addr) (c : Nat) (l : List UInt8) (hr : Kd.C (Kd.int .u8) w A l.length (numsB l)) (hc : l.length ≤ c) :
    St w (((w.alloc (.cells (gcs 0 zeros nilS nilS nilS ⟨#[]⟩ 0 nilS).toArray 35)).alloc (.cells #[.int .i64 0] 28)).alloc (.cells #[.slice A l.length c] 66)) w.heap.size (w.heap.size + 1) 0 zeros nilS nilS nilS ⟨#[]⟩ 0 nilS ∧
    Cur w (((w.alloc (.cells (gcs 0 zeros nilS nilS nilS ⟨#[]⟩ 0 nilS).toArray 35)).alloc (.cells #[.int .i64 0] 28)).alloc (.cells #[.slice A l.length c] 66)) (w.heap.size + 1 + 1) l := by
  have hg := GB.alloc w (m := 0) (a := 0) (R := zeros) (s := nilS) (u := nilS) (me := nilS) (x := nilS) (h := ⟨#[]⟩) rfl
  obtain ⟨w1, hw1⟩ : ∃ w1, w.alloc (.cells (gcs 0 zeros nilS nilS nilS ⟨#[]⟩ 0 nilS).toArray 35) = w1 := ⟨_, rfl⟩
  have s1 : w1.heap.size = w.heap.size + 1 := by rw [← hw1]; exact Array.size_push _
  have b1 : Below w.heap.size w w1 := by rw [← hw1]; exact below_alloc (Below.refl _ w) _
  rw [hw1] at hg ⊢
  have e2 : Boxed (w1.alloc (.cells #[.int .i64 0] 28)) w1.heap.size 28 (.int .i64 0) := Boxed.new w1 28 _
  have g2 := hg.tch (Tch.alloc (fun _ => False) w1 (.cells #[.int .i64 0] 28)) id
  obtain ⟨w2, hw2⟩ : ∃ w2, w1.alloc (.cells #[.int .i64 0] 28) = w2 := ⟨_, rfl⟩
  have s2 : w2.heap.size = w.heap.size + 1 + 1 := by rw [← hw2, ← s1]; exact Array.size_push _
  have b2 : Below w.heap.size w w2 := by rw [← hw2]; exact b1.alloc b1.size _
  rw [hw2] at e2 g2 ⊢
  rw [s1] at e2
  have e3 : Boxed (w2.alloc (.cells #[.slice A l.length c] 66)) w2.heap.size 66 (.slice A l.length c) := Boxed.new w2 66 _
  rw [s2] at e3
  refine ⟨⟨b2.alloc b2.size _, g2.tch (Tch.alloc (fun _ => False) w2 _) id, (Tch.alloc (fun _ => False) w2 _).boxed e2 id⟩, by omega, _, e3, A, c, rfl, hc, hr⟩
theorem run_loadVar_addr {P : Program} (w : World) (ad : Addr) (ty : TypeId) (cs : List Value) (d : TypeDesc) (hc : ∀ j v, cs[j]? = some v → w.cell? (ad.add j) = some v)
    (hu : P.underlying ty = some d) (hd : d.isRow = true) (hi : (P.info? ty).map (·.size) = some cs.length) :
    (loadVar ty ad).run P w = .ok (.agg cs.toArray) w := by
  have hl : (loadCells ad cs.length).run P w = .ok cs.toArray w := run_loadCells_list (P := P) w ad cs hc
  cases hq : P.info? ty with
  | none => simp [hq] at hi
  | some i =>
    have hs : i.size = cs.length := by simpa [hq] using hi
    have hagg : (isAgg ty).run P w = .ok true w := by
      unfold isAgg
      rw [Sem.run_bind, run_underlying hu w]
      cases d <;> simp_all
    simp [loadVar, Sem.run_bind, hagg, sizeOf, typeInfo, hq, hs, hl]
theorem wpList_load_addr {P : Program} {ops : Array Oper} {rest : List Oper} {op : Oper} {a : Act} {w : World} {Q : Exit → Act → World → Prop} (hgd : op.guard = none) (ty : TypeId) (x : Operand) (ho : op.op = .load ty x)
    (ad : Addr) (hx : a.eval x = .pointer (some ad)) (cs : List Value) (d : TypeDesc) (hc : ∀ j v, cs[j]? = some v → w.cell? (ad.add j) = some v)
    (hu : P.underlying ty = some d) (hd : d.isRow = true) (hi : (P.info? ty).map (·.size) = some cs.length)
    (h : wpList P ops Q rest (a.put op.dst (.agg cs.toArray)) w) : wpList P ops Q (op :: rest) a w :=
  wpList_plain hgd fun _ hK => by
    unfold Oper.wp execOp
    simp only [ho, hx, Instr.loadAt, Instr.sureAddr, Sem.run_bind, Sem.run_pure, Result.andThen_ok, run_loadVar_addr w ad ty cs d hc hu hd hi]
    exact hK _ _ h
theorem cellsB_len (l : List UInt8) : (cellsB l).length = l.length := by simp [cellsB, numsB]
theorem cellsB_one (l : List UInt8) : ∀ v ∈ cellsB l, v.oneCell' = true := by
  intro v hv
  simp only [cellsB, List.mem_map] at hv
  obtain ⟨x, _, rfl⟩ := hv
  rfl
theorem cellsB_at {W : World} {A : Option Addr} {l : List UInt8} (hr : Kd.C (Kd.int .u8) W A l.length (numsB l)) (hl : 0 < l.length) : ∃ ad, A = some ad ∧ ∀ j v, (cellsB l)[j]? = some v → W.cell? (ad.add j) = some v := by
  obtain ⟨ad, rfl, _⟩ := Kd.at_int hr 0 (by omega) (by omega)
  refine ⟨ad, rfl, fun j v hv => ?_⟩
  have hj : j < l.length := by rw [← cellsB_len]; exact (List.getElem?_eq_some_iff.1 hv).1
  obtain ⟨ad', e, hc⟩ := Kd.at_int hr (j : Int) (by omega) (by omega)
  injection e with e
  subst e
  rw [Int.toNat_natCast] at hc
  rw [hc]
  simp only [cellsB, List.getElem?_map, Option.map_eq_some_iff] at hv
  obtain ⟨x, hx, rfl⟩ := hv
  simp [rd, List.getD, hx]
theorem info31 : (Tryd.prog.info? 31).map (·.size) = some 32 := by kernel_rfl
theorem arrayAt31 (A : Option Addr) (n c : Nat) (hn : 32 ≤ n) (W : World) : (Instr.arrayAt 31 (.slice A n c)).run Tryd.prog W = .ok (.pointer A) W := by
  have hu := run_underlying Tryd.underlying31 W
  simp [Instr.arrayAt, Sem.run_bind, hu, show ¬ n < 32 by omega]
theorem below_cur {w w' : World} {b : Nat} {l : List UInt8} (h : Cur w w' b l) : w.heap.size ≤ b := h.1
theorem Cur.lt {W w : World} {b : Nat} {l : List UInt8} (h : Cur W w b l) : b < w.heap.size := by
  obtain ⟨_, v, hv, _⟩ := h
  exact hv.lt
theorem St.below {w wr wn : World} {g eb : Nat} {m : Int} {R : List Value} {s u me : Value} {h : ByteArray} {a : Int} {x : Value} (hs : St w wr g eb m R s u me h a x) (hb : Below wr.heap.size wr wn) : St w wn g eb m R s u me h a x :=
  ⟨hs.bel.trans (hb.mono hs.bel.size), ⟨hs.gb.1, (hb.block g hs.gb.lt).trans hs.gb.2⟩, (hb.block eb hs.eb.lt).trans hs.eb⟩
theorem Cur.below {W w w' : World} {b : Nat} {l : List UInt8} (hc : Cur W w b l) (hb : Below w.heap.size w w') : Cur W w' b l := by
  obtain ⟨h0, v, hv, hr⟩ := hc
  exact ⟨h0, v, (hb.block b hv.lt).trans hv, hr⟩
theorem R_tch {α : Type} {d : Kd α} {e base : Nat} {X ok : Nat → Prop} {w w' : World} {v : Value} {xs : List α} (h : d.R e w base ok v xs) (ht : Tch X w w')
    (hx : ∀ k, X k → ∃ cells t, w.heap[k]? = some (.cells cells t (0, 0)) ∧ ∀ q, q ∈ e :: d.E → q ≠ t) : d.R e w' base ok v xs :=
  Kd.R_mono (Kd.R_step (Kd.R_bound h) (fun k hk hlt => ht.block k hlt (fun hX => by
    obtain ⟨cells, t, hc, hq⟩ := hx k hX
    obtain ⟨_, _, _, q, hqm, cells', hc'⟩ := hk
    rw [hc] at hc'
    injection hc' with hc'
    injection hc' with _ hc'
    exact hq q hqm hc'.symm))) (fun k hk => hk.1)
theorem Cur.typed {W w : World} {b : Nat} {l : List UInt8} (hc : Cur W w b l) : ∃ v, w.heap[b]? = some (.cells #[v] 66 (0, 0)) := by
  obtain ⟨_, v, hv, _⟩ := hc
  exact ⟨v, hv⟩
/-- Rows of bytes, of numbers, of extensions in memory of one's own. -/
def RwB (base : Nat) (w : World) (v : Value) (l : List UInt8) : Prop := Kd.R (Kd.int .u8) 5 w base (fun _ => True) v (numsB l)
def RwI (base : Nat) (w : World) (v : Value) (l : List Int) : Prop := Kd.R (Kd.int .i64) 3 w base (fun _ => True) v l
theorem RwB.below {base : Nat} {w w' : World} {v : Value} {l : List UInt8} (h : RwB base w v l) (hb : Below w.heap.size w w') : RwB base w' v l := Kd.R_below h hb
theorem RwI.below {base : Nat} {w w' : World} {v : Value} {l : List Int} (h : RwI base w v l) (hb : Below w.heap.size w w') : RwI base w' v l := Kd.R_below h hb
theorem RwB.cur {base : Nat} {W w w' : World} {v : Value} {l : List UInt8} {b : Nat} {q : List UInt8} (h : RwB base w v l) (ht : Tch (· = b) w w') (hc : Cur W w b q) : RwB base w' v l :=
  R_tch h ht (fun k e => by obtain ⟨u, hu⟩ := hc.typed; exact ⟨_, _, by rw [e]; exact hu, by decide⟩)
theorem RwI.cur {base : Nat} {W w w' : World} {v : Value} {l : List Int} {b : Nat} {q : List UInt8} (h : RwI base w v l) (ht : Tch (· = b) w w') (hc : Cur W w b q) : RwI base w' v l :=
  R_tch h ht (fun k e => by obtain ⟨u, hu⟩ := hc.typed; exact ⟨_, _, by rw [e]; exact hu, by decide⟩)
theorem RwB.gre {base : Nat} {w w' : World} {v : Value} {l : List UInt8} {g : Nat} {m : Int} {R : List Value} {s u me : Value} {h : ByteArray} {a : Int} {x : Value} (hr : RwB base w v l) (ht : Tch (· = g) w w') (hg : GB w g m R s u me h a x) : RwB base w' v l :=
  R_tch hr ht (fun k e => by subst e; exact ⟨_, _, hg.2, by decide⟩)
theorem RwI.gre {base : Nat} {w w' : World} {v : Value} {l : List Int} {g : Nat} {m : Int} {R : List Value} {s u me : Value} {h : ByteArray} {a : Int} {x : Value} (hr : RwI base w v l) (ht : Tch (· = g) w w') (hg : GB w g m R s u me h a x) : RwI base w' v l :=
  R_tch hr ht (fun k e => by subst e; exact ⟨_, _, hg.2, by decide⟩)
theorem pairs_one {l : List UInt8} (h : l.length = 1) : pairs l = none := by
  match l, h with
  | [_], _ => rfl
theorem pairs_two {l : List UInt8} (h : 2 ≤ l.length) : pairs l = (pairs (l.drop 2)).map fun r => (num (l.take 2) : Int) :: r := by
  match l, h with
  | a :: b :: r, _ => rfl
theorem info3 : (Tryd.prog.info? 3).map (fun i => (i.zero, i.size, i.bytes)) = some (some (.int .i64 0), 1, 8) := by kernel_rfl
theorem St.drew {w wr : World} {g eb : Nat} {m : Int} {R : List Value} {s u me : Value} {h : ByteArray} {a : Int} {x : Value} (hs : St w wr g eb m R s u me h a x) : St w wr.drew g eb m R s u me h a x := hs.below (below_drew (Below.refl _ _))
theorem grown_block {W w5 : World} {base : Nat} {v : Value} {sl : List Int} (hri : RwI base W v sl) (hg : W.grownBy w5 v.ownBlock) {k t : Nat} {cells : Array Value} (hk : W.heap[k]? = some (.cells cells t (0, 0))) (ht : 3 ≠ t) : w5.heap[k]? = W.heap[k]? :=
  hg.block k (Array.getElem?_eq_some_iff.1 hk).1 (Kd.R_ne hri hk ht)
theorem St.grown {w W w5 : World} {base g eb : Nat} {m : Int} {R : List Value} {s u me : Value} {h : ByteArray} {a : Int} {x v : Value} {sl : List Int} (hs : St w W g eb m R s u me h a x) (hri : RwI base W v sl) (hg : W.grownBy w5 v.ownBlock) (hb : Below w.heap.size W w5) : St w w5 g eb m R s u me h a x :=
  ⟨hs.bel.trans hb, ⟨hs.gb.1, (grown_block hri hg hs.gb.2 (by decide)).trans hs.gb.2⟩, (grown_block hri hg hs.eb (by decide)).trans hs.eb⟩
theorem Cur.grown {W0 W w5 : World} {base b : Nat} {v : Value} {sl : List Int} {l : List UInt8} (hc : Cur W0 W b l) (hri : RwI base W v sl) (hg : W.grownBy w5 v.ownBlock) : Cur W0 w5 b l := by
  obtain ⟨h0, u, hv, hr⟩ := hc
  exact ⟨h0, u, (grown_block hri hg hv (by decide)).trans hv, hr⟩
theorem RwB.grown {W w5 : World} {base base' : Nat} {v u : Value} {sl : List Int} {l : List UInt8} (hr : RwB base' W u l) (hri : RwI base W v sl) (hg : W.grownBy w5 v.ownBlock) : RwB base' w5 u l :=
  Kd.R_mono (Kd.R_step (Kd.R_bound hr) (fun k hk hlt => by
    obtain ⟨_, _, _, q, hq, cells, hc⟩ := hk
    have hq5 : q = 5 := by simpa [Kd.int, Kd.scalar] using hq
    exact grown_block hri hg hc (by rw [hq5]; decide))) (fun k hk => hk.1)
theorem pieceR_plen2 {l p r : List UInt8} {n : Nat} (h : pieceR l n = some (p, r)) (hn : n ≤ 2) : p.length ≤ 65535 := by
  unfold pieceR at h
  split at h
  · simp only [Option.some.injEq, Prod.mk.injEq] at h
    rw [← h.1, List.length_take]
    have h1 := num_lt (l.take n)
    have h2 : (256 : Nat) ^ (l.take n).length ≤ 256 ^ 2 := Nat.pow_le_pow_right (by decide) (by rw [List.length_take]; omega)
    have h3 : (256 : Nat) ^ 2 = 65536 := by decide
    omega
  · cases h
theorem allR_piece {l p : List UInt8} {n : Nat} (h : allR l n = some p) : pieceR l n = some (p, []) := by
  unfold allR at h
  split at h
  · rename_i q hq; simp only [Option.some.injEq] at h; rw [hq, h]
  · cases h
theorem allR_len {l p : List UInt8} {n : Nat} (h : allR l n = some p) (hn : n ≤ 2) : p.length ≤ 65535 := pieceR_plen2 (allR_piece h) hn
theorem namedR_len {l p : List UInt8} (h : namedR l = some p) : p.length ≤ 65535 := by
  unfold namedR at h
  split at h
  · cases h
  · split at h
    · exact allR_len h (by decide)
    · cases h
theorem num_lt2 (l : List UInt8) : num (l.take 2) < 65536 := by
  have h1 := num_lt (l.take 2)
  have h2 : (256 : Nat) ^ (l.take 2).length ≤ 256 ^ 2 := Nat.pow_le_pow_right (by decide) (by rw [List.length_take]; omega)
  have h3 : (256 : Nat) ^ 2 = 65536 := by decide
  omega
theorem kd_wf (n : Nat) (h : n < 65536) : (Lit.int .i64 ((n : Nat) : Int)).wf = true := by
  have h1 : IntKind.i64.min = -9223372036854775808 := by decide
  have h2 : IntKind.i64.max = 9223372036854775807 := by decide
  simp only [Lit.wf, h1, h2, Bool.and_eq_true, decide_eq_true_eq]
  omega
theorem extLoop_small : ∀ (n : Nat) (l : List UInt8) (es : List S59) (h : List UInt8) (a : Option Nat) (es' : List S59) (h' : List UInt8) (a' : Option Nat),
    extLoop n l es h a = some (es', h', a') → h.length ≤ 65535 → (∀ x ∈ es, (Lit.int .i64 x.f0).wf = true) → h'.length ≤ 65535 ∧ ∀ x ∈ es', (Lit.int .i64 x.f0).wf = true := by
  intro n
  induction n with
  | zero =>
    intro l es h a es' h' a' he hh hw
    cases l with
    | nil => simp only [extLoop, Option.some.injEq, Prod.mk.injEq] at he; rw [← he.1, ← he.2.1]; exact ⟨hh, hw⟩
    | cons c l => simp [extLoop] at he
  | succ n ih =>
    intro l es h a es' h' a' he hh hw
    cases l with
    | nil => simp only [extLoop, Option.some.injEq, Prod.mk.injEq] at he; rw [← he.1, ← he.2.1]; exact ⟨hh, hw⟩
    | cons c l =>
      rw [extLoop] at he
      split at he
      case isFalse => cases he
      split at he
      · cases he
      rename_i p r hp
      split at he
      · refine ih _ _ _ _ _ _ _ he hh ?_
        intro x hx
        rcases List.mem_append.mp hx with hx | hx
        · exact hw x hx
        · rw [List.mem_singleton.mp hx]
          have := num_lt2 (c :: l)
          exact kd_wf _ (by omega)
      · split at he
        case isFalse => cases he
        split at he
        · cases he
        · rename_i q hq
          exact ih _ _ _ _ _ _ _ he (namedR_len hq) hw
theorem R_greb {α : Type} {d : Kd α} {e base : Nat} {ok : Nat → Prop} {w w' : World} {v : Value} {xs : List α} {W : World} {b g : Nat} {l : List UInt8} {m : Int} {R : List Value} {s u me : Value} {h : ByteArray} {a : Int} {x : Value}
    (hr : d.R e w base ok v xs) (ht : Tch (fun k => k = b ∨ k = g) w w') (hc : Cur W w b l) (hg : GB w g m R s u me h a x) (h66 : ∀ q, q ∈ e :: d.E → q ≠ 66) (h35 : ∀ q, q ∈ e :: d.E → q ≠ 35) : d.R e w' base ok v xs :=
  R_tch hr ht (fun k e => by
    rcases e with rfl | rfl
    · obtain ⟨u, hu⟩ := hc.typed
      exact ⟨_, _, hu, h66⟩
    · exact ⟨_, _, hg.2, h35⟩)
theorem gcs_one {m a : Int} {R : List Value} {s u me x : Value} {h : ByteArray} (hR : ∀ v ∈ R, v.oneCell' = true) (h1 : s.oneCell' = true) (h2 : u.oneCell' = true) (h3 : me.oneCell' = true) (h4 : x.oneCell' = true) : (gcs m R s u me h a x).toArray.all (·.oneCell') = true :=
  all_oneCell_toArray (fun v hv => by
    simp only [gcs, List.mem_cons, List.mem_append, List.not_mem_nil, or_false] at hv
    rcases hv with rfl | hv | rfl | rfl | rfl | rfl | rfl | rfl
    · rfl
    · exact hR v hv
    · exact h1
    · exact h2
    · exact h3
    · rfl
    · rfl
    · exact h4)
/-- A greeting is laid over a greeting. -/
theorem wpList_store_gre {ops : Array Oper} {rest : List Oper} {op : Oper} {a : Act} {w : World} {Q : Exit → Act → World → Prop} (hgd : op.guard = none) (x y : Operand) (ho : op.op = .store 35 x y)
    (g : Nat) (hx : a.eval x = .pointer (some ⟨g, 0, none⟩)) {m a' m' a2 : Int} {R R' : List Value} {s u me x' s' u' me' x2 : Value} {h h' : ByteArray} (hy : a.eval y = .agg (gcs m' R' s' u' me' h' a2 x2).toArray)
    (hg : GB w g m R s u me h a' x') (hR : R'.length = 32) (h1 : (gcs m' R' s' u' me' h' a2 x2).toArray.all (·.oneCell') = true)
    (hK : ∀ w', GB w' g m' R' s' u' me' h' a2 x2 → Tch (· = g) w w' → wpList Tryd.prog ops Q rest (a.put op.dst undef) w') : wpList Tryd.prog ops Q (op :: rest) a w := by
  have hlen : (gcs m' R' s' u' me' h' a2 x2).length = 39 := by simp [gcs, hR]
  refine wpList_store_mid hgd 35 x y ho g 0 _ hx hy (by rw [List.size_toArray, hlen]; exact there_GB hg 0 39 (by omega)) (by rw [List.size_toArray, hlen]; exact info35) h1 ?_
  exact hK _ (hg.all hR) (Tch.setCells _ _ _ _)
theorem wpList_load_gre {ops : Array Oper} {rest : List Oper} {op : Oper} {a : Act} {w : World} {Q : Exit → Act → World → Prop} (hgd : op.guard = none) (x : Operand) (ho : op.op = .load 35 x)
    (g : Nat) (hx : a.eval x = .pointer (some ⟨g, 0, none⟩)) {m a' : Int} {R : List Value} {s u me x' : Value} {h : ByteArray} (hg : GB w g m R s u me h a' x')
    (hK : wpList Tryd.prog ops Q rest (a.put op.dst (.agg (gcs m R s u me h a' x').toArray)) w) : wpList Tryd.prog ops Q (op :: rest) a w :=
  wpList_load_row hgd 35 x ho g hx 35 _ (0, 0) _ hg.2 Tryd.underlying35 rfl (by rw [info35, List.size_toArray]; simp [gcs, hg.1]) hK
/-- The state behind a store into the greeting. -/
theorem St.set {w wr : World} {g eb : Nat} {m m' : Int} {R R' : List Value} {s u me s' u' me' : Value} {h h' : ByteArray} {a a' : Int} {x x' : Value} {wn : World} (hs : St w wr g eb m R s u me h a x)
    (hg : w.heap.size ≤ g) (hne : g ≠ eb) (ht : Tch (· = g) wr wn) (hn : GB wn g m' R' s' u' me' h' a' x') : St w wn g eb m' R' s' u' me' h' a' x' :=
  ⟨hs.bel.trans (ht.below hs.bel.size (fun k e => by rw [e]; exact hg)), hn, ht.boxed hs.eb (fun e => hne e.symm)⟩
set_option maxHeartbeats 8000000 in
set_option maxRecDepth 100000 in
theorem parse_calls (A : Option Addr) (c : Nat) (l : List UInt8) (w : World) (hr : Kd.C (Kd.int .u8) w A l.length (numsB l)) (hc : l.length ≤ c) (hL : LW w) :
    Calls Tryd.prog 13 #[.slice A l.length c] w (ParseP l w) := by
  have hz35 := zero35g
  have hz28 := zero28
  have HS := start13 w A c l hr hc
  obtain ⟨z35, hz⟩ : ∃ z, (gcs 0 zeros nilS nilS nilS ⟨#[]⟩ 0 nilS).toArray = z := ⟨_, rfl⟩
  rw [hz] at hz35 HS
  have hmf : ∀ (fn : Fn) (first cap : Array Value) (w : World), (Instr.makeFunc fn first cap).run Tryd.prog w = .ok (.func fn first cap) w := fun _ _ _ _ => rfl
  have HR := Lib.hid hr
  have HC := Lib.hid HS.2
  have HS := Lib.hid HS.1
  have HLW := Lib.hid hL
  have hh : parseR l = parseR l := rfl
  conv at hh => rhs; unfold parseR headR
  have HH := Lib.hid hh
  clear hr hh hL hc hz
  go_enter_defers Tryd.func13, Tryd.ntmps13
  refine Code.wp_mono (pq_leave l w w.heap.size (w.heap.size + 1) (by omega) (by omega) (by omega)) ?_
  go_wp2_with fail
  have HGe : Hid (w.heap.size + 1 < w.heap.size + 1 + 1) := Lib.hid (by omega)
  refine (number_any w _ (w.heap.size + 1 + 1) l 1 HS.out.bel HC.out (by omega)).mono ?_
  rintro e w1 ⟨ht, (⟨h1, rfl, hcur⟩ | ⟨h1, rfl⟩)⟩
  rotate_left
  · exact ⟨rfl, ⟨rfl, rfl, rfl⟩, by rw [HH.out]; simp [h1], _, _, _, _, _, _, _, _, HS.out.tch ht (by have := HGe.out; omega) (by have := HGe.out; omega) HC.out.1⟩
  have HS := Lib.hid (HS.out.tch ht (by have := HGe.out; omega) (by have := HGe.out; omega) HC.out.1)
  have H1 := Lib.hid h1
  obtain ⟨l1, hl⟩ : ∃ x, l.drop 1 = x := ⟨_, rfl⟩
  obtain ⟨n1, hn⟩ : ∃ x, num (l.take 1) = x := ⟨_, rfl⟩
  have hh := HH.out
  simp only [hl, hn] at hh
  rw [hl] at hcur
  rw [hn]
  clear HC HH
  have HC := Lib.hid hcur
  have HNn1 := Lib.hid hn
  have HH := Lib.hid hh
  clear hh hl hn h1 ht hcur
  by_cases q1 : n1 = 22
  rotate_left
  · have hz : ((n1 : Int) == 22) = false := beq_eq_false_iff_ne.mpr (by omega)
    have Q1 := Lib.hid q1
    clear q1
    go_wp2_with (go_at_call 25; refine (must_no _).mono ?_; rintro e w' ⟨rfl, rfl⟩)
    exact ⟨rfl, ⟨rfl, rfl, rfl⟩, by have := Q1.out; rw [HH.out]; simp [this], _, _, _, _, _, _, _, _, HS.out⟩
  have hh := HH.out
  rw [if_pos ⟨H1.out, q1⟩] at hh
  clear HH
  have HH := Lib.hid hh
  have hzn1 : ((n1 : Int) == 22) = true := beq_iff_eq.mpr (by omega)
  clear hh q1 H1
  go_wp2_with fail
  refine (number_any w _ (w.heap.size + 1 + 1) l1 1 HS.out.bel HC.out (by omega)).mono ?_
  rintro e w2 ⟨ht, (⟨h1, rfl, hcur⟩ | ⟨h1, rfl⟩)⟩
  rotate_left
  · exact ⟨rfl, ⟨rfl, rfl, rfl⟩, by rw [HH.out]; simp [h1], _, _, _, _, _, _, _, _, HS.out.tch ht (by have := HGe.out; omega) (by have := HGe.out; omega) HC.out.1⟩
  have HS := Lib.hid (HS.out.tch ht (by have := HGe.out; omega) (by have := HGe.out; omega) HC.out.1)
  have H1 := Lib.hid h1
  obtain ⟨l2, hl⟩ : ∃ x, l1.drop 1 = x := ⟨_, rfl⟩
  obtain ⟨n2, hn⟩ : ∃ x, num (l1.take 1) = x := ⟨_, rfl⟩
  have hh := HH.out
  simp only [hl, hn] at hh
  rw [hl] at hcur
  rw [hn]
  clear HC HH
  have HC := Lib.hid hcur
  have HNn2 := Lib.hid hn
  have HH := Lib.hid hh
  clear hh hl hn h1 ht hcur
  by_cases q1 : n2 = 3
  rotate_left
  · have hz : ((n2 : Int) == 3) = false := beq_eq_false_iff_ne.mpr (by omega)
    have Q1 := Lib.hid q1
    clear q1
    go_wp2_with (go_at_call 25; refine (must_no _).mono ?_; rintro e w' ⟨rfl, rfl⟩)
    exact ⟨rfl, ⟨rfl, rfl, rfl⟩, by have := Q1.out; rw [HH.out]; simp [this], _, _, _, _, _, _, _, _, HS.out⟩
  have hh := HH.out
  rw [if_pos ⟨H1.out, q1⟩] at hh
  clear HH
  have HH := Lib.hid hh
  have hzn2 : ((n2 : Int) == 3) = true := beq_iff_eq.mpr (by omega)
  clear hh q1 H1
  go_wp2_with (go_at_call 25; refine (must_yes _).mono ?_; rintro e w' ⟨rfl, rfl⟩)
  refine (number_any w _ (w.heap.size + 1 + 1) l2 1 HS.out.bel HC.out (by omega)).mono ?_
  rintro e w3 ⟨ht, (⟨h1, rfl, hcur⟩ | ⟨h1, rfl⟩)⟩
  rotate_left
  · exact ⟨rfl, ⟨rfl, rfl, rfl⟩, by rw [HH.out]; simp [h1], _, _, _, _, _, _, _, _, HS.out.tch ht (by have := HGe.out; omega) (by have := HGe.out; omega) HC.out.1⟩
  have HS := Lib.hid (HS.out.tch ht (by have := HGe.out; omega) (by have := HGe.out; omega) HC.out.1)
  have H1 := Lib.hid h1
  obtain ⟨l3, hl⟩ : ∃ x, l2.drop 1 = x := ⟨_, rfl⟩
  obtain ⟨n3, hn⟩ : ∃ x, num (l2.take 1) = x := ⟨_, rfl⟩
  have hh := HH.out
  simp only [hl, hn] at hh
  rw [hl] at hcur
  rw [hn]
  clear HC HH
  have HC := Lib.hid hcur
  have HNn3 := Lib.hid hn
  rw [if_pos H1.out] at hh
  have HH := Lib.hid hh
  clear hh hl hn h1 ht hcur H1
  clear hzn1 hzn2
  have hc0 := HS.out.gb.c0
  have hf0 := HS.out.gb.frozen 0
  go_wp2_with fail
  clear hc0 hf0
  obtain ⟨w4, hw4⟩ : ∃ x, w3.setCell ⟨w.heap.size, 0, none⟩ (.int .i64 n3) = x := ⟨_, rfl⟩
  have ht : Tch (· = w.heap.size) w3 w4 := by rw [← hw4]; exact Tch.setc _ _ _ _
  have hg4 := HS.out.gb.s0 n3
  rw [hw4] at hg4 ⊢
  have hs4 := HS.out.set (Nat.le_refl _) (by omega) ht hg4
  have hc4 := ht.cur HC.out (by omega)
  clear hw4 hg4 HS HC
  have HS := Lib.hid hs4
  have HC := Lib.hid hc4
  clear hs4 hc4 ht
  refine (all_any w _ (w.heap.size + 1 + 1) l3 2 HS.out.bel HC.out (by omega)).mono ?_
  rintro e w5 ⟨ht, (⟨c1, b1, h1, rfl, hcur, hb⟩ | ⟨h1, rfl⟩)⟩
  rotate_left
  · exact ⟨rfl, ⟨rfl, rfl, rfl⟩, by rw [HH.out]; simp [h1], _, _, _, _, _, _, _, _, HS.out.tch ht (by have := HGe.out; omega) (by have := HGe.out; omega) HC.out.1⟩
  have hh := HH.out
  simp only [h1] at hh
  have hlt := HC.out.lt
  have hs := HS.out.tch ht (by have := HGe.out; omega) (by have := HGe.out; omega) HC.out.1
  have hge : w.heap.size + 1 < b1 := by have := HGe.out; omega
  clear HC HH HS HGe
  have HS := Lib.hid hs
  have HC := Lib.hid hcur
  have HH := Lib.hid hh
  have HGe := Lib.hid hge
  clear hs hcur hh hge hb ht h1 hlt
  obtain ⟨A1, k1, hcell⟩ := HC.out.cell
  have hz1 : decide ((c1.length : Int) ≤ 16384) = decide (c1.length ≤ 16384) := by
    by_cases q : c1.length ≤ 16384 <;> simp [q] <;> omega
  by_cases q1 : c1.length ≤ 16384
  rotate_left
  · have hz2 : decide ((c1.length : Int) ≤ 16384) = false := decide_eq_false (by omega)
    have Q1 := Lib.hid q1
    clear q1 hz1
    go_wp2_with (go_at_call 25; refine (must_no _).mono ?_; rintro e w' ⟨rfl, rfl⟩)
    exact ⟨rfl, ⟨rfl, rfl, rfl⟩, by have := Q1.out; rw [HH.out]; simp [this], _, _, _, _, _, _, _, _, HS.out⟩
  have hz2 : decide ((c1.length : Int) ≤ 16384) = true := decide_eq_true (by omega)
  have Q1 := Lib.hid q1
  clear q1 hz1
  go_wp2_with fail
  refine (number_any w _ b1 c1 1 HS.out.bel HC.out (by omega)).mono ?_
  rintro e w6 ⟨ht, (⟨h1, rfl, hcur⟩ | ⟨h1, rfl⟩)⟩
  rotate_left
  · exact ⟨rfl, ⟨rfl, rfl, rfl⟩, by rw [HH.out]; simp [h1], _, _, _, _, _, _, _, _, HS.out.tch ht (by have := HGe.out; omega) (by have := HGe.out; omega) HC.out.1⟩
  have HS := Lib.hid (HS.out.tch ht (by have := HGe.out; omega) (by have := HGe.out; omega) HC.out.1)
  have H1 := Lib.hid h1
  obtain ⟨c2, hl⟩ : ∃ x, c1.drop 1 = x := ⟨_, rfl⟩
  obtain ⟨n4, hn⟩ : ∃ x, num (c1.take 1) = x := ⟨_, rfl⟩
  have hh := HH.out
  simp only [hl, hn] at hh
  rw [hl] at hcur
  rw [hn]
  clear HC HH
  have HC := Lib.hid hcur
  have HNn4 := Lib.hid hn
  have HH := Lib.hid hh
  clear hh hl hn h1 ht hcur
  by_cases q1 : n4 = 1
  rotate_left
  · have hz : ((n4 : Int) == 1) = false := beq_eq_false_iff_ne.mpr (by omega)
    have Q1 := Lib.hid q1
    clear q1
    go_wp2_with (go_at_call 25; refine (must_no _).mono ?_; rintro e w' ⟨rfl, rfl⟩)
    exact ⟨rfl, ⟨rfl, rfl, rfl⟩, by have := Q1.out; rw [HH.out]; simp [this], _, _, _, _, _, _, _, _, HS.out⟩
  have hh := HH.out
  rw [if_pos ⟨Q1.out, H1.out, q1⟩] at hh
  clear HH
  have HH := Lib.hid hh
  have hzn4 : ((n4 : Int) == 1) = true := beq_iff_eq.mpr (by omega)
  clear hh q1 H1
  go_wp2_with (go_at_call 25; refine (must_yes _).mono ?_; rintro e w' ⟨rfl, rfl⟩)
  clear hcell hz2 hzn4 Q1
  refine (all_any w _ b1 c2 3 HS.out.bel HC.out (by omega)).mono ?_
  rintro e w7 ⟨ht, (⟨c3, b2, h1, rfl, hcur, hb⟩ | ⟨h1, rfl⟩)⟩
  rotate_left
  · exact ⟨rfl, ⟨rfl, rfl, rfl⟩, by rw [HH.out]; simp [h1], _, _, _, _, _, _, _, _, HS.out.tch ht (by have := HGe.out; omega) (by have := HGe.out; omega) HC.out.1⟩
  have hh := HH.out
  simp only [h1] at hh
  have hlt := HC.out.lt
  have hs := HS.out.tch ht (by have := HGe.out; omega) (by have := HGe.out; omega) HC.out.1
  have hge : w.heap.size + 1 < b2 := by have := HGe.out; omega
  clear HC HH HS HGe
  have HS := Lib.hid hs
  have HC := Lib.hid hcur
  have HH := Lib.hid hh
  have HGe := Lib.hid hge
  clear hs hcur hh hge hb ht h1 hlt
  have hh := HH.out
  unfold bodyR at hh
  clear HH
  have HH := Lib.hid hh
  clear hh
  go_wp2_with fail
  refine (number_any w _ b2 c3 2 HS.out.bel HC.out (by omega)).mono ?_
  rintro e w8 ⟨ht, (⟨h1, rfl, hcur⟩ | ⟨h1, rfl⟩)⟩
  rotate_left
  · exact ⟨rfl, ⟨rfl, rfl, rfl⟩, by rw [HH.out]; simp [h1], _, _, _, _, _, _, _, _, HS.out.tch ht (by have := HGe.out; omega) (by have := HGe.out; omega) HC.out.1⟩
  have HS := Lib.hid (HS.out.tch ht (by have := HGe.out; omega) (by have := HGe.out; omega) HC.out.1)
  have H1 := Lib.hid h1
  obtain ⟨c4, hl⟩ : ∃ x, c3.drop 2 = x := ⟨_, rfl⟩
  obtain ⟨n5, hn⟩ : ∃ x, num (c3.take 2) = x := ⟨_, rfl⟩
  have hh := HH.out
  simp only [hl, hn] at hh
  rw [hl] at hcur
  rw [hn]
  clear HC HH
  have HC := Lib.hid hcur
  have HNn5 := Lib.hid hn
  have HH := Lib.hid hh
  clear hh hl hn h1 ht hcur
  by_cases q1 : n5 = 771
  rotate_left
  · have hz : ((n5 : Int) == 771) = false := beq_eq_false_iff_ne.mpr (by omega)
    have Q1 := Lib.hid q1
    clear q1
    go_wp2_with (go_at_call 25; refine (must_no _).mono ?_; rintro e w' ⟨rfl, rfl⟩)
    exact ⟨rfl, ⟨rfl, rfl, rfl⟩, by have := Q1.out; rw [HH.out]; simp [this], _, _, _, _, _, _, _, _, HS.out⟩
  have hh := HH.out
  rw [if_pos ⟨H1.out, q1⟩] at hh
  clear HH
  have HH := Lib.hid hh
  have hzn5 : ((n5 : Int) == 771) = true := beq_iff_eq.mpr (by omega)
  clear hh q1 H1
  go_wp2_with (go_at_call 25; refine (must_yes _).mono ?_; rintro e w' ⟨rfl, rfl⟩)
  clear hzn5
  refine (take_any w _ b2 c4 32 HC.out).mono ?_
  rintro e w9 ⟨ht, (⟨h1, v, rfl, hrow, hcur⟩ | ⟨h1, rfl⟩)⟩
  rotate_left
  · exact ⟨rfl, ⟨rfl, rfl, rfl⟩, by rw [HH.out]; simp [h1], _, _, _, _, _, _, _, _, HS.out.tch ht (by have := HGe.out; omega) (by have := HGe.out; omega) HC.out.1⟩
  have hh := HH.out
  rw [if_pos h1] at hh
  have hs := HS.out.tch ht (by have := HGe.out; omega) (by have := HGe.out; omega) HC.out.1
  obtain ⟨r32, hr32⟩ : ∃ x, c4.take 32 = x := ⟨_, rfl⟩
  obtain ⟨c5, hc5⟩ : ∃ x, c4.drop 32 = x := ⟨_, rfl⟩
  rw [hr32] at hrow hh
  rw [hc5] at hcur hh
  have hlen : r32.length = 32 := by rw [← hr32, List.length_take]; omega
  clear HC HH HS
  obtain ⟨A9, k9, rfl, hk9, hr9⟩ := hrow
  obtain ⟨ad9, rfl, hcells⟩ := cellsB_at (Kd.C_below hr9 hs.bel) (by omega)
  rw [hlen]
  have hs9 := arrayAt31 (some ad9) 32 k9 (by omega)
  have HS := Lib.hid hs
  have HC := Lib.hid hcur
  have HH := Lib.hid hh
  have HCells := Lib.hid hcells
  have HLen := Lib.hid hlen
  clear hs hcur hh hk9 hr9 hcells hlen hr32 hc5 h1 ht
  have hth := there_GB HS.out.gb 1 32 (by omega)
  go_wp2_with (first
    | (refine wpList_load_addr rfl 31 _ rfl ad9 rfl (cellsB r32) _ HCells.out Tryd.underlying31 rfl (by rw [cellsB_len, HLen.out]; exact info31) ?_)
    | (refine wpList_store_mid rfl 31 _ _ rfl w.heap.size 1 (cellsB r32).toArray rfl rfl (by simpa [cellsB_len, HLen.out] using hth) (by simp only [List.size_toArray, cellsB_len, HLen.out]; exact info31) (all_oneCell_toArray (cellsB_one r32)) ?_))
  clear hth hs9
  obtain ⟨w10, hw10⟩ : ∃ x, w9.setCells w.heap.size 1 (cellsB r32) = x := ⟨_, rfl⟩
  have ht : Tch (· = w.heap.size) w9 w10 := by rw [← hw10]; exact Tch.setCells _ _ _ _
  have hg4 := HS.out.gb.rand (R' := cellsB r32) (by rw [cellsB_len, HLen.out])
  rw [hw10] at hg4 ⊢
  have hs4 := HS.out.set (Nat.le_refl _) (by omega) ht hg4
  have hc4 := ht.cur HC.out (by have := HGe.out; omega)
  clear hw10 hg4 HS HC HCells HLen
  have HS := Lib.hid hs4
  have HC := Lib.hid hc4
  clear hs4 hc4 ht

  refine (piece_any w _ b2 c5 1 HS.out.bel HC.out (by omega)).mono ?_
  rintro e w11 ⟨ht, (⟨ses, c6, b3, h1, rfl, hcp, hcur, hb⟩ | ⟨h1, rfl⟩)⟩
  rotate_left
  · exact ⟨rfl, ⟨rfl, rfl, rfl⟩, by rw [HH.out]; simp [h1], _, _, _, _, _, _, _, _, HS.out.tch ht (by have := HGe.out; omega) (by have := HGe.out; omega) HC.out.1⟩
  have hh := HH.out
  simp only [h1] at hh
  have hs := HS.out.tch ht (by have := HGe.out; omega) (by have := HGe.out; omega) HC.out.1
  obtain ⟨hge_, v_, hv_, A11, k11, rfl, hcap_, hr_⟩ := hcp
  have hcell := hv_.cell
  have HCl := Lib.hid (clone_bytes A11 k11 ses w11 (Kd.C_below hr_ hs.bel) hcap_ (pieceR_plen h1 (by omega)))
  have HSz := Lib.hid hs.bel.size
  clear HC HS HH 
  have HS := Lib.hid hs
  have HC := Lib.hid hcur
  have HH := Lib.hid hh
  clear hs hcur hh hge_ hv_ hcap_ hr_ hb ht h1 
  go_wp2_with fail
  refine HCl.out.mono ?_
  rintro e w12 ⟨v12, rfl, hr_, hb_⟩
  obtain ⟨Av, cv, rfl⟩ := Kd.R_slice hr_
  have hs_ := HS.out.below hb_; have hcf := hs_.gb.c33; have hff := hs_.gb.frozen 33; have HS2 := Lib.hid hs_; have HC2 := Lib.hid (HC.out.below hb_); have HRow := Lib.hid (show RwB w.heap.size w12 (.slice Av (numsB ses).length cv) ses from Kd.R_lower hr_ HSz.out);  clear hs_ hr_ hb_
  go_wp2_with fail
  obtain ⟨x12, hx_⟩ : ∃ x, w12.setCell ⟨w.heap.size, 33, none⟩ (.slice Av (numsB ses).length cv) = x := ⟨_, rfl⟩
  have ht : Tch (· = w.heap.size) w12 x12 := by rw [← hx_]; exact Tch.setc _ _ _ _
  have hg4 := HS2.out.gb.s33 (.slice Av (numsB ses).length cv)
  rw [hx_] at hg4 ⊢
  have hs4 := HS2.out.set (Nat.le_refl _) (by omega) ht hg4
  have hc4 := ht.cur HC2.out (by have := HGe.out; omega)
  have HRow33 := Lib.hid (HRow.out.gre ht HS2.out.gb)
  clear hx_ hg4 HS HC HCl HSz HC2 hcf hff hcell HRow  
  obtain ⟨v12, hv_⟩ : ∃ v : Value, (.slice Av (numsB ses).length cv) = v := ⟨_, rfl⟩
  rw [hv_] at hs4 HRow33 ⊢
  have HS := Lib.hid hs4
  have HC := Lib.hid hc4
  clear hs4 hc4 ht HS2 hv_ 
  go_wp2_with fail
  refine (piece_any w _ b2 c6 2 HS.out.bel HC.out (by omega)).mono ?_
  rintro e w13 ⟨ht, (⟨su, c7, b5, h1, rfl, hcp, hcur, hb⟩ | ⟨h1, rfl⟩)⟩
  rotate_left
  · exact ⟨rfl, ⟨rfl, rfl, rfl⟩, by rw [HH.out]; simp [h1], _, _, _, _, _, _, _, _, HS.out.tch ht (by have := HGe.out; omega) (by have := HGe.out; omega) HC.out.1⟩
  have hh := HH.out
  simp only [h1] at hh
  have hs := HS.out.tch ht (by have := HGe.out; omega) (by have := HGe.out; omega) HC.out.1
  have hlt := HC.out.lt
  have NHRow33 := Lib.hid (HRow33.out.cur ht HC.out)
  have hge5 : w.heap.size + 1 < b5 := by have := HGe.out; omega
  have hne5 : b5 ≠ b2 := by omega
  clear HC HS HH HRow33
  have HS := Lib.hid hs
  have HC := Lib.hid hcur
  have HH := Lib.hid hh
  have HC5 := Lib.hid hcp
  have HRow33 := NHRow33
  have HGe5 := Lib.hid hge5
  have HNe5 := Lib.hid hne5
  have HSuL := Lib.hid (pieceR_plen h1 (by omega))
  clear hs hcur hh hcp hb ht h1 hlt NHRow33 hge5 hne5
  go_wp2_with fail
  go_loopw [61] (fun v61 wr => ∃ (lr : List UInt8) (sl : List Int) (x : Value), Cur w wr b5 lr ∧ St w wr w.heap.size (w.heap.size + 1) n3 (cellsB r32) v12 x nilS ⟨#[]⟩ 0 nilS ∧ RwI w.heap.size wr x sl ∧ RwB w.heap.size wr v12 ses ∧ Cur w wr b2 c7 ∧ sl.length + lr.length ≤ su.length ∧ pairs su = (pairs lr).map (sl ++ ·)) (fun _ wr => curLen wr b5)
  case atStart => exact ⟨su, [], nilS, HC5.out, HS.out, Kd.R_nil _ _ _ _ _, HRow33.out, HC.out, by simp, by simp⟩
  case round =>
    clear HS HC HC5 HRow33
    obtain ⟨lr, sl, x, hcur5, hs, hri, hrb, hcur, hlen, hpairs⟩ := hrel
    obtain ⟨A5, k5, hcell⟩ := hcur5.cell
    have HC5 := Lib.hid hcur5
    have HS := Lib.hid hs
    have HRI := Lib.hid hri
    have HRow33 := Lib.hid hrb
    have HC := Lib.hid hcur
    have HLen := Lib.hid hlen
    have HPairs := Lib.hid hpairs
    clear hcur5 hs hri hrb hcur hlen hpairs
    by_cases q0 : lr.length = 0
    · obtain rfl : lr = [] := List.eq_nil_of_length_eq_zero q0
      have hz : decide ((([] : List UInt8).length : Int) > 0) = false := rfl
      clear q0
      go_wp2_with fail
      have HH2 : Hid _ := Lib.hid HH.out
      have hh := HH2.out
      rw [show pairs su = some sl from by rw [HPairs.out]; simp [pairs]] at hh
      simp only at hh
      clear HH HH2 HPairs HC5 hcell hz
      have HH := Lib.hid hh
      clear hh
      refine (piece_any w _ b2 c7 1 HS.out.bel HC.out (by omega)).mono ?_
      rintro e w17 ⟨ht, (⟨met, c8, b6, h1, rfl, hcp, hcur, hb⟩ | ⟨h1, rfl⟩)⟩
      rotate_left
      · exact ⟨rfl, ⟨rfl, rfl, rfl⟩, by rw [HH.out]; simp [h1], _, _, _, _, _, _, _, _, HS.out.tch ht (by have := HGe.out; omega) (by have := HGe.out; omega) HC.out.1⟩
      have hh := HH.out
      simp only [h1] at hh
      have hs := HS.out.tch ht (by have := HGe.out; omega) (by have := HGe.out; omega) HC.out.1
      obtain ⟨hge_, v_, hv_, A17, k17, rfl, hcap_, hr_⟩ := hcp
      have hcell := hv_.cell
      have HCl := Lib.hid (clone_bytes A17 k17 met w17 (Kd.C_below hr_ hs.bel) hcap_ (pieceR_plen h1 (by omega)))
      have HSz := Lib.hid hs.bel.size
      have NHRow33 := Lib.hid (HRow33.out.cur ht HC.out)
      have NHRI := Lib.hid (HRI.out.cur ht HC.out)
      clear HC HS HH HRow33 HRI
      have HS := Lib.hid hs
      have HC := Lib.hid hcur
      have HH := Lib.hid hh
      have HRow33 := NHRow33
      have HRI := NHRI
      clear hs hcur hh hge_ hv_ hcap_ hr_ hb ht h1 NHRow33 NHRI
      go_wp2_with fail
      refine HCl.out.mono ?_
      rintro e w18 ⟨v18, rfl, hr_, hb_⟩
      obtain ⟨Av, cv, rfl⟩ := Kd.R_slice hr_
      have hs_ := HS.out.below hb_; have hcf := hs_.gb.c35; have hff := hs_.gb.frozen 35; have HS2 := Lib.hid hs_; have HC2 := Lib.hid (HC.out.below hb_); have HRow := Lib.hid (show RwB w.heap.size w18 (.slice Av (numsB met).length cv) met from Kd.R_lower hr_ HSz.out); have NHRow33 := Lib.hid (HRow33.out.below hb_); have NHRI := Lib.hid (HRI.out.below hb_); clear hs_ hr_ hb_
      go_wp2_with fail
      obtain ⟨x18, hx_⟩ : ∃ x, w18.setCell ⟨w.heap.size, 35, none⟩ (.slice Av (numsB met).length cv) = x := ⟨_, rfl⟩
      have ht : Tch (· = w.heap.size) w18 x18 := by rw [← hx_]; exact Tch.setc _ _ _ _
      have hg4 := HS2.out.gb.s35 (.slice Av (numsB met).length cv)
      rw [hx_] at hg4 ⊢
      have hs4 := HS2.out.set (Nat.le_refl _) (by omega) ht hg4
      have hc4 := ht.cur HC2.out (by have := HGe.out; omega)
      have HRow35 := Lib.hid (HRow.out.gre ht HS2.out.gb)
      have MHRow33 := Lib.hid (NHRow33.out.gre ht HS2.out.gb)
      have MHRI := Lib.hid (NHRI.out.gre ht HS2.out.gb)
      clear hx_ hg4 HS HC HCl HSz HC2 hcf hff hcell HRow HRow33 HRI NHRow33 NHRI
      have HRow33 := MHRow33
      have HRI := MHRI
      obtain ⟨v18, hv_⟩ : ∃ v : Value, (.slice Av (numsB met).length cv) = v := ⟨_, rfl⟩
      rw [hv_] at hs4 HRow35 ⊢
      have HS := Lib.hid hs4
      have HC := Lib.hid hc4
      clear hs4 hc4 ht HS2 hv_ MHRow33 MHRI
      go_wp2_with fail
      refine (all_any w _ b2 c8 2 HS.out.bel HC.out (by omega)).mono ?_
      rintro e w19 ⟨ht, (⟨ex, b7, h1, rfl, hcur, hb⟩ | ⟨h1, rfl⟩)⟩
      rotate_left
      · exact ⟨rfl, ⟨rfl, rfl, rfl⟩, by rw [HH.out]; simp [h1], _, _, _, _, _, _, _, _, HS.out.tch ht (by have := HGe.out; omega) (by have := HGe.out; omega) HC.out.1⟩
      have hh := HH.out
      simp only [h1] at hh
      have hlt := HC.out.lt
      have hs := HS.out.tch ht (by have := HGe.out; omega) (by have := HGe.out; omega) HC.out.1
      have hge : w.heap.size + 1 < b7 := by have := HGe.out; omega
      have NHRow33 := Lib.hid (HRow33.out.cur ht HC.out)
      have NHRow35 := Lib.hid (HRow35.out.cur ht HC.out)
      have NHRI := Lib.hid (HRI.out.cur ht HC.out)
      have HEx := Lib.hid (allR_len h1 (by decide))
      clear HC HH HS HGe HRow33 HRow35 HRI
      have HS := Lib.hid hs
      have HC := Lib.hid hcur
      have HH := Lib.hid hh
      have HGe := Lib.hid hge
      have HRow33 := NHRow33
      have HRow35 := NHRow35
      have HRI := NHRI
      clear hs hcur hh hge hb ht h1 hlt NHRow33 NHRow35 NHRI
      go_wp2_with fail
      refine (extensions_calls w _ b7 w.heap.size ex n3 0 (cellsB r32) v12 x v18 [] _ HS.out.bel HC.out HS.out.gb (Nat.le_refl _) (by have := HGe.out; omega) (by have := HEx.out; omega) rfl).mono ?_
      rintro e w20 ⟨ht, (⟨es, h, a, x20, h1, rfl, hg20, hx20⟩ | ⟨h1, rfl, h_, a_, x_, hg20⟩)⟩
      rotate_left
      · have hb20 : Below w.heap.size w w20 := HS.out.bel.trans (ht.below HS.out.bel.size (fun k e => by rcases e with rfl | rfl; exact HC.out.1; exact Nat.le_refl _))
        exact ⟨rfl, ⟨rfl, rfl, rfl⟩, by rw [HH.out]; simp [h1], _, _, _, _, _, _, _, _, ⟨hb20, hg20, ht.boxed HS.out.eb (by have := HGe.out; rintro (e | e) <;> omega)⟩⟩
      have hb20 : Below w.heap.size w w20 := HS.out.bel.trans (ht.below HS.out.bel.size (fun k e => by rcases e with rfl | rfl; exact HC.out.1; exact Nat.le_refl _))
      have hs20 : St w w20 w.heap.size (w.heap.size + 1) n3 (cellsB r32) v12 x v18 ⟨h.toArray⟩ (atI a) x20 := ⟨hb20, hg20, ht.boxed HS.out.eb (by have := HGe.out; rintro (e | e) <;> omega)⟩
      have hr33 : RwB w.heap.size w20 v12 ses := R_greb HRow33.out ht HC.out HS.out.gb (by decide) (by decide)
      have hr35 : RwB w.heap.size w20 v18 met := R_greb HRow35.out ht HC.out HS.out.gb (by decide) (by decide)
      have hri : RwI w.heap.size w20 x sl := R_greb HRI.out ht HC.out HS.out.gb (by decide) (by decide)
      have hrx : Kd.R k59 59 w20 w.heap.size (fun _ => True) x20 es := Kd.R_lower hx20 HS.out.bel.size
      obtain ⟨hsm, hwf⟩ := extLoop_small _ _ _ _ _ _ _ _ h1 (by simp) (fun x hx => by cases hx)
      have hh := HH.out
      rw [h1] at hh
      simp only at hh
      obtain ⟨As, cs, rfl⟩ := Kd.R_slice hr33
      obtain ⟨Au, cu, rfl⟩ := Kd.R_slice hri
      obtain ⟨Am, cm, rfl⟩ := Kd.R_slice hr35
      obtain ⟨Ax, cx, rfl⟩ := Kd.R_slice hrx
      clear HH HS HC HGe HRow33 HRow35 HRI HEx ht hx20 hg20 h1 hb20
      have hc37 := hs20.gb.c37
      cases a with
      | none =>
        have hz : decide ((-1 : Int) ≥ 0) = false := rfl
        rw [show atI none = -1 from rfl] at hc37
        have HS := Lib.hid hs20
        have HH := Lib.hid hh
        clear hs20 hh hr33 hr35 hri hrx hsm hwf
        go_wp2_with (go_at_call 25; refine (must_no _).mono ?_; rintro e w' ⟨rfl, rfl⟩)
        exact ⟨rfl, ⟨rfl, rfl, rfl⟩, by rw [HH.out]; simp, _, _, _, _, _, _, _, _, HS.out⟩
      | some at_ =>
        rw [show atI (some at_) = (at_ : Int) from rfl] at hc37 hs20
        have hz : decide ((at_ : Int) ≥ 0) = true := decide_eq_true (by omega)
        have hz1 : decide (0 ≤ (at_ : Int)) = true := decide_eq_true (by omega)
        have HMay := Lib.hid (may_calls n3 at_ (cellsB r32) As Au Am Ax cs cu cm cx (numsB ses) sl (numsB met) es ⟨h.toArray⟩ w20 hs20.gb.1 (by show h.toArray.size ≤ _; rw [List.size_toArray]; omega) (LW.below HLW.out hs20.bel) (Kd.R_reads' hri).2.2 (Kd.R_reads' hr35).2.2 (Kd.R_reads' hrx).2.2 (by have h1 := HLen.out; have h2 := HSuL.out; simp at h1; omega) hwf)
        have HS := Lib.hid hs20
        have HH := Lib.hid hh
        have HR33 := Lib.hid hr33
        have HR35 := Lib.hid hr35
        have HRI := Lib.hid hri
        have HRX := Lib.hid hrx
        clear hs20 hh hr33 hr35 hri hrx hsm hwf
        obtain ⟨mb, hmb⟩ : ∃ b, mayR n3 (numsB ses) sl (numsB met) ⟨h.toArray⟩ at_ es = b := ⟨_, rfl⟩
        rw [hmb] at HMay
        have HMb := Lib.hid hmb
        clear hmb
        go_wp2_with (first
          | ((try (refine gate_guard (by rfl) ?_; dsimp only)); refine wpList_load_row rfl 35 _ rfl w.heap.size rfl 35 _ (0, 0) _ HS.out.gb.2 Tryd.underlying35 rfl (by rw [info35]; simp [gcs, HS.out.gb.1]) ?_)
          | (go_at_call 32; refine HMay.out.mono ?_; rintro e w21 ⟨rfl, hb21⟩))
        have GB21 := HS.out.gb
        have hb0 := hb21
        cases mb with
        | false =>
          refine (must_no _).mono ?_
          rintro e w' ⟨rfl, rfl⟩
          refine ⟨rfl, ⟨rfl, rfl, rfl⟩, ?_, _, _, _, _, _, _, _, _, HS.out.below hb21⟩
          rw [HH.out]
          exact if_neg (fun hq => by have h2 := hq.2; unfold mayG at h2; simp only [show atI (some at_) = (at_ : Int) from rfl, HMb.out] at h2; cases h2)
        | true =>
          refine (must_yes _).mono ?_
          rintro e w22 ⟨rfl, rfl⟩
          have HS21 := Lib.hid (HS.out.below hb21)
          have HR33b := Lib.hid (RwB.below HR33.out hb21)
          have HR35b := Lib.hid (RwB.below HR35.out hb21)
          have HRIb := Lib.hid (RwI.below HRI.out hb21)
          have HRXb := Lib.hid (Kd.R_below HRX.out hb21)
          have ez : ∀ l : List Value, l.toArray.toList = l := fun _ => rfl
          clear HS HR33 HR35 HRI HRX hb21 hb0 GB21 hc37 hz hz1 HMay
          clear ez
          go_wp2_with (first
            | (refine wpList_load_gre rfl _ rfl w.heap.size rfl HS21.out.gb ?_)
            | (refine wpList_store_gre rfl _ _ rfl w.heap.size rfl rfl HS21.out.gb HS21.out.gb.1 (gcs_one (cellsB_one r32) rfl rfl rfl rfl) ?_
               intro wb hg2 ht2
               have hs2 := HS21.out.set (Nat.le_refl _) (by omega) ht2 hg2
               have hr33 := RwB.gre HR33b.out ht2 HS21.out.gb
               have hr35 := RwB.gre HR35b.out ht2 HS21.out.gb
               have hri := RwI.gre HRIb.out ht2 HS21.out.gb
               have hrx : Kd.R k59 59 wb w.heap.size (fun _ => True) (.slice Ax es.length cx) es := R_tch HRXb.out ht2 (fun k e => by subst e; exact ⟨_, _, HS21.out.gb.2, by decide⟩)
               have hec := hs2.eb.cell
               have hef := hs2.eb.frozen
               have HS22 := Lib.hid hs2
               have HR33c := Lib.hid hr33
               have HR35c := Lib.hid hr35
               have HRIc := Lib.hid hri
               have HRXc := Lib.hid hrx
               clear ht2 hg2 hs2 hr33 hr35 hri hrx))
          have hte := Tch.set wb (w.heap.size + 1) (.int .i64 0)
          have htyp : ∀ k, k = w.heap.size + 1 → ∃ cells t, wb.heap[k]? = some (.cells cells t (0, 0)) ∧ t = 28 := fun k e => by subst e; exact ⟨_, _, HS22.out.eb, rfl⟩
          refine ⟨⟨rfl, rfl, rfl⟩, ⟨n3, r32, ses, sl, met, h, some at_, es⟩, _, _, _, _, ?_, ⟨HS22.out.bel.trans (hte.below HS22.out.bel.size (fun k e => by omega)), HS22.out.gb.tch hte (by omega), HS22.out.eb.set _⟩, ?_, ?_, ?_, ?_⟩
          · rw [HH.out]
            exact if_pos ⟨rfl, HMb.out⟩
          · exact R_tch HR33c.out hte (fun k e => by obtain ⟨c_, t_, hc_, rfl⟩ := htyp k e; exact ⟨_, _, hc_, by decide⟩)
          · exact R_tch HRIc.out hte (fun k e => by obtain ⟨c_, t_, hc_, rfl⟩ := htyp k e; exact ⟨_, _, hc_, by decide⟩)
          · exact R_tch HR35c.out hte (fun k e => by obtain ⟨c_, t_, hc_, rfl⟩ := htyp k e; exact ⟨_, _, hc_, by decide⟩)
          · exact R_tch HRXc.out hte (fun k e => by obtain ⟨c_, t_, hc_, rfl⟩ := htyp k e; exact ⟨_, _, hc_, by decide⟩)
    have hz1 : decide ((lr.length : Int) > 0) = true := decide_eq_true (by omega)
    have hz0 : decide (0 < lr.length) = true := decide_eq_true (by omega)
    obtain ⟨Ax, cx, rfl⟩ := Kd.R_slice HRI.out
    have hc34 := HS.out.gb.c34
    have hf34 := HS.out.gb.frozen 34
    by_cases q1 : lr.length = 1
    · have HN : Hid (∀ wx : World, Cur w wx b5 lr → Calls Tryd.prog 26 #[.pointer (some ⟨b5, 0, none⟩), .int .i64 2] wx fun e w' => e = .panicked thrown ∧ w' = wx) := Lib.hid (fun wx hc => number_bad w wx b5 lr 2 hc (by omega))
      have Q1 := Lib.hid q1
      clear q0 q1
      go_wp2_with fail
      (first | go_region_dies | fail)
      all_goals
        refine (HN.out _ HC5.out.drew_).mono ?_
        rintro e w' ⟨rfl, rfl⟩
        exact ⟨rfl, ⟨rfl, rfl, rfl⟩, by rw [HH.out, HPairs.out, pairs_one Q1.out]; rfl, _, _, _, _, _, _, _, _, HS.out.drew⟩
    have hr2 : 2 ≤ lr.length := by omega
    obtain ⟨n6, hn6⟩ : ∃ n, num (lr.take 2) = n := ⟨_, rfl⟩
    obtain ⟨lq, hlq⟩ : ∃ q, lr.drop 2 = q := ⟨_, rfl⟩
    have HN : Hid (∀ wx : World, Below w.heap.size w wx → Cur w wx b5 lr → Calls Tryd.prog 26 #[.pointer (some ⟨b5, 0, none⟩), .int .i64 2] wx fun e w' => e = .returned (.int .i64 n6) ∧ Cur w w' b5 lq ∧ Tch (· = b5) wx w') := Lib.hid (fun wx hb hc => by
      have := number_ok w wx b5 lr 2 hb hc hr2 (by omega)
      rw [hn6, hlq] at this
      exact this)
    have HP2 : Hid (pairs su = (pairs lq).map ((sl ++ [(n6 : Int)]) ++ ·)) := Lib.hid (by
      rw [HPairs.out, pairs_two hr2, hn6, hlq, Option.map_map]
      congr 1
      funext r
      simp)
    have hlq2 : lq.length + 2 = lr.length := by rw [← hlq, List.length_drop]; omega
    have HLq := Lib.hid hlq2
    have HLr : Hid (curLen wr b5 = lr.length) := Lib.hid (curLen_eq HC5.out)
    have HSl : Hid (sl.length + 1 ≤ 16777216) := Lib.hid (by have h1 := HSuL.out; have h2 := HLen.out; omega)
    have hg5 : ¬ (w.heap.size = b5) := by have := HGe5.out; omega
    have hglt := HS.out.gb.lt
    have HX : Hid (sl.length ≤ 9223372036854775806) := Lib.hid (by have h1 := HSl.out; omega)
    clear q0 q1 hn6 hlq hlq2
    go_wp2_with fail
    (first
      | go_region_law
          (first
            | (go_simp; go_at_call 26; refine (HN.out _ HS.out.drew.bel HC5.out.drew_).mono ?_; rintro e w14 ⟨rfl, hc14, ht14⟩
               have hs14 := HS.out.drew.tch ht14 hg5 (by have := HGe5.out; omega) HC5.out.1
               have hc34b := hs14.gb.c34
               have hc34a : (w14.alloc (.cells #[.int .i64 n6] 3)).cell? ⟨w.heap.size, 34, none⟩ = some (.slice Ax sl.length cx) := (below_cell (below_alloc (Below.refl _ w14) _) hs14.gb.lt 34).trans hc34b
               have HRI14 := Lib.hid ((RwI.below HRI.out (below_drew (Below.refl _ wr))).cur ht14 HC5.out.drew_)
               have HRB14 := Lib.hid ((RwB.below HRow33.out (below_drew (Below.refl _ wr))).cur ht14 HC5.out.drew_)
               have HC14 := Lib.hid (ht14.cur (HC.out.drew_) (fun e => HNe5.out e.symm))
               have HS14 := Lib.hid hs14
               have HC514 := Lib.hid hc14
               clear hs14 hc14 ht14)
            | (refine Kd.R_append_step (Kd.int .i64) (w0 := w14) w.heap.size ?hw (.tmp 63) (.tmp 66) 32 3 (.int .i64 0) 8 rfl Tryd.underlying32 info3 rfl (by decide) (by decide) (.slice Ax sl.length cx) sl (n6 : Int) [.int .i64 n6] (fun _ => True) (fun _ => False) rfl rfl ?hp (fun _ hk => hk.elim) (fun _ _ => trivial) ?HO ?HB ?hbase ?hl ?_
               case hw => rfl
               case hp => rfl
               case HO => exact HRI14.out
               case HB => exact Below.refl _ _
               case hbase => exact HS14.out.bel.size
               case hl => exact (by have h1 := HSl.out; omega)
               intro v15 w15 ho hb hg hat
               obtain ⟨A15, k15, rfl⟩ := Kd.R_slice ho
               have hs15 := HS14.out.grown HRI14.out hg hb
               have hc34c := hs15.gb.c34
               have hf34c := hs15.gb.frozen 34
               have HS15 := Lib.hid hs15
               have HC515 := Lib.hid (HC514.out.grown HRI14.out hg)
               have HC15 := Lib.hid (HC14.out.grown HRI14.out hg)
               have HRB15 := Lib.hid (HRB14.out.grown HRI14.out hg)
               have HRI15 := Lib.hid (show RwI w.heap.size w15 (.slice A15 (sl ++ [(n6 : Int)]).length k15) (sl ++ [(n6 : Int)]) from ho)
               clear hs15 ho hb hg hat))
      | fail)
    all_goals
      obtain ⟨w16, hw16⟩ : ∃ x, w15.setCell ⟨w.heap.size, 34, none⟩ (.slice A15 (sl.length + 1) k15) = x := ⟨_, rfl⟩
      have elen : (sl ++ [(n6 : Int)]).length = sl.length + 1 := by simp
      have ht16 : Tch (· = w.heap.size) w15 w16 := by rw [← hw16]; exact Tch.setc _ _ _ _
      have hri15 := HRI15.out
      rw [elen] at hri15
      have hs16 := HS15.out.set (Nat.le_refl _) (by omega) ht16 (by rw [← hw16]; exact HS15.out.gb.s34 (.slice A15 (sl.length + 1) k15))
      have hc516 := ht16.cur HC515.out (by have := HGe5.out; omega)
      have hc16 := ht16.cur HC15.out (by have := HGe.out; omega)
      have hri16 := RwI.gre hri15 ht16 HS15.out.gb
      have hrb16 := RwB.gre HRB15.out ht16 HS15.out.gb
      rw [hw16]
      go_wp2
      go_roundw
      case rel => exact ⟨lq, sl ++ [(n6 : Int)], _, hc516, hs16, hri16, hrb16, hc16, by rw [elen]; have h1 := HLen.out; have h2 := HLq.out; omega, HP2.out⟩
      case measure =>
        rw [curLen_eq hc516, HLr.out]
        have h2 := HLq.out
        omega
end Go.Proofs.YtjcocepmmjmckaaDoor.PHello
/- hello.Sni (15). -/
set_option linter.unusedVariables false
set_option linter.unusedSimpArgs false
namespace Go.Proofs.YtjcocepmmjmckaaDoor.PHello
open Go.RowKit Go.Proofs.YtjcocepmmjmckaaDoorW.PrintWords Go.Proofs.YtjcocepmmjmckaaDoorW.PrintLast Go.Proofs.YtjcocepmmjmckaaDoorW.PrintMore

theorem bodyR_h {m : Int} {l : List UInt8} {G : Gr} (h : bodyR m l = some G) : G.h.length ≤ 65535 := by
  unfold bodyR at h
  repeat' split at h
  all_goals first
    | (cases h; done)
    | (rename_i he
       simp only [Option.some.injEq] at h
       subst h
       exact (extLoop_small _ _ _ _ _ _ _ _ he (by simp) (fun x hx => by cases hx)).1)
theorem headR_h {l : List UInt8} {G : Gr} (h : headR l = some G) : G.h.length ≤ 65535 := by
  unfold headR at h
  repeat' split at h
  all_goals first
    | (cases h; done)
    | exact bodyR_h h
theorem parseR_head {l : List UInt8} {G : Gr} (h : parseR l = some G) : headR l = some G ∧ G.a.isSome = true ∧ mayG G = true := by
  unfold parseR at h
  split at h
  · cases h
  · rename_i g hg
    split at h
    · rename_i hc
      simp only [Option.some.injEq] at h
      subst h
      exact ⟨hg, hc⟩
    · cases h
theorem parseR_h {l : List UInt8} {G : Gr} (h : parseR l = some G) : G.h.length ≤ 65535 := headR_h (parseR_head h).1
/-- What Sni answers. -/
def sniR (l : List UInt8) : ByteArray × Int :=
  match parseR l with
  | some G => ((hplain ⟨G.h.toArray⟩).1, 0)
  | none => (⟨#[]⟩, 70)
theorem headR_R {l : List UInt8} {G : Gr} (h : headR l = some G) : G.R.length = 32 := by
  unfold headR at h
  repeat' split at h
  all_goals first
    | (cases h; done)
    | (unfold bodyR at h
       repeat' split at h
       all_goals first
         | (cases h; done)
         | (simp only [Option.some.injEq] at h
            subst h
            show (List.take 32 _).length = 32
            rw [List.length_take]
            omega))
theorem zeros_len : zeros.length = 32 := rfl
theorem zeros_one : ∀ v ∈ zeros, v.oneCell' = true := by intro v hv; rw [List.eq_of_mem_replicate hv]; rfl
theorem parse_no (A : Option Addr) (c : Nat) (l : List UInt8) (w : World) (hr : Kd.C (Kd.int .u8) w A l.length (numsB l)) (hc : l.length ≤ c) (hL : LW w) (hn : parseR l = none) :
    Calls Tryd.prog 13 #[.slice A l.length c] w fun e w' => e = .returned (.tuple #[.agg (gcs 0 zeros nilS nilS nilS ⟨#[]⟩ 0 nilS).toArray, .int .i64 70]) ∧ Below w.heap.size w w' :=
  (parse_calls A c l w hr hc hL).mono fun e w' h => by
    obtain ⟨hb, ⟨G, s, u, me, x, h1, _⟩ | ⟨_, he⟩⟩ := h
    · rw [hn] at h1; cases h1
    · exact ⟨he, hb⟩
/-- A greeting value whose rows are the call's own. -/
def GrVal (w' : World) (base : Nat) (G : Gr) (e : Ending) : Prop :=
  ∃ (As Au Am Ax : Option Addr) (cs cu cm cx : Nat), e = .returned (.tuple #[.agg (gcs G.m (cellsB G.R) (.slice As (numsB G.ses).length cs) (.slice Au G.sui.length cu) (.slice Am (numsB G.met).length cm) ⟨G.h.toArray⟩ (atI G.a) (.slice Ax G.es.length cx)).toArray, .int .i64 0]) ∧
    GrRows w' base G (.slice As (numsB G.ses).length cs) (.slice Au G.sui.length cu) (.slice Am (numsB G.met).length cm) (.slice Ax G.es.length cx)
theorem parse_yes (A : Option Addr) (c : Nat) (l : List UInt8) (w : World) (hr : Kd.C (Kd.int .u8) w A l.length (numsB l)) (hc : l.length ≤ c) (hL : LW w) (G : Gr) (hn : parseR l = some G) :
    Calls Tryd.prog 13 #[.slice A l.length c] w fun e w' => GrVal w' w.heap.size G e ∧ Below w.heap.size w w' :=
  (parse_calls A c l w hr hc hL).mono fun e w' h => by
    obtain ⟨hb, ⟨G', s, u, me, x, h1, rfl, hrw⟩ | ⟨h1, _⟩⟩ := h
    · rw [hn] at h1
      simp only [Option.some.injEq] at h1
      subst h1
      obtain ⟨As, cs, rfl⟩ := Kd.R_slice hrw.1
      obtain ⟨Au, cu, rfl⟩ := Kd.R_slice hrw.2.1
      obtain ⟨Am, cm, rfl⟩ := Kd.R_slice hrw.2.2.1
      obtain ⟨Ax, cx, rfl⟩ := Kd.R_slice hrw.2.2.2
      exact ⟨⟨As, Au, Am, Ax, cs, cu, cm, cx, rfl, hrw⟩, hb⟩
    · rw [hn] at h1; cases h1
set_option maxHeartbeats 4000000 in
set_option maxRecDepth 100000 in
theorem sni_calls (A : Option Addr) (c : Nat) (l : List UInt8) (w : World) (hr : Kd.C (Kd.int .u8) w A l.length (numsB l)) (hc : l.length ≤ c) (hL : LW w) :
    Calls Tryd.prog 15 #[.slice A l.length c] w fun e w' => e = .returned (.tuple #[.string (sniR l).1, .int .i64 (sniR l).2]) ∧ Below w.heap.size w w' := by
  have hz35 := zero35g
  have HLW := Lib.hid hL
  cases hp : parseR l with
  | none =>
    have hs : sniR l = (⟨#[]⟩, 70) := by unfold sniR; rw [hp]
    rw [hs]
    have HP := Lib.hid (parse_no A c l w hr hc hL hp)
    clear hs hp hr hc hL
    go_enter Tryd.func15, Tryd.ntmps15
    go_wp2_with (first
      | (go_at_call 13; refine HP.out.mono ?_; rintro e w1 ⟨rfl, hb⟩
         obtain ⟨w2, hw2⟩ : ∃ w2, w1.alloc (.cells (gcs 0 zeros nilS nilS nilS ⟨#[]⟩ 0 nilS).toArray 35) = w2 := ⟨_, rfl⟩
         have hg2 : GB w2 w1.heap.size 0 zeros nilS nilS nilS ⟨#[]⟩ 0 nilS := by rw [← hw2]; exact GB.alloc w1 zeros_len
         have hb2 : Below w.heap.size w w2 := by rw [← hw2]; exact hb.alloc hb.size _
         have HG := Lib.hid hg2
         have HB := Lib.hid hb2
         have HSz := Lib.hid hb.size
         clear hb hg2 hb2)
      | (refine wpList_store_gre rfl _ _ rfl w1.heap.size rfl rfl HG.out zeros_len (gcs_one zeros_one rfl rfl rfl rfl) ?_
         intro w3 hg3 ht3
         have HB3 := Lib.hid (HB.out.trans (ht3.below HB.out.size (fun k e => by rw [e]; exact HSz.out)))
         clear hg3 ht3))
    go_ret2
    exact ⟨rfl, HB3.out⟩
  | some G =>
    have hh := parseR_h hp
    have hR := headR_R (parseR_head hp).1
    have hs : sniR l = ((hplain ⟨G.h.toArray⟩).1, 0) := by unfold sniR; rw [hp]
    rw [hs]
    have HP := Lib.hid (parse_yes A c l w hr hc hL G hp)
    have HPl : Hid (∀ w1, LW w1 → Calls Tryd.prog 40 #[.string ⟨G.h.toArray⟩] w1 fun e w' => e = .returned (.tuple #[.string (hplain ⟨G.h.toArray⟩).1, .bool (hplain ⟨G.h.toArray⟩).2]) ∧ Below w1.heap.size w1 w') :=
      Lib.hid (fun w1 h1 => plain_calls _ w1 (by show G.h.toArray.size ≤ _; rw [List.size_toArray]; omega) h1)
    obtain ⟨hs', hhs⟩ : ∃ q, (⟨G.h.toArray⟩ : ByteArray) = q := ⟨_, rfl⟩
    have HHs := Lib.hid hhs
    have HR := Lib.hid hR
    clear hs hp hr hc hL hh hR hhs
    go_enter Tryd.func15, Tryd.ntmps15
    go_wp2_with (first
      | (go_at_call 13; refine HP.out.mono ?_; rintro e w1 ⟨⟨As, Au, Am, Ax, cs, cu, cm, cx, rfl, hrw⟩, hb⟩
         obtain ⟨w2, hw2⟩ : ∃ w2, w1.alloc (.cells (gcs 0 zeros nilS nilS nilS ⟨#[]⟩ 0 nilS).toArray 35) = w2 := ⟨_, rfl⟩
         have hg2 : GB w2 w1.heap.size 0 zeros nilS nilS nilS ⟨#[]⟩ 0 nilS := by rw [← hw2]; exact GB.alloc w1 zeros_len
         have hb2 : Below w.heap.size w w2 := by rw [← hw2]; exact hb.alloc hb.size _
         have HG := Lib.hid hg2
         have HB := Lib.hid hb2
         have HSz := Lib.hid hb.size
         clear hb hg2 hb2 hrw)
      | (refine wpList_store_gre rfl _ _ rfl w1.heap.size rfl rfl HG.out (by rw [cellsB_len, HR.out]) (gcs_one (cellsB_one G.R) rfl rfl rfl rfl) ?_
         intro w3 hg3 ht3
         have hb3 := HB.out.trans (ht3.below HB.out.size (fun k e => by rw [e]; exact HSz.out))
         have hc36 := hg3.c36
         have HB3 := Lib.hid hb3
         clear hg3 ht3 hb3)
      | (go_at_call 40; refine (HPl.out _ (LW.below HLW.out HB3.out)).mono ?_; rintro e w4 ⟨rfl, hb4⟩
         have HB4 := Lib.hid (HB3.out.trans (hb4.mono HB3.out.size))
         clear hb4))
    go_ret2
    exact ⟨rfl, HB4.out⟩
end Go.Proofs.YtjcocepmmjmckaaDoor.PHello
/- hello.row (47): a number in so many bytes. -/
set_option linter.unusedVariables false
set_option linter.unusedSimpArgs false
namespace Go.Proofs.YtjcocepmmjmckaaDoor.PHello
open Go.RowKit Go.Proofs.YtjcocepmmjmckaaDoorW.PrintWords Go.Proofs.YtjcocepmmjmckaaDoorW.PrintLast Go.Proofs.YtjcocepmmjmckaaDoorW.PrintMore

/-- The first j of a number's k bytes, the greatest first. -/
def rowP (k n j : Nat) : List UInt8 := (List.range j).map fun i => UInt8.ofNat (n / 256 ^ (k - 1 - i))
/-- A number in k bytes. -/
def rowB (k n : Nat) : List UInt8 := rowP k n k
theorem rowP_succ (k n j : Nat) : rowP k n (j + 1) = rowP k n j ++ [UInt8.ofNat (n / 256 ^ (k - 1 - j))] := by simp [rowP, List.range_succ]
theorem rowP_len (k n j : Nat) : (rowP k n j).length = j := by simp [rowP]
theorem rowB_len (k n : Nat) : (rowB k n).length = k := rowP_len k n k
theorem numsB_snoc (l : List UInt8) (b : UInt8) : numsB (l ++ [b]) = numsB l ++ [(b.toNat : Int)] := by simp [numsB]
theorem byte_at (n m : Nat) : ((UInt8.ofNat (n / 256 ^ m)).toNat : Int) = ((n : Int) / 2 ^ (8 * m)) % 256 := by
  have h : (256 : Nat) ^ m = 2 ^ (8 * m) := by rw [Nat.pow_mul]
  rw [h]
  simp
theorem pow_at (k j : Nat) (hj : j < k) : (8 * ((k : Int) - 1 - (j : Int))).toNat = 8 * (k - 1 - j) := by omega
set_option maxHeartbeats 4000000 in
set_option maxRecDepth 100000 in
theorem row_calls (n k : Nat) (w : World) (hn : n ≤ 9223372036854775807) (hk : k ≤ 3) :
    Calls Tryd.prog 47 #[.int .i64 n, .int .i64 k] w fun e w' => ∃ v, e = .returned v ∧ RwB w.heap.size w' v (rowB k n) ∧ Below w.heap.size w w' := by
  go_enter Tryd.func47, Tryd.ntmps47
  go_wp2
  go_loopw [7, 4] (fun v7 v4 wr => ∃ j : Nat, v7 = .int .i64 j ∧ j ≤ k ∧ RwB w.heap.size wr v4 (rowP k n j) ∧ Below w.heap.size w wr) (fun i _ _ => k - (intOf i).toNat)
  case atStart => exact ⟨0, rfl, Nat.zero_le _, Kd.R_nil _ _ _ _ _, Below.refl _ _⟩
  case round =>
    obtain ⟨j, rfl, hj, hr, hb⟩ := hrel
    have HR := Lib.hid hr
    have HB := Lib.hid hb
    clear hr hb
    by_cases hlt : j < k
    · have h0 : 0 ≤ (k : Int) - 1 - (j : Int) := by omega
      have h1 : (k : Int) - 1 - (j : Int) ≤ 2 := by omega
      have h2 : 0 ≤ 8 * ((k : Int) - 1 - (j : Int)) := by omega
      have h3 : 8 * ((k : Int) - 1 - (j : Int)) ≤ 64 := by omega
      obtain ⟨Av, cv, rfl⟩ := Kd.R_slice HR.out
      have HV : Hid ((n : Int) / 2 ^ (8 * (k - 1 - j)) % 256 = ((UInt8.ofNat (n / 256 ^ (k - 1 - j))).toNat : Int)) := Lib.hid (byte_at n _).symm
      go_wp2_with (at_builtin; refine Kd.R_append (Kd.int .u8) (w0 := w) w.heap.size rfl (.tmp 10) (.tmp 19) 25 5 (.int .u8 0) 1 rfl Tryd.underlying25 info5 rfl (by decide) (by decide) (.slice Av (numsB (rowP k n j)).length cv) (numsB (rowP k n j)) ((n : Int) / 2 ^ (8 * (k - 1 - j)) % 256) [.int .u8 ((n : Int) / 2 ^ (8 * (k - 1 - j)) % 256)] (fun _ => True) (fun _ => False) rfl rfl rfl (fun _ hk => hk.elim) (fun _ _ => trivial) HR.out HB.out HB.out.size (by rw [numsB_len, rowP_len]; omega) ?_
                   intro v5 w5 ho hb hg hat
                   obtain ⟨A5, c5, rfl⟩ := Kd.R_slice ho
                   have HO := Lib.hid ho
                   have HB5 := Lib.hid hb
                   clear ho hb hg hat)
      go_roundw
      case rel =>
        refine ⟨j + 1, by go_num, by omega, ?_, HB5.out⟩
        have h5 := HO.out
        rw [HV.out, ← numsB_snoc, ← rowP_succ] at h5
        have e5 : (numsB (rowP k n j) ++ [(n : Int) / 2 ^ (8 * (k - 1 - j)) % 256]).length = (numsB (rowP k n (j + 1))).length := by rw [HV.out, ← numsB_snoc, ← rowP_succ]
        first
          | exact h5
          | (simp only [List.length_append, List.length_singleton] at h5 e5 ⊢; rw [e5]; exact h5)
      case measure => simp [intOf]; omega
    · obtain rfl : j = k := by omega
      go_wp2
      go_ret
      exact ⟨_, rfl, HR.out, HB.out⟩
end Go.Proofs.YtjcocepmmjmckaaDoor.PHello
/- slices.Grow (72) of no bytes, slices.Concat (60), hello.piece (44). -/
set_option linter.unusedVariables false
set_option linter.unusedSimpArgs false
namespace Go.Proofs.YtjcocepmmjmckaaDoor.PHello
open Go.RowKit Go.Proofs.YtjcocepmmjmckaaDoorW.PrintWords Go.Proofs.YtjcocepmmjmckaaDoorW.PrintLast Go.Proofs.YtjcocepmmjmckaaDoorW.PrintMore

open Go.Lib in
set_option maxHeartbeats 4000000 in
set_option maxRecDepth 100000 in
theorem grow_calls (n : Nat) (w : World) (hn : n ≤ 140737488355328) :
    Calls Tryd.prog 72 #[.slice none 0 0, .int .i64 n] w fun e w' => ∃ v, e = .returned v ∧ RwB w.heap.size w' v [] ∧ Below w.heap.size w w' := by
  obtain ⟨i0, hi0, hz0, hs0, hb0⟩ := info_parts info5
  have h1 : ¬ ((n : Int) < 0) := by omega
  by_cases h0 : n = 0
  · subst h0
    go_enter Tryd.func72, Tryd.ntmps72
    go_wp2
    go_ret
    exact ⟨_, rfl, Kd.R_nil _ _ _ _ _, Below.refl _ _⟩
  have h4 : (n : Int) > 0 := by omega
  have hold : (Builtin.firstCells i0.size 0 (.slice none 0 0)).run Tryd.prog w.drew = .ok #[] w.drew := run_firstCells_none w.drew i0.size 0 0 0
  have hrz : ∀ ty, (Builtin.append_ #[25, 3] ty #[.slice none 0 0, .int .i64 (n : Int)]).run Tryd.prog w =
      .ok (.slice (some ⟨w.heap.size, 0, none⟩) n (grownCap w n 0 5)) (w.drew.alloc (.cells (#[] ++ Builtin.zeroCells (Value.int .u8 0).cells n ++ Builtin.zeroCells (Value.int .u8 0).cells (grownCap w n 0 5 - n)) 5)) := fun ty => by
    have h := Lib.run_append_grow_zeros w 25 3 ty 5 i0 (.int .u8 0) .i64 .i64 Tryd.underlying25 Tryd.underlying3 hi0 hz0 none 0 0 [] hold n (by omega) (by omega) (by omega) (by omega) (by rw [hb0]; omega) (by rw [hb0, Nat.zero_add]; exact growslice_fits (by omega) (by omega))
    rw [Nat.zero_add] at h
    exact h
  have hGn : n ≤ grownCap w n 0 5 := grownCap_ge w _ _ _
  have hGm : grownCap w n 0 5 ≤ maxLen := grownCap_le_maxLen w n 0 5 (by unfold maxLen; omega)
  obtain ⟨G, hG⟩ : ∃ G, G = grownCap w n 0 5 := ⟨_, rfl⟩
  rw [← hG] at hrz hGn hGm
  have hG63 : G ≤ 9223372036854775807 := by unfold maxLen at hGm; omega
  have hrow : RwB w.heap.size (w.drew.alloc (.cells (#[] ++ Builtin.zeroCells (Value.int .u8 0).cells n ++ Builtin.zeroCells (Value.int .u8 0).cells (G - n)) 5)) (.slice (some ⟨w.heap.size, 0, none⟩) 0 G) [] := by
    refine Kd.R_of_own (enc := Value.int .u8) ?_ (fun _ _ => trivial)
    exact World.ownsRow_made w.drew _ G (Nat.le_refl _) hGm (by simp [Builtin.zeroCells, Value.cells]; omega)
  have hbel : Below w.heap.size w (w.drew.alloc (.cells (#[] ++ Builtin.zeroCells (Value.int .u8 0).cells n ++ Builtin.zeroCells (Value.int .u8 0).cells (G - n)) 5)) := below_alloc (below_drew (Below.refl _ _)) _
  obtain ⟨W1, hW1⟩ : ∃ W1, w.drew.alloc (.cells (#[] ++ Builtin.zeroCells (Value.int .u8 0).cells n ++ Builtin.zeroCells (Value.int .u8 0).cells (G - n)) 5) = W1 := ⟨_, rfl⟩
  rw [hW1] at hrz hrow hbel
  have HR := Lib.hid hrow
  have HB := Lib.hid hbel
  clear hrow hbel hold hG hW1 hGm h0
  go_enter Tryd.func72, Tryd.ntmps72
  go_wp2_with (at_builtin; refine Lib.wpList_append_run _ rfl _ _ _ _ rfl _ _ rfl rfl _ _ (hrz _) ?_)
  go_ret
  exact ⟨_, rfl, HR.out, HB.out⟩
/-- Rows of bytes that are read. -/
def RdLL (w : World) (A : Option Addr) (ls : List (List UInt8)) : Prop := Kd.C (Kd.slice 5 (Kd.int .u8)) w A ls.length (ls.map numsB)
def lenAll (ls : List (List UInt8)) : Nat := ls.flatten.length
theorem lenAll_snoc (ls : List (List UInt8)) (x : List UInt8) : lenAll (ls ++ [x]) = lenAll ls + x.length := by simp [lenAll]
theorem lenAll_take (ls : List (List UInt8)) (j : Nat) (hj : j < ls.length) : lenAll (ls.take (j + 1)) = lenAll (ls.take j) + ls[j].length := by
  rw [List.take_succ_eq_append_getElem hj, lenAll_snoc]
theorem lenAll_le (ls : List (List UInt8)) (j : Nat) : lenAll (ls.take j) ≤ lenAll ls := by
  have h := congrArg List.length (show (ls.take j).flatten ++ (ls.drop j).flatten = ls.flatten by rw [← List.flatten_append, List.take_append_drop])
  rw [List.length_append] at h
  unfold lenAll
  omega
theorem numsB_app (a b : List UInt8) : numsB (a ++ b) = numsB a ++ numsB b := by simp [numsB]
theorem rdLL_at {w : World} {A : Option Addr} {ls : List (List UInt8)} (h : RdLL w A ls) (j : Nat) (hj : j < ls.length) :
    ∃ ad A0 c0, A = some ad ∧ w.cell? (ad.add j) = some (.slice A0 ls[j].length c0) ∧ ls[j].length ≤ c0 ∧ Kd.C (Kd.int .u8) w A0 ls[j].length (numsB ls[j]) := by
  obtain ⟨ad, A0, c0, e, hc, hl, hr⟩ := at_L3 h (j : Int) (by omega) (by omega)
  have hrd : rd_L3 (ls.map numsB) (j : Int) = numsB ls[j] := by simp [rd_L3, List.getD, hj]
  rw [hrd, numsB_len] at hc hl hr
  rw [Int.toNat_natCast] at hc
  exact ⟨ad, A0, c0, e, hc, hl, hr⟩
set_option maxHeartbeats 4000000 in
set_option maxRecDepth 100000 in
theorem concat_calls (A : Option Addr) (c : Nat) (ls : List (List UInt8)) (w : World) (hr : RdLL w A ls) (hc : ls.length ≤ c) (hl : lenAll ls ≤ 140737488355328) :
    Calls Tryd.prog 60 #[.slice A ls.length c] w fun e w' => ∃ v, e = .returned v ∧ RwB w.heap.size w' v ls.flatten ∧ Below w.heap.size w w' := by
  have HR := Lib.hid hr
  have HL := Lib.hid hl
  have hm : ls.length ≤ 9223372036854775807 := hr.2.1
  clear hr hl
  go_enter Tryd.func60, Tryd.ntmps60
  go_wp2
  go_loopw [11, 3] (fun v11 v3 wr => ∃ j : Nat, v11 = .int .i64 j ∧ j ≤ ls.length ∧ v3 = .int .i64 (lenAll (ls.take j)) ∧ wr = w) (fun i _ _ => ls.length - (intOf i).toNat)
  case atStart => exact ⟨0, rfl, Nat.zero_le _, by simp [lenAll], rfl⟩
  case round =>
    obtain ⟨j, rfl, hj, rfl, hw⟩ := hrel
    have hw' := hw.symm
    subst hw'
    by_cases hlt : j < ls.length
    · obtain ⟨ad, A0, c0, eA, hcell, hc0, hr0⟩ := rdLL_at HR.out j hlt
      have hji : (j : Int) < (ls.length : Int) := by omega
      have ht := lenAll_take ls j hlt
      have hle := lenAll_le ls (j + 1)
      have hL := HL.out
      obtain ⟨q, hq⟩ : ∃ q, ls[j].length = q := ⟨_, rfl⟩
      obtain ⟨t, htt⟩ : ∃ t, lenAll (ls.take j) = t := ⟨_, rfl⟩
      rw [hq] at hcell ht
      rw [htt] at ht
      rw [htt]
      have HT := Lib.hid ht
      have hb1 : t + q ≤ 140737488355328 := by omega
      have hneg : ¬ ((t : Int) + (q : Int) < 0) := by omega
      clear hr0 hc0 ht hle hL hq htt
      subst eA
      go_wp2
      refine ⟨⟨j + 1, by go_num, by omega, ?_, trivial⟩, by simp [intOf]; omega⟩
      rw [HT.out]
      congr 1
    · obtain rfl : j = ls.length := by omega
      rw [List.take_length]
      have hL := HL.out
      obtain ⟨t, htt⟩ : ∃ t, lenAll ls = t := ⟨_, rfl⟩
      rw [htt] at hL ⊢
      have HTt := Lib.hid htt
      clear htt
      go_wp2_with (go_at_call 72; refine (grow_calls t _ hL).mono ?_; rintro e w1 ⟨v1, rfl, hr1, hb1⟩; have HR1 := Lib.hid hr1; have HB1 := Lib.hid hb1; clear hr1 hb1)
      go_loopw [27, 6] (fun v27 v6 wq => ∃ j : Nat, v27 = .int .i64 j ∧ j ≤ ls.length ∧ RwB w.heap.size wq v6 (ls.take j).flatten ∧ Below w.heap.size w wq) (fun i _ _ => ls.length - (intOf i).toNat)
      case atStart => exact ⟨0, rfl, Nat.zero_le _, HR1.out, HB1.out⟩
      case round =>
        clear HR1 HB1
        obtain ⟨j, rfl, hj2, hrv, hbv⟩ := hrel
        have HRv := Lib.hid hrv
        have HBv := Lib.hid hbv
        clear hrv hbv
        by_cases hlt2 : j < ls.length
        · obtain ⟨ad, A0, c0, eA, hcell, hc0, hr0⟩ := rdLL_at (Kd.C_below HR.out HBv.out) j hlt2
          have hji : (j : Int) < (ls.length : Int) := by omega
          have ht := lenAll_take ls j hlt2
          have hle := lenAll_le ls (j + 1)
          have hfl : (ls.take (j + 1)).flatten = (ls.take j).flatten ++ ls[j] := by rw [List.take_succ_eq_append_getElem hlt2, List.flatten_append]; simp only [List.flatten_cons, List.flatten_nil, List.append_nil]
          obtain ⟨q, hq⟩ : ∃ q, ls[j] = q := ⟨_, rfl⟩
          rw [hq] at hcell ht hr0 hc0 hfl
          have HFl := Lib.hid hfl
          have HR0 := Lib.hid hr0
          have HLen : Hid (((numsB (ls.take j).flatten).length + q.length) * 1 ≤ 140737488355328) := Lib.hid (by
            rw [numsB_len]
            have h1 : (ls.take j).flatten.length = lenAll (ls.take j) := rfl
            have h2 := HTt.out
            omega)
          obtain ⟨Av, cv, rfl⟩ := Kd.R_slice HRv.out
          clear hr0 hc0 ht hle hfl hq
          subst eA
          go_wp2_with (at_builtin; refine Kd.R_append_rows (Kd.int .u8) (w0 := w) w.heap.size rfl (.tmp 31) (.tmp 32) 25 5 (.int .u8 0) 1 rfl Tryd.underlying25 info5 rfl (by decide) (by decide) (.slice Av (numsB (ls.take j).flatten).length cv) (numsB (ls.take j).flatten) (numsB q) _ _ _ (fun _ => True) (fun _ => False) rfl rfl HRv.out HR0.out (fun _ _ h => h) (fun _ h => h.elim) (fun _ _ => trivial) HBv.out HBv.out.size HLen.out ?_
                       intro v5 w5 ho hb hg hat
                       rw [← numsB_app] at ho
                       obtain ⟨A5, c5, rfl⟩ := Kd.R_slice ho
                       have HO := Lib.hid ho
                       have HB5 := Lib.hid hb
                       clear ho hb hg hat)
          go_roundw
          case rel =>
            refine ⟨j + 1, by go_num, by omega, ?_, HB5.out⟩
            rw [HFl.out]
            exact HO.out
          case measure => simp [intOf]; omega
        · obtain rfl : j = ls.length := by omega
          rw [List.take_length] at HRv
          go_wp2
          go_ret
          exact ⟨_, rfl, HRv.out, HBv.out⟩
/-- How many bytes there are, in k bytes, and these. -/
def pcB (k : Nat) (b : List UInt8) : List UInt8 := rowB k b.length ++ b
set_option maxHeartbeats 4000000 in
set_option maxRecDepth 100000 in
theorem hpiece_calls (k : Nat) (A : Option Addr) (c : Nat) (ls : List (List UInt8)) (w : World) (hk : k ≤ 3) (hr : RdLL w A ls) (hc : ls.length ≤ c) (hl : lenAll ls ≤ 70368744177664) :
    Calls Tryd.prog 44 #[.int .i64 k, .slice A ls.length c] w fun e w' => ∃ v, e = .returned v ∧ RwB w.heap.size w' v (pcB k ls.flatten) ∧ Below w.heap.size w w' := by
  have HC := Lib.hid (concat_calls A c ls w hr hc (by omega))
  obtain ⟨f, hf⟩ : ∃ f, ls.flatten = f := ⟨_, rfl⟩
  have hfl : f.length ≤ 70368744177664 := by rw [← hf]; exact hl
  rw [hf] at HC ⊢
  have HW := Lib.hid (fun w1 => row_calls f.length k w1 (by omega) hk)
  clear hr hc hl hf
  go_enter Tryd.func44, Tryd.ntmps44
  go_wp2_with (first
    | (go_at_call 60; refine HC.out.mono ?_; rintro e w1 ⟨v1, rfl, hr1, hb1⟩; obtain ⟨A1, c1, rfl⟩ := Kd.R_slice hr1; rw [numsB_len] at hr1 ⊢; have HR1 := Lib.hid (show RwB w.heap.size w1 (.slice A1 f.length c1) f from hr1); have HB1 := Lib.hid hb1; clear hr1 hb1)
    | (go_at_call 47; refine (HW.out _).mono ?_; rintro e w2 ⟨v2, rfl, hr2, hb2⟩; obtain ⟨A2, c2, rfl⟩ := Kd.R_slice hr2; have HR2 := Lib.hid (show RwB w.heap.size w2 (.slice A2 (numsB (rowB k f.length)).length c2) (rowB k f.length) from Kd.R_lower hr2 HB1.out.size); have HR1b := Lib.hid (HR1.out.below hb2); have HB2 := Lib.hid (HB1.out.trans (hb2.mono HB1.out.size)); clear hr2 hb2)
    | (at_builtin; refine Kd.R_append_rows (Kd.int .u8) (w0 := w) w.heap.size rfl (.tmp 11) (.tmp 12) 25 5 (.int .u8 0) 1 rfl Tryd.underlying25 info5 rfl (by decide) (by decide) (.slice A2 (numsB (rowB k f.length)).length c2) (numsB (rowB k f.length)) (numsB f) _ _ _ (fun _ => True) (fun _ => False) rfl rfl HR2.out (by have := (Kd.R_reads' HR1b.out).2.2; rw [numsB_len] at this; exact this) (fun _ _ h => h) (fun _ h => h.elim) (fun _ _ => trivial) HB2.out HB2.out.size (by rw [numsB_len, rowB_len]; omega) ?_
       intro v5 w5 ho hb hg hat
       rw [← numsB_app] at ho
       obtain ⟨A5, c5, rfl⟩ := Kd.R_slice ho
       have HO := Lib.hid ho
       have HB5 := Lib.hid hb
       clear ho hb hg hat))
  go_ret
  exact ⟨_, rfl, HO.out, HB5.out⟩
end Go.Proofs.YtjcocepmmjmckaaDoor.PHello
/- slices.Clone (46) and slices.Insert (45) of extensions. -/
set_option linter.unusedVariables false
set_option linter.unusedSimpArgs false
namespace Go.Proofs.YtjcocepmmjmckaaDoor.PHello
open Go.RowKit Go.Proofs.YtjcocepmmjmckaaDoorW.PrintWords Go.Proofs.YtjcocepmmjmckaaDoorW.PrintLast Go.Proofs.YtjcocepmmjmckaaDoorW.PrintMore

/-- A row of extensions' cells in memory of one's own. -/
abbrev RawR (base : Nat) (w : World) (v : Value) (rows : List (List Value)) : Prop := Kd.R (Kd.raw 2) 59 w base (fun _ => True) v rows
/-- These cells are these extensions, as they read in W. -/
def LinkX (W : World) (es : List S59) (rows : List (List Value)) : Prop := rows.length = es.length ∧ ∀ (j : Nat) (x : S59) (c : List Value), es[j]? = some x → rows[j]? = some c → k59.K W x c
theorem eql_nil33 (W : World) (A : Option Addr) (l c : Nat) : (binOp .eql 33 (.slice A l c) (.slice none 0 0)).run Tryd.prog W = .ok (.bool A.isNone) W := by
  simp [binOp, run_equal_slice_nil W 33 59 A l c Tryd.underlying33]
theorem k59_raw (W : World) (x : S59) (c : List Value) (h : k59.K W x c) : c.length = 2 ∧ ∀ u ∈ c, u.oneCell' = true := ⟨k59.K_len h, k59.K_one h⟩
set_option maxHeartbeats 1600000 in
set_option maxRecDepth 100000 in
theorem cloneX_calls (W w : World) (hW : Below W.heap.size W w) (A : Option Addr) (c : Nat) (es : List S59) (hr : Kd.C k59 W A es.length es) (hc : es.length ≤ c) (hl : es.length ≤ 1073741824) :
    Calls Tryd.prog 46 #[.slice A es.length c] w fun e w' => ∃ v rows, e = .returned v ∧ RawR w.heap.size w' v rows ∧ LinkX W es rows ∧ Below w.heap.size w w' := by
  cases A with
  | none =>
    have hz : es = [] := by
      cases es with
      | nil => rfl
      | cons x l => obtain ⟨a, ha, _⟩ := hr.2.2 (by simp); cases ha
    subst hz
    have heq := fun W => eql_nil33 W none 0 c
    clear hr hc hl hW
    go_enter Tryd.func46, Tryd.ntmps46
    go_wp2
    go_ret
    exact ⟨_, [], rfl, Kd.R_nil _ _ _ _ (fun _ => True), ⟨rfl, fun j x c hx => by simp at hx⟩, Below.refl _ _⟩
  | some a =>
    have heq := fun W => eql_nil33 W (some a) es.length c
    obtain ⟨news, hnl, hnr, hnf⟩ := Kd.reads_raw (W := w) (Kd.C_below hr hW) (fun x c hk => k59_raw w x c hk)
    have hnr : Kd.C (Kd.raw 2) w (some a) es.length news := hnr
    have hlink : LinkX W es news := by
      obtain ⟨news2, hnl2, hnr2, hnf2⟩ := Kd.reads_raw hr (fun x c hk => k59_raw W x c hk)
      refine ⟨hnl, fun j x c' hx hc' => ?_⟩
      have hj : j < es.length := (List.getElem?_eq_some_iff.1 hx).1
      have hj2 : j < news2.length := by rw [hnl2]; exact hj
      have h2 := hnf2 j x _ hx (List.getElem?_eq_getElem hj2)
      obtain ⟨ad, e1, hc1⟩ := hnr.2.2 (by omega)
      obtain ⟨ad2, e2, hc2⟩ := hnr2.2.2 (by omega)
      injection e1 with e1
      injection e2 with e2
      subst e1
      subst e2
      obtain ⟨q1, l1', ⟨rfl, _⟩, c1'⟩ := hc1 j _ hc'
      obtain ⟨q2, l2', ⟨rfl, _⟩, c2'⟩ := hc2 j _ (List.getElem?_eq_getElem hj2)
      have l1 : q1.length = 2 := l1'
      have l2 : (news2[j]).length = 2 := l2'
      have c1 : ∀ i u, q1[i]? = some u → w.cell? (a.add (j * 2 + i)) = some u := c1'
      have c2 : ∀ i u, (news2[j])[i]? = some u → W.cell? (a.add (j * 2 + i)) = some u := c2'
      have : q1 = news2[j] := by
        refine List.ext_getElem? fun i => ?_
        by_cases hi : i < 2
        · have hi1 : i < q1.length := by omega
          have hi2 : i < (news2[j]).length := by omega
          have a1 := c1 i _ (List.getElem?_eq_getElem hi1)
          have a2 := c2 i _ (List.getElem?_eq_getElem hi2)
          have hb : (a.add (j * 2 + i)).block < W.heap.size := World.block_lt_of_cell? W _ a2
          have a3 := (World.cell?_of_block (hW.block _ hb)).trans a2
          rw [a1] at a3
          rw [List.getElem?_eq_getElem hi1, List.getElem?_eq_getElem hi2, Option.some.inj a3]
        · rw [List.getElem?_eq_none (by omega), List.getElem?_eq_none (by omega)]
      rw [this]
      exact h2
    have HR := Lib.hid hnr
    have HL := Lib.hid hl
    have HK := Lib.hid hlink
    have HN := Lib.hid hnl
    clear hr hc hl hnr hnf hlink hnl hW
    go_enter Tryd.func46, Tryd.ntmps46
    go_wp2_with (first
      | ((with_reducible refine gate_dst (N := 5) rfl ?_); refine Kd.R_lit (Kd.raw 2) w.heap.size 59 ?hg (N := 5) ?hd (xs := ([] : List (List Value))) (inner := []) (ok := fun _ => True) (okp := fun _ => True) ?hr (Reps.none _ _) (fun _ hk => hk) trivial (Below.refl _ _) (Nat.le_refl _) (by simp) ?_; (case hd => rfl); (case hg => rfl); (case hr => first | (go_simp; done) | (go_simp; rfl)); intro v5 w5 ho hb hg_ hnew_; have HO := Lib.hid ho; have HB := Lib.hid hb; clear ho hb hg_ hnew_)
      | ((with_reducible refine gate_builtin (b := .append) (xs := #[.tmp 5, .tmp 6]) rfl ?_); at_builtin; refine Kd.R_append_rows (Kd.raw 2) (w0 := w) w.heap.size rfl (.tmp 5) (.tmp 6) 33 59 (.agg #[.int .i64 0, .slice none 0 0]) 32 rfl Tryd.underlying33 info59 rfl (by decide) (by omega) v5 ([] : List (List Value)) news _ _ _ (fun _ => True) (fun _ => False) rfl rfl ?aO ?aR (fun _ _ h => h) (fun _ h => h.elim) ?aF ?aB ?aS ?aL ?_; (case aR => exact Kd.C_below HR.out HB.out); (case aB => exact HB.out); (case aF => exact (fun _ _ => trivial)); (case aO => exact HO.out); (case aS => exact HB.out.size); (case aL => have := HL.out; simp only [List.length_nil]; omega); intro v7 w7 ho hb hg hat; rw [List.nil_append] at ho; have HO7 := Lib.hid ho; have HB7 := Lib.hid hb; clear ho hb hg hat))
    go_ret
    exact ⟨_, news, rfl, HO7.out, HK.out, HB7.out⟩
/-- Where an element is put in. -/
def putIn (rows : List (List Value)) (i : Nat) (x : List Value) : List (List Value) := rows.take i ++ x :: rows.drop i
/-- Rows out of their cells. -/
theorem rawC_of {w : World} {g n : Nat} {rows : List (List Value)} {T : List Value} (hn : rows.length = n) (hm : n ≤ 9223372036854775807) (h2 : ∀ (j : Nat) (p : List Value), rows[j]? = some p → p.length = 2 ∧ (∀ u ∈ p, u.oneCell' = true) ∧ ∀ (i : Nat) (u : Value), p[i]? = some u → T[j * 2 + i]? = some u)
    (hT : ∀ (j : Nat) (u : Value), T[j]? = some u → w.cell? ⟨g, j, none⟩ = some u) : Kd.C (Kd.raw 2) w (some ⟨g, 0, none⟩) n rows := by
  refine ⟨hn, hm, fun _ => ⟨_, rfl, fun j p hj => ?_⟩⟩
  obtain ⟨h3, h4, h5⟩ := h2 j p hj
  refine ⟨p, h3, ⟨rfl, h3, h4⟩, fun i u hu => ?_⟩
  have := hT _ _ (h5 i u hu)
  have e : (⟨g, 0, none⟩ : Addr).add (j * (Kd.raw 2).sz + i) = ⟨g, j * 2 + i, none⟩ := by
    show (⟨g, 0, none⟩ : Addr).add (j * 2 + i) = _
    rw [Addr.add_lit, Nat.zero_add]
  rw [e]
  exact this
/-- The cells of rows with one put in. -/
theorem putIn_cells {rows : List (List Value)} {inner : List Value} (hr : Reps (fun (x cs : List Value) => cs = x ∧ cs.length = 2 ∧ ∀ u ∈ cs, u.oneCell' = true) 2 rows inner) (i : Nat) (hi : i ≤ rows.length) (n0 n1 : Value) (h0 : n0.oneCell' = true) (h1 : n1.oneCell' = true) :
    ∀ (j : Nat) (p : List Value), (putIn rows i [n0, n1])[j]? = some p → p.length = 2 ∧ (∀ u ∈ p, u.oneCell' = true) ∧ ∀ (k : Nat) (u : Value), p[k]? = some u → (inner.take (i * 2) ++ [n0, n1] ++ inner.drop (i * 2))[j * 2 + k]? = some u := by
  have hlen : inner.length = rows.length * 2 := hr.1
  have htl : (inner.take (i * 2)).length = i * 2 := by rw [List.length_take]; omega
  have hrl : (rows.take i).length = i := by rw [List.length_take]; omega
  have old : ∀ (j : Nat) (p : List Value), rows[j]? = some p → p.length = 2 ∧ (∀ u ∈ p, u.oneCell' = true) ∧ ∀ (k : Nat) (u : Value), p[k]? = some u → inner[j * 2 + k]? = some u := by
    intro j p hj
    obtain ⟨e, h3, h4⟩ := hr.2 j p hj
    have e' : (inner.drop (j * 2)).take 2 = p := e
    rw [e] at h3 h4
    refine ⟨h3, h4, fun k u hu => ?_⟩
    rw [← e', List.getElem?_take] at hu
    split at hu
    · rwa [List.getElem?_drop] at hu
    · cases hu
  intro j p hj
  unfold putIn at hj
  by_cases hji : j < i
  · rw [List.getElem?_append_left (by omega), List.getElem?_take, if_pos hji] at hj
    obtain ⟨h3, h4, h5⟩ := old j p hj
    refine ⟨h3, h4, fun k u hu => ?_⟩
    have hk : k < 2 := by rw [← h3]; exact (List.getElem?_eq_some_iff.1 hu).1
    rw [List.append_assoc, List.getElem?_append_left (by omega), List.getElem?_take, if_pos (by omega)]
    exact h5 k u hu
  · by_cases hje : j = i
    · subst hje
      rw [List.getElem?_append_right (by omega), hrl, Nat.sub_self] at hj
      simp only [List.getElem?_cons_zero, Option.some.injEq] at hj
      subst hj
      refine ⟨rfl, fun u hu => ?_, fun k u hu => ?_⟩
      · simp only [List.mem_cons, List.not_mem_nil, or_false] at hu
        rcases hu with rfl | rfl
        · exact h0
        · exact h1
      · have hk : k < 2 := (List.getElem?_eq_some_iff.1 hu).1
        rw [List.append_assoc, List.getElem?_append_right (by omega), htl, List.getElem?_append_left (by simp; omega)]
        rw [show j * 2 + k - j * 2 = k by omega]
        exact hu
    · rw [List.getElem?_append_right (by omega), hrl] at hj
      obtain ⟨q, hq⟩ : ∃ q, j - i = q + 1 := ⟨j - i - 1, by omega⟩
      rw [hq, List.getElem?_cons_succ, List.getElem?_drop] at hj
      obtain ⟨h3, h4, h5⟩ := old (i + q) p hj
      refine ⟨h3, h4, fun k u hu => ?_⟩
      rw [List.getElem?_append_right (by simp only [List.length_append, htl, List.length_cons, List.length_nil]; omega)]
      simp only [List.length_append, htl, List.length_cons, List.length_nil]
      rw [List.getElem?_drop]
      have := h5 k u hu
      rw [← this]
      congr 1
      omega
theorem run_copy_cells2 (w : World) (dT sT ty elem : TypeId) (b o dLen dCap : Nat) (a : Addr) (sLen sCap m : Nat) (cs : List Value)
    (hu : Tryd.prog.underlying dT = some (.slice elem)) (hs : (Tryd.prog.info? elem).map (·.size) = some 2) (hm : Nat.min sLen dLen = m) (hn : cs.length = m * 2)
    (hsrc : ∀ j v, cs[j]? = some v → w.cell? (a.add j) = some v) (hc : ∀ j, j < cs.length → (w.cell? ⟨b, o + j, none⟩).isSome = true) (hf : ∀ j, j < cs.length → w.frozen? ⟨b, o + j, none⟩ = false) (h1 : ∀ v ∈ cs, v.oneCell' = true) :
    (Builtin.copy_ #[dT, sT] ty #[.slice (some ⟨b, o, none⟩) dLen dCap, .slice (some a) sLen sCap]).run Tryd.prog w = .ok (goInt m) (w.setCells b o cs) := by
  have hl := run_loadCells_list (P := Tryd.prog) w a cs hsrc
  have hst := run_storeCells_cells (P := Tryd.prog) b o cs 0 w (by simpa using hc) (by simpa using hf) h1
  cases hq : Tryd.prog.info? elem with
  | none => simp [hq] at hs
  | some i =>
    have hi : i.size = 2 := by simpa [hq] using hs
    simp [Builtin.copy_, run_underlying hu, Builtin.lenOf, Builtin.firstCells, sizeOf, typeInfo, hq, hi, hm, ← hn, hl, hst]
theorem wpList_copy_runH {ops : Array Oper} {rest : List Oper} {o : Oper} {a : Act} {w : World} {Q : Exit → Act → World → Prop} (hgd : o.guard = none) (d s : Operand) (t t' : TypeId)
    (ho : o.op = .call { callee := .builtin .copy, args := #[d, s], argTypes := #[t, t'] }) (v u : Value) (hd : a.eval d = v) (hs : a.eval s = u) {v' : Value} {w' : World}
    (hr : (Builtin.copy_ #[t, t'] o.type #[v, u]).run Tryd.prog w = .ok v' w') (h : wpList Tryd.prog ops Q rest (a.put o.dst v') w') : wpList Tryd.prog ops Q (o :: rest) a w :=
  wpList_plain hgd fun _ hK => by
    unfold Oper.wp execOp
    simp only [ho, resolve, invoke, builtin, Sem.run_bind, Sem.run_pure, Result.andThen_ok, List.map_toArray, List.map_cons, List.map_nil, hd, hs, hr]
    exact hK _ _ h
theorem step_copy_runH {ops : Array Oper} {o : Oper} {a : Act} {w : World} {K : Act → World → Prop} {Q : Exit → Act → World → Prop} {E : Prop}
    (hg : o.guard = none) (d x : Operand) (dT sT : TypeId) (hop : o.op = Op.call { callee := Callee.builtin Builtin.copy, args := #[d, x], argTypes := #[dT, sT] })
    (v u : Value) (hd : a.eval d = v) (hx : a.eval x = u) {v' : Value} {w' : World} (hr : (Builtin.copy_ #[dT, sT] o.type #[v, u]).run Tryd.prog w = .ok v' w') (hK : K (a.put o.dst v') w') :
    if Region.wanted o (yielded ops a.tmps) = true then Oper.wp Tryd.prog o a w K Q else E := by
  have hw : Region.wanted o (yielded ops a.tmps) = true := by simp [Region.wanted, hg]
  rw [if_pos hw]
  unfold Oper.wp
  simp [execOp, hop, resolve, invoke, builtin, hd, hx, hr, Result.andThen]
  exact hK
theorem isSome_setCellsH (b : Nat) (vs : List Value) (o : Nat) (w : World) (h : ∀ j, j < vs.length → (w.cell? ⟨b, o + j, none⟩).isSome = true) (k : Nat) (hk : (w.cell? ⟨b, k, none⟩).isSome = true) : ((w.setCells b o vs).cell? ⟨b, k, none⟩).isSome = true := by
  by_cases hin : o ≤ k ∧ k < o + vs.length
  · have := World.cell?_setCells_in b vs o w h (k - o) (by omega)
    rw [show o + (k - o) = k by omega] at this
    rw [this]; rfl
  · rw [World.cell?_setCells_out b vs o w ⟨b, k, none⟩ (fun _ _ => by show k < o ∨ o + vs.length ≤ k; omega)]
    exact hk
theorem info59s : (Tryd.prog.info? 59).map (·.size) = some 2 := by kernel_rfl
/-- A part of a row of extensions. -/
theorem cut33 (A : Option Addr) (n c j : Nat) (hj : j ≤ n) (hc : ¬ (c = j)) (W : World) : (Instr.slice 33 (.slice A n c) (some (.int .i64 j)) none none).run Tryd.prog W = .ok (.slice (A.map (·.add (j * 2))) (n - j) (c - j)) W := by
  obtain ⟨i0, hi0, hz0, hs0, hb0⟩ := info_parts info59
  have := cut_from (P := Tryd.prog) 33 59 .i64 Tryd.underlying33 hi0 2 hs0 A n c (j : Int) (by omega) (by omega) W
  rw [Int.toNat_natCast, if_neg hc] at this
  exact this
set_option maxHeartbeats 4000000 in
set_option maxRecDepth 100000 in
theorem insert_end (w0 w : World) (base : Nat) (v : Value) (rows : List (List Value)) (n0 n1 : Value) (vb : Nat) (hB : Below base w0 w) (hbase : base ≤ w.heap.size) (hR : RawR base w v rows) (hl : rows.length ≤ 1073741824)
    (hv : w.heap[vb]? = some (.cells #[n0, n1] 59 (0, 0))) (h0 : n0.oneCell' = true) (h1 : n1.oneCell' = true) :
    Calls Tryd.prog 45 #[v, .int .i64 rows.length, .slice (some ⟨vb, 0, none⟩) 1 1] w fun e w' => ∃ A c, e = .returned (.slice A (rows.length + 1) c) ∧ rows.length + 1 ≤ c ∧ Kd.C (Kd.raw 2) w' A (rows.length + 1) (putIn rows rows.length [n0, n1]) ∧ Below base w0 w' := by
  obtain ⟨A, c, rfl⟩ := Kd.R_slice hR
  have hnc : rows.length ≤ c := (Kd.R_reads' hR).2.1
  have hsl : ∀ W, (Instr.slice 33 (.slice A rows.length c) (some (.int .i64 rows.length)) none none).run Tryd.prog W = .ok (.slice (if c = rows.length then A else A.map (·.add (rows.length * 2))) (rows.length - rows.length) (c - rows.length)) W := by
    obtain ⟨i0, hi0, hz0, hs0, hb0⟩ := info_parts info59
    intro W
    have := cut_from (P := Tryd.prog) 33 59 .i64 Tryd.underlying33 hi0 2 hs0 A rows.length c (rows.length : Int) (by omega) (by omega) W
    rw [Int.toNat_natCast] at this
    exact this
  have hc2 : Kd.C (Kd.raw 2) w (some ⟨vb, 0, none⟩) 1 [[n0, n1]] := by
    refine rawC_of (T := [n0, n1]) rfl (by decide) (fun j p hj => ?_) (fun j u hu => ?_)
    · match j, hj with
      | 0, hj =>
        simp only [List.getElem?_cons_zero, Option.some.injEq] at hj
        subst hj
        refine ⟨rfl, fun u hu => ?_, fun i u hu => by simpa using hu⟩
        simp only [List.mem_cons, List.not_mem_nil, or_false] at hu
        rcases hu with rfl | rfl
        · exact h0
        · exact h1
    · rw [cell_of_row w vb j #[n0, n1] 59 (0, 0) hv]
      simpa using hu
  have HR := Lib.hid hR
  have HC := Lib.hid hc2
  have HB := Lib.hid hB
  have HBs := Lib.hid hbase
  have HL := Lib.hid hl
  have hput : putIn rows rows.length [n0, n1] = rows ++ [[n0, n1]] := by simp [putIn]
  rw [hput]
  clear hR hc2 hB hbase hl hv h0 h1 hput
  obtain ⟨n, hn⟩ : ∃ n, rows.length = n := ⟨_, rfl⟩
  rw [hn] at hsl hnc ⊢
  have HN := Lib.hid hn
  obtain ⟨vq, hvq⟩ : ∃ vq, (if c = n then A else A.map (·.add (n * 2))) = vq := ⟨_, rfl⟩
  rw [hvq] at hsl
  clear hvq
  have hm : n ≤ 1073741824 := by have := HL.out; omega
  clear hn
  go_enter Tryd.func45, Tryd.ntmps45
  go_wp2_with (at_builtin; refine Kd.R_append_rows (Kd.raw 2) (w0 := w0) base rfl (.tmp 23) (.tmp 24) 33 59 (.agg #[.int .i64 0, .slice none 0 0]) 32 rfl Tryd.underlying33 info59 rfl (by decide) (by omega) (.slice A n c) rows [[n0, n1]] _ _ _ (fun _ => True) (fun _ => False) rfl rfl (by have := HR.out; rw [HN.out] at this; exact this) HC.out (fun _ _ h => h) (fun _ h => h.elim) (fun _ _ => trivial) HB.out HBs.out (by have := HN.out; omega) ?_
               intro v7 w7 ho hb hg hat
               obtain ⟨A7, c7, rfl⟩ := Kd.R_slice ho
               have elen : (rows ++ [[n0, n1]]).length = n + 1 := by rw [List.length_append, HN.out]; rfl
               rw [elen] at ho ⊢
               have HO7 := Lib.hid ho
               have HB7 := Lib.hid hb
               have HE := Lib.hid elen
               clear ho hb hg hat elen)
  go_ret
  obtain ⟨q1, q2, q3⟩ := Kd.R_reads' HO7.out
  rw [HE.out] at q3
  exact ⟨A7, c7, rfl, q2, q3, HB7.out⟩
end Go.Proofs.YtjcocepmmjmckaaDoor.PHello
