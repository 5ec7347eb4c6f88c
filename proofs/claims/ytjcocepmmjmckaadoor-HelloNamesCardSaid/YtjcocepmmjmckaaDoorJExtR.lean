/- hello's cursor: must, take, number, piece, all. -/
import Derived.Test.YtjcocepmmjmckaaDoorJHsB
import Derived.RangeFuncBox
import Derived.WalkLawsBesides
import Derived.Lib.EndianBits
import Derived.Lib.Hide
set_option linter.unusedVariables false
set_option linter.unusedSimpArgs false
namespace Go.Proofs.YtjcocepmmjmckaaDoor.PHello
open Go.RowKit Go.Proofs.YtjcocepmmjmckaaDoorW.PrintWords Go.Proofs.YtjcocepmmjmckaaDoorW.PrintLast Go.Proofs.YtjcocepmmjmckaaDoorW.PrintMore

/-- What is thrown. -/
abbrev thrown : List PanicEntry := [{ v := .iface 62 (.agg #[]), recovered := false }]
theorem must_no (w : World) : Calls Tryd.prog 25 #[.bool false] w fun e w' => e = .panicked thrown ∧ w' = w := by
  go_enter Tryd.func25, Tryd.ntmps25
  go_wp2
  exact ⟨rfl, rfl, rfl⟩
theorem must_yes (w : World) : Calls Tryd.prog 25 #[.bool true] w fun e w' => e = .returned (.tuple #[]) ∧ w' = w := by
  go_enter Tryd.func25, Tryd.ntmps25
  go_wp2
  go_end0
  exact ⟨rfl, rfl⟩

set_option maxHeartbeats 1600000 in
set_option maxRecDepth 100000 in
theorem take_some (b : Nat) (A : Option Addr) (len cap n : Nat) (hn : n ≤ len) (hc : len ≤ cap) (hm : len ≤ 9223372036854775807) (w : World) (hb : Boxed w b 66 (.slice A len cap)) :
    Calls Tryd.prog 28 #[.pointer (some ⟨b, 0, none⟩), .int .i64 n] w fun e w' => e = .returned (.slice A n n) ∧
      w' = w.setCell ⟨b, 0, none⟩ (.slice (if cap = n then A else A.map (·.add n)) (len - n) (cap - n)) := by
  have hd : decide (n ≤ len) = true := decide_eq_true hn
  have hcell := hb.cell
  have hfr := hb.frozen
  obtain ⟨i5, hi5, _, hs5, _⟩ := info_parts info5
  have hs1 : ∀ W : World, (Instr.slice 25 (.slice A len cap) none (some (.int .i64 n)) (some (.int .i64 n))).run Tryd.prog W = .ok (.slice A n n) W := by
    intro W
    have hel : Tryd.prog.elem 25 = 5 := by simp [Program.elem, Tryd.underlying25]
    have hu : Tryd.prog.underlying 25 = some (.slice (Tryd.prog.elem 25)) := by rw [hel]; exact Tryd.underlying25
    have ha : (A.map fun x => x.add 0) = A := by cases A <;> simp [Addr.add]
    rw [run_slice_hm W 25 A len cap hu .i64 .i64 n n (by omega) (by omega) (by omega), hel]
    simp [sizeOf, typeInfo, hi5, sliced, Result.andThen, ha]
  have hs2 : ∀ W : World, (Instr.slice 25 (.slice A len cap) (some (.int .i64 n)) none none).run Tryd.prog W = .ok (.slice (if cap = n then A else A.map (·.add n)) (len - n) (cap - n)) W := by
    intro W
    have := cut_from (P := Tryd.prog) 25 5 .i64 Tryd.underlying25 hi5 1 hs5 A len cap (n : Int) (by omega) (by omega) W
    rw [Int.toNat_natCast, Nat.mul_one] at this
    exact this
  obtain ⟨v2, hv2⟩ : ∃ v, (if cap = n then A else A.map (·.add n)) = v := ⟨_, rfl⟩
  rw [hv2] at hs2 ⊢
  clear hv2 hs5 hi5 hn hc hb
  go_enter Tryd.func28, Tryd.ntmps28
  go_wp2_with (go_at_call 25; refine (must_yes _).mono ?_; rintro e w' ⟨rfl, rfl⟩)
  go_ret
  exact ⟨rfl, rfl⟩
set_option maxHeartbeats 1600000 in
set_option maxRecDepth 100000 in
theorem take_none (b : Nat) (A : Option Addr) (len cap n : Nat) (hn : ¬ n ≤ len) (w : World) (hb : Boxed w b 66 (.slice A len cap)) :
    Calls Tryd.prog 28 #[.pointer (some ⟨b, 0, none⟩), .int .i64 n] w fun e w' => e = .panicked thrown ∧ w' = w := by
  have hd : decide (n ≤ len) = false := decide_eq_false hn
  have hcell := hb.cell
  clear hn hb
  go_enter Tryd.func28, Tryd.ntmps28
  go_wp2_with (go_at_call 25; refine (must_no _).mono ?_; rintro e w' ⟨rfl, rfl⟩)
  exact ⟨rfl, rfl, rfl⟩

/-- A slice value that reads as bytes in a world. -/
def RowV (W : World) (v : Value) (l : List UInt8) : Prop := ∃ A c, v = .slice A l.length c ∧ l.length ≤ c ∧ Kd.C (Kd.int .u8) W A l.length (numsB l)
/-- A cursor: bytes that are left; they lie in the world W. -/
def Cur (W w : World) (b : Nat) (l : List UInt8) : Prop := W.heap.size ≤ b ∧ ∃ v, Boxed w b 66 v ∧ RowV W v l
/-- Nothing that was there is another, but for the blocks of X. -/
structure Tch (X : Nat → Prop) (w w' : World) : Prop where
  os : w'.os = w.os
  tape : w'.tape = w.tape
  output : w'.output = w.output
  size : w.heap.size ≤ w'.heap.size
  block : ∀ k, k < w.heap.size → ¬ X k → w'.heap[k]? = w.heap[k]?
theorem Tch.refl (X : Nat → Prop) (w : World) : Tch X w w := ⟨rfl, rfl, rfl, Nat.le_refl _, fun _ _ _ => rfl⟩
theorem Tch.trans {X : Nat → Prop} {a b c : World} (h : Tch X a b) (k : Tch X b c) : Tch X a c :=
  ⟨k.os.trans h.os, k.tape.trans h.tape, k.output.trans h.output, Nat.le_trans h.size k.size, fun i hi hx => (k.block i (Nat.lt_of_lt_of_le hi h.size) hx).trans (h.block i hi hx)⟩
theorem Tch.mono {X Y : Nat → Prop} {a b : World} (h : Tch X a b) (hx : ∀ k, X k → Y k) : Tch Y a b := ⟨h.os, h.tape, h.output, h.size, fun i hi hy => h.block i hi (fun e => hy (hx i e))⟩
theorem Tch.below {X : Nat → Prop} {a b : World} {B : Nat} (h : Tch X a b) (hB : B ≤ a.heap.size) (hx : ∀ k, X k → B ≤ k) : Below B a b :=
  ⟨h.os, h.tape, h.output, h.size, fun k hk => h.block k (by omega) (fun e => by have := hx k e; omega)⟩
theorem Tch.boxed {X : Nat → Prop} {a b : World} {B : Nat} {t : TypeId} {v : Value} (h : Tch X a b) (hb : Boxed a B t v) (hx : ¬ X B) : Boxed b B t v := (h.block B hb.lt hx).trans hb
theorem Tch.cur {X : Nat → Prop} {W a b : World} {B : Nat} {l : List UInt8} (h : Tch X a b) (hc : Cur W a B l) (hx : ¬ X B) : Cur W b B l := by
  obtain ⟨h0, v, hv, hr⟩ := hc
  exact ⟨h0, v, h.boxed hv hx, hr⟩
theorem Tch.set (w : World) (b : Nat) (v : Value) : Tch (· = b) w (w.setCell ⟨b, 0, none⟩ v) := by
  refine ⟨by simp [World.setCell], by simp [World.setCell], by simp [World.setCell], by simp [World.setCell], fun k hk hx => ?_⟩
  simp only [World.setCell]
  rw [Array.getElem?_modify]
  rw [if_neg (fun e => hx e.symm)]
theorem Tch.alloc (X : Nat → Prop) (w : World) (o : Obj) : Tch X w (w.alloc o) := by
  have h := Below.refl w.heap.size w
  have h2 := below_alloc h o
  exact ⟨h2.os, h2.tape, h2.output, h2.size, fun k hk _ => h2.block k hk⟩
theorem numsB_len (l : List UInt8) : (numsB l).length = l.length := by simp [numsB]
theorem numsB_take (l : List UInt8) (n : Nat) : numsB (l.take n) = (numsB l).take n := by simp [numsB, List.map_take]
theorem numsB_drop (l : List UInt8) (n : Nat) : numsB (l.drop n) = (numsB l).drop n := by simp [numsB, List.map_drop]
theorem row_cut {W : World} {A : Option Addr} {c : Nat} {l : List UInt8} (hr : Kd.C (Kd.int .u8) W A l.length (numsB l)) (hc : l.length ≤ c) (n : Nat) (hn : n ≤ l.length) :
    RowV W (.slice A n n) (l.take n) ∧ RowV W (.slice (if c = n then A else A.map (·.add n)) (l.length - n) (c - n)) (l.drop n) := by
  have hr' : Kd.C (Kd.int .u8) W A (numsB l).length (numsB l) := by rw [numsB_len]; exact hr
  have h1 := Kd.C_take (m := n) hr' (by rw [numsB_len]; exact hn)
  have h2 := Kd.C_drop (m := n) (c := c) hr' (by rw [numsB_len]; exact hn) (by rw [numsB_len]; exact hc)
  rw [← numsB_take, numsB_len] at h1
  rw [← numsB_drop, numsB_len] at h2
  have e1 : (l.take n).length = n := by rw [List.length_take]; omega
  have e2 : (l.drop n).length = l.length - n := List.length_drop ..
  refine ⟨⟨A, n, by rw [e1], by rw [e1]; exact Nat.le_refl _, h1⟩, ⟨_, c - n, by rw [e2], by rw [e2]; omega, ?_⟩⟩
  have e3 : n * (Kd.int .u8).sz = n := Nat.mul_one n
  rw [e3] at h2
  exact h2
theorem take_ok (W w : World) (b : Nat) (l : List UInt8) (n : Nat) (hc : Cur W w b l) (hn : n ≤ l.length) :
    Calls Tryd.prog 28 #[.pointer (some ⟨b, 0, none⟩), .int .i64 n] w fun e w' => ∃ v, e = .returned v ∧ RowV W v (l.take n) ∧ Cur W w' b (l.drop n) ∧ Tch (· = b) w w' := by
  obtain ⟨h0, v, hv, A, c, rfl, hcap, hr⟩ := hc
  obtain ⟨h1, h2⟩ := row_cut hr hcap n hn
  refine (take_some b A l.length c n hn hcap (by have := hr.2.1; omega) w hv).mono ?_
  rintro e w' ⟨rfl, rfl⟩
  exact ⟨_, rfl, h1, ⟨h0, _, hv.set _, h2⟩, Tch.set w b _⟩
theorem take_bad (W w : World) (b : Nat) (l : List UInt8) (n : Nat) (hc : Cur W w b l) (hn : ¬ n ≤ l.length) :
    Calls Tryd.prog 28 #[.pointer (some ⟨b, 0, none⟩), .int .i64 n] w fun e w' => e = .panicked thrown ∧ w' = w := by
  obtain ⟨h0, v, hv, A, c, rfl, hcap, hr⟩ := hc
  exact take_none b A l.length c n hn w hv

/-- The number that bytes are. -/
def num (l : List UInt8) : Nat := l.foldl (fun a x => a * 256 + x.toNat) 0
theorem num_snoc (l : List UInt8) (x : UInt8) : num (l ++ [x]) = num l * 256 + x.toNat := by simp [num]
theorem num_lt (l : List UInt8) : num l < 256 ^ l.length := by
  have key : ∀ r : List UInt8, num r.reverse < 256 ^ r.length := by
    intro r
    induction r with
    | nil => decide
    | cons x r ih =>
      rw [List.reverse_cons, num_snoc, List.length_cons, Nat.pow_succ]
      have := UInt8.toNat_lt x
      omega
  have := key l.reverse
  rwa [List.reverse_reverse, List.length_reverse] at this
theorem num3 (l : List UInt8) (h : l.length ≤ 3) : num l < 16777216 := by
  have h1 := num_lt l
  have h2 : 256 ^ l.length ≤ 256 ^ 3 := Nat.pow_le_pow_right (by decide) h
  have h3 : (256 : Nat) ^ 3 = 16777216 := by decide
  omega
theorem or_byte (a b : Nat) (ha : a < 16777216) (hb : b < 256) : bits .or .i64 ((a : Int) * 256) (b : Int) = ((a * 256 + b : Nat) : Int) := by
  have hw : ∀ n : Int, 0 ≤ n → n < 2 ^ 40 → IntKind.i64.wrap n = n := by
    intro n h0 h1
    rw [i64_w]
    unfold wrap64
    have : (2 : Int) ^ 40 = 1099511627776 := by decide
    omega
  have e40 : (2 : Int) ^ 40 = 1099511627776 := by decide
  have := bits_join .i64 40 (by decide) hw 8 ((a : Int) * 256) (b : Int) (by omega) (by have : (2 : Int) ^ 8 = 256 := by decide
                                                                                        omega) (by omega) (by omega) (by have : (2 : Int) ^ 8 = 256 := by decide
                                                                                                                         omega) (by omega)
  rw [this]
  omega

theorem Cur.ge {W w : World} {b : Nat} {l : List UInt8} (h : Cur W w b l) : W.heap.size ≤ b := h.1
theorem below_only {W w w' : World} {b : Nat} (hW : Below W.heap.size W w) (hb : W.heap.size ≤ b) (h : Tch (· = b) w w') : Below W.heap.size W w' :=
  hW.trans (h.below hW.size (fun k e => by rw [e]; exact hb))
theorem rd_nums (l : List UInt8) (j : Nat) (h : j < l.length) : rd (numsB l) (j : Int) = ((l[j]).toNat : Int) := by
  simp [rd, numsB, List.getD, h]
set_option maxHeartbeats 1600000 in
set_option maxRecDepth 100000 in
theorem number_ok (W w : World) (b : Nat) (l : List UInt8) (n : Nat) (hW : Below W.heap.size W w) (hc : Cur W w b l) (hn : n ≤ l.length) (h3 : n ≤ 3) :
    Calls Tryd.prog 26 #[.pointer (some ⟨b, 0, none⟩), .int .i64 n] w fun e w' => e = .returned (.int .i64 (num (l.take n))) ∧ Cur W w' b (l.drop n) ∧ Tch (· = b) w w' := by
  have HT := Lib.hid (take_ok W w b l n hc hn)
  have HWb := Lib.hid hW
  have HG := Lib.hid hc.ge
  obtain ⟨t, hte⟩ : ∃ t, l.take n = t := ⟨_, rfl⟩
  have htl : t.length ≤ 3 := by rw [← hte, List.length_take]; omega
  rw [hte] at HT ⊢
  clear hc hW hte
  go_enter Tryd.func26, Tryd.ntmps26
  go_wp2_with (go_at_call 28; refine (HT.out).mono ?_; rintro e w1 ⟨v, rfl, ⟨A, c, rfl, hcap, hr⟩, hcur, ht⟩)
  have HR := Lib.hid (Kd.C_below hr (below_only HWb.out HG.out ht))
  have HCur := Lib.hid hcur
  have HTc := Lib.hid ht
  clear hr hcur ht HT
  go_wp2
  go_loopw [4, 11] (fun v4 v11 wr => ∃ j : Nat, v4 = .int .i64 (num (t.take j)) ∧ v11 = .int .i64 j ∧ j ≤ t.length ∧ wr = w1) (fun _ i _ => t.length - (intOf i).toNat)
  case atStart => exact ⟨0, rfl, rfl, Nat.zero_le _, rfl⟩
  case round =>
    obtain ⟨j, rfl, rfl, hj, rfl⟩ := hrel
    by_cases hlt : j < t.length
    · obtain ⟨ad, eA, hcell⟩ := Kd.at_int HR.out (j : Int) (by omega) (by omega)
      rw [rd_nums t j hlt, Int.toNat_natCast] at hcell
      have hji : (j : Int) < (t.length : Int) := by omega
      have hnl : num (t.take j) < 65536 := by
        have h1 := num_lt (t.take j)
        have h2 : (256 : Nat) ^ (t.take j).length ≤ 256 ^ 2 := Nat.pow_le_pow_right (by decide) (by rw [List.length_take]; omega)
        have h4 : (256 : Nat) ^ 2 = 65536 := by decide
        omega
      have hx := UInt8.toNat_lt t[j]
      have hor := or_byte (num (t.take j)) (t[j]).toNat (by omega) hx
      have hnew : num (t.take (j + 1)) = num (t.take j) * 256 + (t[j]).toNat := by rw [List.take_succ_eq_append_getElem hlt, num_snoc]
      obtain ⟨x, hxe⟩ : ∃ x, (t[j]).toNat = x := ⟨_, rfl⟩
      obtain ⟨a, hae⟩ : ∃ a, num (t.take j) = a := ⟨_, rfl⟩
      rw [hxe] at hcell hor hnew hx
      rw [hae] at hor hnew hnl
      rw [hae]
      have HN := Lib.hid hnew
      clear hnew hxe hae
      subst eA
      go_wp2
      refine ⟨⟨j + 1, ?_, by go_num, by omega, trivial⟩, by simp [intOf]; omega⟩
      rw [HN.out]
      congr 1
    · obtain rfl : j = t.length := by omega
      rw [List.take_length]
      go_wp2
      go_ret
      exact ⟨rfl, HCur.out, HTc.out⟩
end Go.Proofs.YtjcocepmmjmckaaDoor.PHello
