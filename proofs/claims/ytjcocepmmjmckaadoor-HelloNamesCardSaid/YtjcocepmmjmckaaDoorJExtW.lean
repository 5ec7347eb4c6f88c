/- hello.extensions. -/
import Derived.Test.YtjcocepmmjmckaaDoorJExtG
import Derived.Deep.RegionLaw
import Derived.Deep.RegionHeld3
import Derived.RegionDies
import Derived.Deep.MidRow
import Derived.Recover
import Derived.Defers
set_option linter.unusedVariables false
set_option linter.unusedSimpArgs false
namespace Go.Proofs.YtjcocepmmjmckaaDoor.PHello
open Go.RowKit Go.Proofs.YtjcocepmmjmckaaDoorW.PrintWords Go.Proofs.YtjcocepmmjmckaaDoorW.PrintLast Go.Proofs.YtjcocepmmjmckaaDoorW.PrintMore

/-- What extensions tell: the rows, the host, where it stood. -/
def extLoop : Nat → List UInt8 → List S59 → List UInt8 → Option Nat → Option (List S59 × List UInt8 × Option Nat)
  | _, [], es, h, a => some (es, h, a)
  | 0, _ :: _, _, _, _ => none
  | n + 1, c :: l, es, h, a =>
    if 2 ≤ (c :: l).length then
      match pieceR ((c :: l).drop 2) 2 with
      | none => none
      | some (p, r) =>
        if num ((c :: l).take 2) > 0 then extLoop n r (es ++ [⟨(num ((c :: l).take 2) : Int), numsB p⟩]) h a
        else if a = none then (match namedR p with | none => none | some q => extLoop n r es q (some es.length))
        else none
    else none
def atI : Option Nat → Int
  | none => -1
  | some k => k
/-- How many bytes are left. -/
def curLen (w : World) (b : Nat) : Nat := match w.cell? ⟨b, 0, none⟩ with | some (.slice _ n _) => n | _ => 0
theorem curLen_eq {W w : World} {b : Nat} {l : List UInt8} (h : Cur W w b l) : curLen w b = l.length := by
  obtain ⟨_, v, hv, A, c, rfl, _⟩ := h
  unfold curLen
  rw [hv.cell]
theorem Cur.cell {W w : World} {b : Nat} {l : List UInt8} (h : Cur W w b l) : ∃ A c, w.cell? ⟨b, 0, none⟩ = some (.slice A l.length c) := by
  obtain ⟨_, v, hv, A, c, rfl, _⟩ := h
  exact ⟨A, c, hv.cell⟩
theorem info59 : (Tryd.prog.info? 59).map (fun i => (i.zero, i.size, i.bytes)) = some (some (.agg #[.int .i64 0, .slice none 0 0]), 2, 32) := by kernel_rfl
theorem pieceR_len {l p r : List UInt8} {n : Nat} (h : pieceR l n = some (p, r)) : r.length ≤ l.length := by
  unfold pieceR at h
  split at h
  · simp only [Option.some.injEq, Prod.mk.injEq] at h
    rw [← h.2, List.length_drop, List.length_drop]
    omega
  · cases h
theorem below_cell {B : Nat} {w w' : World} (hb : Below B w w') {k : Nat} (hk : k < B) (j : Nat) : w'.cell? ⟨k, j, none⟩ = w.cell? ⟨k, j, none⟩ := by
  simp only [World.cell?, hb.block k hk]
theorem Cur.drew_ {W w : World} {b : Nat} {l : List UInt8} (h : Cur W w b l) : Cur W w.drew b l := h
theorem Tch.rowT {α : Type} {d : Kd α} {e c t : Nat} {ok : Nat → Prop} {w w' : World} {base : Nat} {v : Value} {xs : List α} {cells : Array Value} (h : d.R e w base ok v xs) (ht : Tch (· = c) w w')
    (hb : w.heap[c]? = some (.cells cells t (0, 0))) (hq : ∀ q, q ∈ e :: d.E → q ≠ t) : d.R e w' base ok v xs :=
  Kd.R_mono (Kd.R_step (Kd.R_types h hb hq) (fun k hk hlt => ht.block k hlt hk.2)) (fun k hk => hk.1)
theorem GB.drew_ {w : World} {g : Nat} {m a : Int} {R : List Value} {s u me x : Value} {h : ByteArray} (hg : GB w g m R s u me h a x) : GB w.drew g m R s u me h a x := hg
theorem GB.below {w w' : World} {g B : Nat} {m a : Int} {R : List Value} {s u me x : Value} {h : ByteArray} (hg : GB w g m R s u me h a x) (hb : Below B w w') (hlt : g < B) : GB w' g m R s u me h a x := ⟨hg.1, (hb.block g hlt).trans hg.2⟩
theorem pieceR_plen {l p r : List UInt8} {n : Nat} (h : pieceR l n = some (p, r)) (hn : n ≤ 3) : p.length ≤ 16777216 := by
  unfold pieceR at h
  split at h
  · simp only [Option.some.injEq, Prod.mk.injEq] at h
    rw [← h.1, List.length_take]
    have := num3 (l.take n) (by rw [List.length_take]; omega)
    omega
  · cases h
theorem clone_bytes (A : Option Addr) (c : Nat) (p : List UInt8) (w : World) (hr : Kd.C (Kd.int .u8) w A p.length (numsB p)) (hc : p.length ≤ c) (hl : p.length ≤ 16777216) :
    Calls Tryd.prog 29 #[.slice A p.length c] w fun e w' => ∃ v0_ : Value, e = .returned (v0_) ∧ Kd.R (Kd.int .u8) 5 w' w.heap.size (fun _ => True) v0_ (numsB p) ∧ Below w.heap.size w w' := by
  have := clone_calls A c (numsB p) w (by rw [numsB_len]; exact hr) (by rw [numsB_len]; exact hc) (by rw [numsB_len]; omega)
  rw [numsB_len] at this
  exact this
set_option maxHeartbeats 4000000 in
set_option maxRecDepth 100000 in
theorem extensions_calls (W w : World) (b g : Nat) (l : List UInt8) (m a0 : Int) (R : List Value) (s u me : Value) (h0 : List UInt8) (res : Option (List S59 × List UInt8 × Option Nat)) (hW : Below W.heap.size W w) (hc : Cur W w b l)
    (hg : GB w g m R s u me ⟨h0.toArray⟩ a0 (.slice none 0 0)) (hgW : W.heap.size ≤ g) (hgb : g ≠ b) (hl : l.length ≤ 65536) (hres : extLoop l.length l [] h0 none = res) :
    Calls Tryd.prog 31 #[.pointer (some ⟨b, 0, none⟩), .pointer (some ⟨g, 0, none⟩)] w fun e w' => Tch (fun k => k = b ∨ k = g) w w' ∧
      ((∃ es h a x, res = some (es, h, a) ∧ e = .returned (.tuple #[]) ∧ GB w' g m R s u me ⟨h.toArray⟩ (atI a) x ∧ Kd.R k59 59 w' w.heap.size (fun _ => True) x es) ∨ (res = none ∧ e = .panicked thrown ∧ ∃ h a x, GB w' g m R s u me h a x)) := by
  have hgb2 : ¬ (g = b) := hgb
  have hblt : b < w.heap.size := by obtain ⟨_, v, hv, _⟩ := hc; exact hv.lt
  have hglt := hg.lt
  have hfr := hg.frozen 37
  have hc37 := hg.c37
  have hu35 := Tryd.underlying35
  have HW := Lib.hid hW
  have HG0 := Lib.hid (hg.s37 (-1))
  have HC0 := Lib.hid ((Tch.setc w g 37 (.int .i64 (-1))).cur hc (fun e => hgb e.symm))
  have HRes := Lib.hid hres
  clear hW hc hres hg
  go_enter Tryd.func31, Tryd.ntmps31
  go_wp2
  clear hfr hc37
  have ht0 : Tch (fun k => k = b ∨ k = g) w (w.setCell ⟨g, 37, none⟩ (.int .i64 (-1))) := (Tch.setc w g 37 _).mono (fun k e => Or.inr e)
  have HT0 := Lib.hid ht0
  clear ht0
  go_loopw [4, 5] (fun v4 v5 wr => ∃ (n : Nat) (lr : List UInt8) (es : List S59) (h : List UInt8) (a : Option Nat) (x : Value), lr.length ≤ n ∧ es.length + lr.length ≤ l.length ∧ Cur W wr b lr ∧ GB wr g m R s u me ⟨h.toArray⟩ (atI a) x ∧ Kd.R k59 59 wr w.heap.size (fun _ => True) x es ∧ Tch (fun k => k = b ∨ k = g) w wr ∧ extLoop n lr es h a = res) (fun _ _ wr => curLen wr b)
  case atStart => exact ⟨l.length, l, [], h0, none, _, Nat.le_refl _, by simp, HC0.out, HG0.out, Kd.R_nil _ _ _ _ _, HT0.out, HRes.out⟩
  case round =>
    clear HG0 HC0 HT0 HRes
    obtain ⟨n, lr, es, h, a, x, hn, hel, hcur, hgb, hrow, htch, hres⟩ := hrel
    cases lr with
    | nil =>
      obtain ⟨A, c, hcell⟩ := hcur.cell
      have hz : decide ((([] : List UInt8).length : Int) > 0) = false := rfl
      rw [extLoop] at hres
      have HG := Lib.hid hgb
      have HR := Lib.hid hrow
      have HT := Lib.hid htch
      clear hcur hgb hrow htch
      go_wp2
      go_end0
      exact ⟨HT.out, .inl ⟨es, h, a, x, hres.symm, rfl, HG.out, HR.out⟩⟩
    | cons c lr =>
      obtain ⟨n, rfl⟩ : ∃ k, n = k + 1 := ⟨n - 1, by simp at hn; omega⟩
      rw [extLoop] at hres
      obtain ⟨L, hL⟩ : ∃ L, c :: lr = L := ⟨_, rfl⟩
      rw [hL] at hres hn hcur hel
      have HCur0 := Lib.hid hcur
      have hpos : 0 < L.length := by rw [← hL]; simp
      have hz0 : decide (0 < L.length) = true := decide_eq_true hpos
      have hz1 : decide ((L.length : Int) > 0) = true := decide_eq_true (by omega)
      clear hL
      obtain ⟨A0, c0, hcell⟩ := hcur.cell
      have hWr := htch
      have HG := Lib.hid hgb
      have HR := Lib.hid hrow
      have HT := Lib.hid htch
      have hbel : Below W.heap.size W wr := HW.out.trans (htch.below HW.out.size (fun k e => by rcases e with rfl | rfl; exact hcur.ge; exact hgW))
      have HB := Lib.hid hbel
      have HGe := Lib.hid hcur.ge
      by_cases h2 : 2 ≤ L.length
      rotate_left
      · have HN := Lib.hid (number_bad W wr b L 2 hcur h2)
        rw [if_neg h2] at hres
        clear hcur hgb hrow htch hWr hbel h2
        go_wp2_with (go_at_call 26; refine (HN.out).mono ?_; rintro e w1 ⟨rfl, rfl⟩)
        exact ⟨rfl, HT.out, .inr ⟨hres.symm, rfl, _, _, _, HG.out⟩⟩
      rw [if_pos h2] at hres
      have HN := Lib.hid (number_ok W wr b L 2 hbel hcur h2 (by omega))
      obtain ⟨kd, hkd⟩ : ∃ kd, num (L.take 2) = kd := ⟨_, rfl⟩
      rw [hkd] at hres HN
      cases hp : pieceR (L.drop 2) 2 with
      | none =>
        rw [hp] at hres
        have HP := Lib.hid hp
        clear hcur hgb hrow htch hWr hbel hp h2
        go_wp2_with (first
          | (go_at_call 26; refine (HN.out).mono ?_; clear HN; rintro e w1 ⟨rfl, hcur, ht⟩; have HT1 := Lib.hid ht; have HN := Lib.hid (piece_bad W w1 b (L.drop 2) 2 (below_only HB.out HGe.out ht) hcur (by omega) HP.out); clear hcur ht)
          | (go_at_call 30; refine (HN.out).mono ?_; rintro e w2 ⟨rfl, ht2⟩))
        exact ⟨rfl, HT.out.trans ((HT1.out.trans ht2).mono fun k e => Or.inl e), .inr ⟨hres.symm, rfl, _, _, _, HG.out.tch (HT1.out.trans ht2) hgb2⟩⟩
      | some pr =>
        obtain ⟨p, r⟩ := pr
        rw [hp] at hres
        simp only at hres
        have HP := Lib.hid hp
        clear hcur hgb hrow htch hWr hbel hp
        have hr2 : r.length + 2 ≤ L.length := by
          have := pieceR_len HP.out
          rw [List.length_drop] at this
          omega
        have hlen : r.length ≤ n := by omega
        by_cases hk : kd > 0
        · rw [if_pos hk] at hres
          have hk0 : decide (0 < kd) = true := decide_eq_true hk
          have hk1 : decide ((kd : Int) > 0) = true := decide_eq_true (by omega)
          go_wp2_with (first
            | (go_at_call 26; refine (HN.out).mono ?_; clear HN; rintro e w1 ⟨rfl, hcur, ht⟩; have HT1 := Lib.hid ht; have HB1 := Lib.hid (below_only HB.out HGe.out ht); have HN := Lib.hid (piece_ok W w1 b (L.drop 2) 2 p r HB1.out hcur (by omega) HP.out); clear hcur ht)
            | (go_at_call 30; refine (HN.out).mono ?_; clear HN; rintro e w2 ⟨b2, rfl, hc2, hc1, hge, ht2⟩; have HC2 := Lib.hid hc2; have HC1 := Lib.hid hc1; have HGe2 := Lib.hid hge; have HT2 := Lib.hid (HT1.out.trans ht2); clear hc2 hc1 hge ht2))
          obtain ⟨Ax, cx, rfl⟩ := Kd.R_slice HR.out
          have htA := HT2.out
          have hgA := Lib.hid (HG.out.tch htA hgb2)
          have hrA := Lib.hid (Tch.row HR.out htA (fun k e => by rw [e]; exact hblt))
          obtain ⟨hgeA, vA, hvA, A2, c2, rfl, hcap2, hr2⟩ := HC2.out
          have hcl := hgA.out.c38
          have hcl2 := hvA.cell
          have hbelA := Lib.hid (below_only HB.out HGe.out htA)
          have HCap := Lib.hid hcap2
          have HR2 := Lib.hid hr2
          have HgA := Lib.hid hgA.out.lt
          have HbA := Lib.hid hvA.lt
          have hvTy : w2.heap[b2]? = some (.cells #[.slice A2 p.length c2] 66 (0, 0)) := hvA
          have HvA := Lib.hid hvTy
          have HT2sz : Hid (w.heap.size ≤ w2.heap.size) := Lib.hid (Nat.le_trans HT.out.size htA.size)
          have HEs : Hid ((es.length + 1) * 32 ≤ 140737488355328) := Lib.hid (by omega)
          clear htA hgeA hvTy hvA hcap2 hr2 hcell hz0 hz1 hk0 hk1
          have HPl := Lib.hid (pieceR_plen HP.out (by omega))
          go_region_law
            (first
              | (go_simp; go_at_call 29; refine (clone_bytes A2 c2 p _ ?_ HCap.out HPl.out).mono ?_; exact Kd.C_below HR2.out (hbelA.out.trans (below_drew (Below.refl _ _))); rintro e w3 ⟨v3, rfl, hr3, hb3⟩
                 have hcl3 : w3.cell? ⟨g, 38, none⟩ = some (.slice Ax es.length cx) := (below_cell hb3 HgA.out 38).trans hcl
                 have hcl23 : w3.cell? ⟨b2, 0, none⟩ = some (.slice A2 p.length c2) := (below_cell hb3 HbA.out 0).trans hcl2
                 have HgA3 : Hid (g < w3.heap.size) := Lib.hid (Nat.lt_of_lt_of_le HgA.out hb3.size)
                 have HbA3 : Hid (b2 < w3.heap.size) := Lib.hid (Nat.lt_of_lt_of_le HbA.out hb3.size)
                 have HTy3 : Hid (w3.heap[b2]? = some (.cells #[.slice A2 p.length c2] 66 (0, 0))) := Lib.hid ((hb3.block b2 HbA.out).trans HvA.out)
                 have HRx : Hid (Kd.R k59 59 w3 w.heap.size (fun _ => True) (.slice Ax es.length cx) es) := Lib.hid (Kd.R_below (Kd.R_drew hrA.out) hb3)
                 have HG3 := Lib.hid (hgA.out.drew_.below hb3 HgA.out)
                 have HSz : Hid (w2.heap.size ≤ w3.heap.size) := Lib.hid hb3.size
                 obtain ⟨A3, c3, rfl⟩ := Kd.R_slice hr3
                 have hcla : (w3.alloc (.cells #[.int .i64 kd, .slice A3 (numsB p).length c3] 59)).cell? ⟨g, 38, none⟩ = some (.slice Ax es.length cx) := (below_cell (below_alloc (Below.refl _ w3) _) HgA3.out 38).trans hcl3
                 have HR3 := Lib.hid hr3
                 have HB3 := Lib.hid hb3
                 clear hr3 hb3)
              | (refine Kd.R_append_step k59 (w0 := w3) w.heap.size ?hw (.tmp 25) (.tmp 33) 33 59 (.agg #[.int .i64 0, .slice none 0 0]) 32 rfl Tryd.underlying33 info59 rfl (by decide) (by omega) (.slice Ax es.length cx) es ⟨(kd : Int), numsB p⟩ [.int .i64 kd, .slice A3 (numsB p).length c3] (fun _ => True) (fun k => w2.heap.size ≤ k) rfl rfl ?hp ?hok (fun _ _ => trivial) ?HO ?HB ?hbase ?hl ?_
                 case hw => rfl
                 case hp => exact k59_mkM w3 w.heap.size _ ⟨(kd : Int), numsB p⟩ (Kd.R_lower (Kd.R_mono (Kd.R_bound HR3.out) (fun k hk => hk.2.1)) HT2sz.out)
                 case hok => exact fun k hk => ⟨trivial, fun e => by have := Kd.R_lt hrA.out k e.symm; omega⟩
                 case HO => exact HRx.out
                 case HB => exact Below.refl _ _
                 case hbase => exact Nat.le_trans HT2sz.out HSz.out
                 case hl => exact HEs.out
                 intro v5 w5 ho hb hg hat
                 obtain ⟨A5, c5, rfl⟩ := Kd.R_slice ho
                 have hcl5 : w5.cell? ⟨g, 38, none⟩ = some (.slice Ax es.length cx) := (below_cell hb hglt 38).trans hcl3
                 have hne : some b2 ≠ (Value.slice Ax es.length cx).ownBlock := Kd.R_ne HRx.out HTy3.out (by decide)
                 have hcl25 : w5.cell? ⟨b2, 0, none⟩ = some (.slice A2 p.length c2) := by
                   have := hg.block b2 HbA3.out hne
                   simp only [World.cell?, this]
                   have h2 := hcl23
                   simp only [World.cell?] at h2
                   exact h2
                 have hG5 := HG3.out.below hb hglt
                 have hfr5 := hG5.frozen 38
                 have HG5 := Lib.hid hG5
                 have HO5 := Lib.hid ho
                 have HB5 := Lib.hid hb
                 clear ho hb hg hat hne hG5))
          all_goals
            obtain ⟨w6, hw6⟩ : ∃ w6, w5.setCell ⟨g, 38, none⟩ (.slice A5 (es.length + 1) c5) = w6 := ⟨_, rfl⟩
            have HG6 := Lib.hid (show GB w6 g m R s u me ⟨h.toArray⟩ (atI a) (.slice A5 (es.length + 1) c5) from by rw [← hw6]; exact HG5.out.s38 _)
            have ht56 : Tch (· = g) w5 w6 := by rw [← hw6]; exact Tch.setc _ _ _ _
            have elen : (es ++ [(⟨(kd : Int), numsB p⟩ : S59)]).length = es.length + 1 := by simp
            have ho5 := HO5.out
            rw [elen] at ho5
            have HO6 := Lib.hid (Tch.row ho5 ht56 (fun k e => by rw [e]; exact hglt))
            have ht25 : Tch (fun k => k = b ∨ k = g) w w6 := by
              have h1 : Tch (fun k => k = b ∨ k = g) w w2 := HT.out.trans (HT2.out.mono fun k e => Or.inl e)
              have h2 : Tch (fun k => k = b ∨ k = g) w w3 := ⟨HB3.out.os.trans h1.os, HB3.out.tape.trans h1.tape, HB3.out.output.trans h1.output, Nat.le_trans h1.size HB3.out.size, fun k hk hx => (HB3.out.block k (Nat.lt_of_lt_of_le hk h1.size)).trans (h1.block k hk hx)⟩
              have h3 : Tch (fun k => k = b ∨ k = g) w w5 := ⟨HB5.out.os.trans h2.os, HB5.out.tape.trans h2.tape, HB5.out.output.trans h2.output, Nat.le_trans h2.size HB5.out.size, fun k hk hx => (HB5.out.block k hk).trans (h2.block k hk hx)⟩
              exact h3.trans (ht56.mono fun k e => Or.inr e)
            have hcur6 : Cur W w6 b r := by
              obtain ⟨q0, v, hv, hr⟩ := HC1.out
              have hv3 : Boxed w3 b 66 v := (HB3.out.block b hv.lt).trans hv
              have hv5 : Boxed w5 b 66 v := (HB5.out.block b hblt).trans hv3
              exact ⟨q0, v, ht56.boxed hv5 (fun e => hgb2 e.symm), hr⟩
            rw [hw6]
            go_wp2
            go_roundw
            case rel =>
              exact ⟨n, r, es ++ [(⟨(kd : Int), numsB p⟩ : S59)], h, a, _, hlen, by rw [elen]; omega, hcur6, HG6.out, HO6.out, ht25, hres⟩
            case measure =>
              rw [curLen_eq hcur6, curLen_eq HCur0.out]
              omega
        · obtain rfl : kd = 0 := by omega
          rw [if_neg (by omega)] at hres
          have hk0 : decide (0 < 0) = false := rfl
          obtain ⟨Ax, cx, rfl⟩ := Kd.R_slice HR.out
          have hc37 := HG.out.c37
          cases a with
          | some k =>
            rw [if_neg (by simp)] at hres
            have hlt0 : decide ((atI (some k)) < 0) = false := decide_eq_false (show ¬ ((k : Int) < 0) by omega)
            obtain ⟨ai, hai⟩ : ∃ ai, atI (some k) = ai := ⟨_, rfl⟩
            rw [hai] at hlt0 hc37
            have HAi := Lib.hid hai
            clear hai hc37
            go_wp2_with (first
              | (go_at_call 26; refine (HN.out).mono ?_; clear HN; rintro e w1 ⟨rfl, hcur, ht⟩; have HT1 := Lib.hid ht; have HB1 := Lib.hid (below_only HB.out HGe.out ht); have HN := Lib.hid (piece_ok W w1 b (L.drop 2) 2 p r HB1.out hcur (by omega) HP.out); clear hcur ht)
              | (go_at_call 30; refine (HN.out).mono ?_; clear HN; rintro e w2 ⟨b2, rfl, hc2, hc1, hge, ht2⟩; have HT2 := Lib.hid (HT1.out.trans ht2); have hc37 := (HG.out.tch HT2.out hgb2).c37; rw [HAi.out] at hc37; clear hc2 hc1 hge ht2))
            refine (must_no _).mono ?_
            rintro e w3 ⟨rfl, rfl⟩
            exact ⟨rfl, HT.out.trans (HT2.out.mono fun k e => Or.inl e), .inr ⟨hres.symm, rfl, _, _, _, HG.out.tch HT2.out hgb2⟩⟩
          | none =>
            rw [if_pos rfl] at hres
            have hlt0 : decide ((-1 : Int) < 0) = true := rfl
            rw [show atI none = -1 from rfl] at hc37
            go_wp2_with (first
              | (go_at_call 26; refine (HN.out).mono ?_; clear HN; rintro e w1 ⟨rfl, hcur, ht⟩; have HT1 := Lib.hid ht; have HB1 := Lib.hid (below_only HB.out HGe.out ht); have HN := Lib.hid (piece_ok W w1 b (L.drop 2) 2 p r HB1.out hcur (by omega) HP.out); clear hcur ht)
              | (go_at_call 30; refine (HN.out).mono ?_; clear HN; rintro e w2 ⟨b2, rfl, hc2, hc1, hge, ht2⟩; have HC2 := Lib.hid hc2; have HC1 := Lib.hid hc1; have HGe2 := Lib.hid hge; have HSz1 := Lib.hid HT1.out.size; have HT2 := Lib.hid (HT1.out.trans ht2); have hgA := Lib.hid (HG.out.tch HT2.out hgb2); have hc37 := hgA.out.c37; have hcl := hgA.out.c38; have hfr36 := hgA.out.frozen 36; have hfr37 := hgA.out.frozen 37; have hc36 := hgA.out.c36; rw [show atI none = -1 from rfl] at hc37; clear hc2 hc1 hge ht2))
            refine (must_yes _).mono ?_
            rintro e w3 ⟨rfl, rfl⟩
            have HB2 := Lib.hid (below_only HB.out HGe.out HT2.out)
            have htA : Tch (fun k => k = b ∨ k = g) w w3 := HT.out.trans (HT2.out.mono fun k e => Or.inl e)
            have HTA := Lib.hid htA
            have HrA := Lib.hid (Tch.row HR.out HT2.out (fun k e => by rw [e]; exact hblt))
            have HgA := Lib.hid hgA.out.lt
            have HSz : Hid (w.heap.size ≤ b2) := Lib.hid (Nat.le_trans (Nat.le_trans HT.out.size HSz1.out) HGe2.out)
            have hd1 := fun (w' : World) => Cur.drew_ HC2.out
            have HBd := Lib.hid (HB2.out.trans (below_drew (Below.refl W.heap.size w3)))
            have HTd : Hid (Tch (fun k => k = b ∨ k = g) w w3.drew) := Lib.hid ⟨htA.os, htA.tape, htA.output, htA.size, htA.block⟩
            clear htA
            cases hq : namedR p with
            | none =>
              rw [hq] at hres
              have HQ := Lib.hid hq
              clear hq
              go_wp2_with (fail)
              go_region_dies
              all_goals
                refine (named_bad W _ b2 p ?_ ?_ HQ.out).mono ?_
                exact HBd.out
                exact Cur.drew_ HC2.out
                rintro e w4 ⟨rfl, ht4⟩
                exact ⟨rfl, HTd.out.also ht4 HSz.out, .inr ⟨hres.symm, rfl, _, _, _, hgA.out.drew_.tch ht4 (fun e : g = b2 => by have h1 := HSz.out; omega)⟩⟩
            | some q =>
              rw [hq] at hres
              have HQ := Lib.hid hq
              clear hq
              go_wp2_with (fail)
              go_region_held3 (fun w' => w'.cell? ⟨g, 38, none⟩ = some (.slice Ax es.length cx)) (first | exact hcl | exact hcl4 | exact (HG4.out.s36 _).c38 | exact ((HG4.out.s36 _).s37 _).c38 | fail)
                (first
                  | (go_at_call 48; refine (named_ok W _ b2 p q ?_ ?_ HQ.out).mono ?_; exact HBd.out; exact Cur.drew_ HC2.out; rintro e w4 ⟨rfl, ht4⟩
                     have hg4 := hgA.out.drew_.tch ht4 (fun e : g = b2 => by have h1 := HSz.out; omega)
                     have hcl4 := hg4.c38
                     have hc36b := hg4.c36
                     have hc37b := hg4.c37
                     have hfr36b := hg4.frozen 36
                     have hfr37b := hg4.frozen 37
                     have HG4 := Lib.hid hg4
                     have HT4 := Lib.hid ht4
                     clear ht4 hg4))
              obtain ⟨w6, hw6⟩ : ∃ w6, (w4.setCell ⟨g, 36, none⟩ (.string ⟨q.toArray⟩)).setCell ⟨g, 37, none⟩ (.int .i64 es.length) = w6 := ⟨_, rfl⟩
              have HG6 := Lib.hid (show GB w6 g m R s u me ⟨q.toArray⟩ (atI (some es.length)) (.slice Ax es.length cx) from by rw [← hw6]; exact (HG4.out.s36 _).s37 _)
              have ht46 : Tch (· = g) w4 w6 := by rw [← hw6]; exact (Tch.setc _ _ _ _).trans (Tch.setc _ _ _ _)
              have hr4 : Kd.R k59 59 w4 w.heap.size (fun _ => True) (.slice Ax es.length cx) es := by
                obtain ⟨_, v, hv, _⟩ := HC2.out
                exact Tch.rowT (Kd.R_drew HrA.out) HT4.out (show w3.drew.heap[b2]? = _ from hv) (by decide)
              have HO6 := Lib.hid (Tch.row hr4 ht46 (fun k e => by rw [e]; exact hglt))
              have ht6 : Tch (fun k => k = b ∨ k = g) w w6 := (HTd.out.also HT4.out HSz.out).trans (ht46.mono fun k e => Or.inr e)
              have hcur6 : Cur W w6 b r := ht46.cur (HT4.out.cur (Cur.drew_ HC1.out) (fun e : b = b2 => by have h1 := HSz.out; omega)) (fun e => hgb2 e.symm)
              rw [hw6]
              go_wp2
              go_roundw
              case rel => exact ⟨n, r, es, q, some es.length, _, hlen, by omega, hcur6, HG6.out, HO6.out, ht6, hres⟩
              case measure =>
                rw [curLen_eq hcur6, curLen_eq HCur0.out]
                omega
end Go.Proofs.YtjcocepmmjmckaaDoor.PHello
/- A greeting's cells laid whole or in part; Parse's deferred closure (24). -/
set_option linter.unusedVariables false
set_option linter.unusedSimpArgs false
namespace Go.Proofs.YtjcocepmmjmckaaDoor.PHello
open Go.RowKit

theorem heap_setc {w : World} {b t : Nat} {fr : Nat × Nat} {cs : List Value} (hb : w.heap[b]? = some (.cells cs.toArray t fr)) (k : Nat) (v : Value) : (w.setCell ⟨b, k, none⟩ v).heap[b]? = some (.cells (cs.set k v).toArray t fr) := by
  simp [World.setCell, Array.getElem?_modify, hb]
theorem heap_setCells {b t : Nat} {fr : Nat × Nat} : ∀ (vs pre old : List Value) (w : World), w.heap[b]? = some (.cells (pre ++ old).toArray t fr) → vs.length ≤ old.length →
    (w.setCells b pre.length vs).heap[b]? = some (.cells (pre ++ vs ++ old.drop vs.length).toArray t fr)
  | [], pre, old, w, h, _ => by simp [World.setCells, h]
  | v :: r, pre, [], w, h, hl => by simp at hl
  | v :: r, pre, x :: old, w, h, hl => by
    have h1 := heap_setc h pre.length v
    rw [show (pre ++ x :: old).set pre.length v = (pre ++ [v]) ++ old by simp] at h1
    have h2 := heap_setCells r (pre ++ [v]) old _ h1 (by simpa using hl)
    rw [show (pre ++ [v]).length = pre.length + 1 by simp] at h2
    rw [World.setCells, h2]
    simp
theorem Tch.setCells (b : Nat) : ∀ (vs : List Value) (o : Nat) (w : World), Tch (· = b) w (w.setCells b o vs)
  | [], o, w => Tch.refl _ w
  | v :: r, o, w => by
    rw [World.setCells]
    exact (Tch.setc w b o v).trans (Tch.setCells b r (o + 1) _)
theorem GB.all {w : World} {g : Nat} {m a : Int} {R : List Value} {s u me x : Value} {h : ByteArray} (hg : GB w g m R s u me h a x) {m' a' : Int} {R' : List Value} {s' u' me' x' : Value} {h' : ByteArray} (hR : R'.length = 32) :
    GB (w.setCells g 0 (gcs m' R' s' u' me' h' a' x')) g m' R' s' u' me' h' a' x' := by
  have hlen : ∀ {m a : Int} {R : List Value} {s u me x : Value} {h : ByteArray}, R.length = 32 → (gcs m R s u me h a x).length = 39 := fun e => by simp [gcs, e]
  have := heap_setCells (gcs m' R' s' u' me' h' a' x') [] (gcs m R s u me h a x) w hg.2 (by rw [hlen hR, hlen hg.1]; exact Nat.le_refl _)
  rw [hlen hR, List.drop_eq_nil_of_le (by rw [hlen hg.1]; exact Nat.le_refl _), List.append_nil, List.nil_append] at this
  exact ⟨hR, this⟩
theorem GB.rand {w : World} {g : Nat} {m a : Int} {R : List Value} {s u me x : Value} {h : ByteArray} (hg : GB w g m R s u me h a x) {R' : List Value} (hR : R'.length = 32) :
    GB (w.setCells g 1 R') g m R' s u me h a x := by
  have := heap_setCells R' [.int .i64 m] (R ++ [s, u, me, .string h, .int .i64 a, x]) w hg.2 (by rw [List.length_append, hg.1, hR]; omega)
  rw [hR, List.drop_append_of_le_length (by rw [hg.1]; exact Nat.le_refl _), List.drop_eq_nil_of_le (by rw [hg.1]; exact Nat.le_refl _), List.nil_append] at this
  exact ⟨hR, this⟩
/-- The random bytes of a greeting that is nothing. -/
def zeros : List Value := List.replicate 32 (.int .u8 0)
abbrev nilS : Value := .slice none 0 0
theorem rangeAt_GB {w : World} {g : Nat} {m a : Int} {R : List Value} {s u me x : Value} {h : ByteArray} (hg : GB w g m R s u me h a x) : w.rangeAt g 0 (gcs m R s u me h a x) := by
  intro j v hv
  rw [Nat.zero_add]
  exact hg.at j v hv
theorem there_GB {w : World} {g : Nat} {m a : Int} {R : List Value} {s u me x : Value} {h : ByteArray} (hg : GB w g m R s u me h a x) (o n : Nat) (hn : o + n ≤ 39) : w.there g o n := by
  intro j hj
  have hlt : o + j < (gcs m R s u me h a x).length := by simp [gcs, hg.1]; omega
  exact ⟨by rw [hg.at (o + j) _ (List.getElem?_eq_getElem hlt)]; rfl, hg.frozen _⟩
theorem info35 : (Tryd.prog.info? 35).map (·.size) = some 39 := by kernel_rfl
theorem zero35 (w : World) : (zeroValue 35).run Tryd.prog w = .ok (.agg (gcs 0 zeros nilS nilS nilS ⟨#[]⟩ 0 nilS).toArray) w := by kernel_rfl
set_option maxHeartbeats 4000000 in
set_option maxRecDepth 100000 in
theorem catch_wrong (g eb : Nat) (ev : Value) (w : World) {m a : Int} {R : List Value} {s u me x : Value} {h : ByteArray} (hg : GB w g m R s u me h a x) (he : Boxed w eb 28 ev) (hne : g ≠ eb) :
    CallsD Tryd.prog 24 #[.pointer (some ⟨g, 0, none⟩), .pointer (some ⟨eb, 0, none⟩)] (.panicking thrown) w fun e u' w' =>
      e = .returned (.tuple #[]) ∧ u' = .panicking [{ v := .iface 62 (.agg #[]), recovered := true }] ∧ GB w' g 0 zeros nilS nilS nilS ⟨#[]⟩ 0 nilS ∧ Boxed w' eb 28 (.int .i64 70) ∧ Tch (fun k => k = g ∨ k = eb) w w' := by
  refine callsD_of_wpS Tryd.func24 rfl fun c₀ cs hu => ?_
  apply wpS_seq
  apply wpS_region
  simp [wpOpsS, go_sem, recoverD, hu, Tryd.ntmps24, Exit.thenS]
  apply wpS_of_wp
  show Code.wp Tryd.prog _ _ ⟨#[.pointer (some ⟨g, 0, none⟩), .pointer (some ⟨eb, 0, none⟩), .iface 62 (.agg #[]), undef, undef, .iface 62 (.agg #[]), undef, undef, undef, undef, undef, undef, undef, undef, undef, undef, undef], []⟩ w
  have hta : ∀ w : World, (Instr.typeAssert (.iface 62 (.agg #[])) 20 62 true).run Tryd.prog w = .ok (.tuple #[.agg #[], .bool true]) w := fun w => by kernel_rfl
  have hz62 : ∀ w : World, (zeroValue 62).run Tryd.prog w = .ok (.agg #[]) w := fun w => by kernel_rfl
  have hz35 := zero35
  have HG := Lib.hid hg
  have HE := Lib.hid he
  clear hg he
  have HGa : Hid (GB (w.alloc (.cells #[] 62)) g m R s u me h a x) := Lib.hid (HG.out.tch (Tch.alloc (fun _ => False) w _) id)
  have HEa : Hid (Boxed (w.alloc (.cells #[] 62)) eb 28 ev) := Lib.hid (HE.out.alloc _)
  have hz32 : zeros.length = 32 := rfl
  obtain ⟨z35, hz⟩ : ∃ z, (gcs 0 zeros nilS nilS nilS ⟨#[]⟩ 0 nilS).toArray = z := ⟨_, rfl⟩
  have hzs : z35.size = 39 := by rw [← hz]; rfl
  have hone : z35.all (·.oneCell') = true := by rw [← hz]; kernel_rfl
  have hzl : z35.toList = gcs 0 zeros nilS nilS nilS ⟨#[]⟩ 0 nilS := by rw [← hz]
  have HT : Hid (Tch (fun k => k = g ∨ k = eb) w (w.alloc (.cells #[] 62))) := Lib.hid (Tch.alloc _ w _)
  rw [hz] at hz35
  clear hz
  obtain ⟨wa, hwa⟩ : ∃ wa, w.alloc (.cells #[] 62) = wa := ⟨_, rfl⟩
  rw [hwa] at HGa HEa HT
  go_wp2_with (refine wpList_store_mid rfl 35 _ _ rfl g 0 z35 rfl rfl (by rw [hzs]; exact there_GB HGa.out 0 39 (by omega)) (by rw [hzs]; exact info35) hone ?_
               rw [hzl]
               have hg2 := HGa.out.all (m' := 0) (a' := 0) (R' := zeros) (s' := nilS) (u' := nilS) (me' := nilS) (x' := nilS) (h' := ⟨#[]⟩) hz32
               have ht2 := Tch.setCells g (gcs 0 zeros nilS nilS nilS ⟨#[]⟩ 0 nilS) 0 wa
               have he2 := ht2.boxed HEa.out (fun e => hne e.symm)
               generalize hwb : wa.setCells g 0 (gcs 0 zeros nilS nilS nilS ⟨#[]⟩ 0 nilS) = wb at hg2 ht2 he2 ⊢
               clear hwb
               have hec := he2.cell
               have hef := he2.frozen
               have HG2 := Lib.hid hg2
               have HT2 := Lib.hid ht2
               have HE2 := Lib.hid he2
               clear hg2 ht2 he2)
  refine ⟨rfl, ?_⟩
  refine ⟨_, rfl, .tuple #[], results_none rfl _ _ _, rfl, rfl, HG2.out.tch (Tch.set wb eb _) hne, HE2.out.set (.int .i64 70), ?_⟩
  exact HT.out.trans ((HT2.out.mono fun k e => Or.inl e).trans ((Tch.set wb eb _).mono fun k e => Or.inr e))
set_option maxHeartbeats 4000000 in
set_option maxRecDepth 100000 in
theorem catch_idle (x y : Value) (w : World) :
    CallsD Tryd.prog 24 #[x, y] .returning w fun e u' w' => e = .returned (.tuple #[]) ∧ u' = .returning ∧ w' = w := by
  refine callsD_of_wpS Tryd.func24 rfl fun c₀ cs hu => ?_
  apply wpS_seq
  apply wpS_region
  simp [wpOpsS, go_sem, recoverD, hu, Tryd.ntmps24, Exit.thenS]
  apply wpS_of_wp
  show Code.wp Tryd.prog _ _ ⟨#[x, y, .nilIface, undef, undef, .nilIface, undef, undef, undef, undef, undef, undef, undef, undef, undef, undef, undef], []⟩ w
  go_wp2_with fail
  refine ⟨rfl, ?_⟩
  cases c₀
  exact ⟨_, by rw [← hu], .tuple #[], results_none rfl _ _ _, rfl, rfl, rfl⟩
end Go.Proofs.YtjcocepmmjmckaaDoor.PHello
/- The cursor's functions, each in one contract: it answers, or it throws. -/
set_option linter.unusedVariables false
namespace Go.Proofs.YtjcocepmmjmckaaDoor.PHello
open Go.RowKit

theorem must_any (c : Bool) (w : World) : Calls Tryd.prog 25 #[.bool c] w fun e w' => ((c = true ∧ e = .returned (.tuple #[])) ∨ (c = false ∧ e = .panicked thrown)) ∧ w' = w := by
  cases c
  · exact (must_no w).mono fun e w' h => ⟨Or.inr ⟨rfl, h.1⟩, h.2⟩
  · exact (must_yes w).mono fun e w' h => ⟨Or.inl ⟨rfl, h.1⟩, h.2⟩
theorem number_any (W w : World) (b : Nat) (l : List UInt8) (n : Nat) (hW : Below W.heap.size W w) (hc : Cur W w b l) (h3 : n ≤ 3) :
    Calls Tryd.prog 26 #[.pointer (some ⟨b, 0, none⟩), .int .i64 n] w fun e w' => Tch (· = b) w w' ∧
      ((n ≤ l.length ∧ e = .returned (.int .i64 (num (l.take n))) ∧ Cur W w' b (l.drop n)) ∨ (¬ n ≤ l.length ∧ e = .panicked thrown)) := by
  by_cases h : n ≤ l.length
  · exact (number_ok W w b l n hW hc h h3).mono fun e w' k => ⟨k.2.2, Or.inl ⟨h, k.1, k.2.1⟩⟩
  · exact (number_bad W w b l n hc h).mono fun e w' k => by obtain ⟨k, rfl⟩ := k; exact ⟨Tch.refl _ _, Or.inr ⟨h, k⟩⟩
theorem take_any (W w : World) (b : Nat) (l : List UInt8) (n : Nat) (hc : Cur W w b l) :
    Calls Tryd.prog 28 #[.pointer (some ⟨b, 0, none⟩), .int .i64 n] w fun e w' => Tch (· = b) w w' ∧
      ((n ≤ l.length ∧ ∃ v, e = .returned v ∧ RowV W v (l.take n) ∧ Cur W w' b (l.drop n)) ∨ (¬ n ≤ l.length ∧ e = .panicked thrown)) := by
  by_cases h : n ≤ l.length
  · exact (take_ok W w b l n hc h).mono fun e w' k => by obtain ⟨v, k1, k2, k3, k4⟩ := k; exact ⟨k4, Or.inl ⟨h, v, k1, k2, k3⟩⟩
  · exact (take_bad W w b l n hc h).mono fun e w' k => by obtain ⟨k, rfl⟩ := k; exact ⟨Tch.refl _ _, Or.inr ⟨h, k⟩⟩
theorem piece_any (W w : World) (b : Nat) (l : List UInt8) (n : Nat) (hW : Below W.heap.size W w) (hc : Cur W w b l) (h3 : n ≤ 3) :
    Calls Tryd.prog 30 #[.pointer (some ⟨b, 0, none⟩), .int .i64 n] w fun e w' => Tch (· = b) w w' ∧
      ((∃ p r b', pieceR l n = some (p, r) ∧ e = .returned (.pointer (some ⟨b', 0, none⟩)) ∧ Cur W w' b' p ∧ Cur W w' b r ∧ w.heap.size ≤ b') ∨ (pieceR l n = none ∧ e = .panicked thrown)) := by
  cases h : pieceR l n with
  | none => exact (piece_bad W w b l n hW hc h3 h).mono fun e w' k => ⟨k.2, Or.inr ⟨rfl, k.1⟩⟩
  | some q =>
    obtain ⟨p, r⟩ := q
    exact (piece_ok W w b l n p r hW hc h3 h).mono fun e w' k => by obtain ⟨b', k1, k2, k3, k4, k5⟩ := k; exact ⟨k5, Or.inl ⟨p, r, b', rfl, k1, k2, k3, k4⟩⟩
theorem all_any (W w : World) (b : Nat) (l : List UInt8) (n : Nat) (hW : Below W.heap.size W w) (hc : Cur W w b l) (h3 : n ≤ 3) :
    Calls Tryd.prog 27 #[.pointer (some ⟨b, 0, none⟩), .int .i64 n] w fun e w' => Tch (· = b) w w' ∧
      ((∃ p b', allR l n = some p ∧ e = .returned (.pointer (some ⟨b', 0, none⟩)) ∧ Cur W w' b' p ∧ w.heap.size ≤ b') ∨ (allR l n = none ∧ e = .panicked thrown)) := by
  cases h : allR l n with
  | none => exact (all_bad W w b l n hW hc h3 h).mono fun e w' k => ⟨k.2, Or.inr ⟨rfl, k.1⟩⟩
  | some p => exact (all_ok W w b l n p hW hc h3 h).mono fun e w' k => by obtain ⟨b', k1, k2, k3, k4⟩ := k; exact ⟨k4, Or.inl ⟨p, b', rfl, k1, k2, k3⟩⟩
/-- A greeting as it is read: random bytes, suites and methods as numbers. -/
structure Gr where
  m : Int
  R : List UInt8
  ses : List UInt8
  sui : List Int
  met : List UInt8
  h : List UInt8
  a : Option Nat
  es : List S59
/-- Numbers of two bytes. -/
def pairs : List UInt8 → Option (List Int)
  | [] => some []
  | [_] => none
  | a :: b :: r => (pairs r).map fun l => (num [a, b] : Int) :: l
/-- What stands behind the lengths: version, random bytes, session, suites, methods, extensions. -/
def bodyR (m : Int) (l : List UInt8) : Option Gr :=
  if 2 ≤ l.length ∧ num (l.take 2) = 771 then
    if 32 ≤ (l.drop 2).length then
      match pieceR ((l.drop 2).drop 32) 1 with
      | none => none
      | some (ses, r1) =>
        match pieceR r1 2 with
        | none => none
        | some (su, r2) =>
          match pairs su with
          | none => none
          | some sui =>
            match pieceR r2 1 with
            | none => none
            | some (met, r3) =>
              match allR r3 2 with
              | none => none
              | some ex =>
                match extLoop ex.length ex [] [] none with
                | none => none
                | some (es, h, a) => some ⟨m, (l.drop 2).take 32, ses, sui, met, h, a, es⟩
    else none
  else none
def headR (l : List UInt8) : Option Gr :=
  if 1 ≤ l.length ∧ num (l.take 1) = 22 then
    if 1 ≤ (l.drop 1).length ∧ num ((l.drop 1).take 1) = 3 then
      if 1 ≤ ((l.drop 1).drop 1).length then
        match allR (((l.drop 1).drop 1).drop 1) 2 with
        | none => none
        | some c1 =>
          if c1.length ≤ 16384 ∧ 1 ≤ c1.length ∧ num (c1.take 1) = 1 then
            match allR (c1.drop 1) 3 with
            | none => none
            | some c2 => bodyR (num (((l.drop 1).drop 1).take 1)) c2
          else none
      else none
    else none
  else none
end Go.Proofs.YtjcocepmmjmckaaDoor.PHello
