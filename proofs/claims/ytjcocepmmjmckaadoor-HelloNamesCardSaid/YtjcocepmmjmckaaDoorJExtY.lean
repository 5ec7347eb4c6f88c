/- hello.may: may a greeting be, but for how long it is? The plain words. -/
import Derived.Test.YtjcocepmmjmckaaDoorJExtW
import Derived.Test.YtjcocepmmjmckaaDoorJExtI
import Derived.Test.YtjcocepmmjmckaaDoorJExtM
import Derived.Maps.OwnOps
import Derived.Maps.OwnSet
set_option linter.unusedVariables false
set_option linter.unusedSimpArgs false
namespace Go.Proofs.YtjcocepmmjmckaaDoor.PHello
open Go.RowKit Go.Maps Go.Proofs.YtjcocepmmjmckaaDoorW.PrintWords Go.Proofs.YtjcocepmmjmckaaDoorW.PrintLast Go.Proofs.YtjcocepmmjmckaaDoorW.PrintMore

theorem law3 : Keyed Tryd.prog 3 := int_keyed Tryd.underlying3
theorem zero3 (w : World) : (zeroValue 3).run Tryd.prog w = .ok (.int .i64 0) w := by kernel_rfl
/-- How often a type has come (once at most). -/
def cnt (es : List S59) (n : Int) : Int := if n ∈ es.map (·.f0) then 1 else 0
def MapIs (D : DataW Unit) (es : List S59) : Prop := ∀ n, D.atKey (.int .i64 n) (.lit (.int .i64 0)) = .lit (.int .i64 (cnt es n))
/-- May an extension stand behind others? -/
def extOk (pre : List S59) (x : S59) : Bool := !decide (x.f0 < 1) && !decide (x.f0 > 65535) && !decide (x.f0 ∈ pre.map (·.f0)) && !decide (x.f1.length > 65535)
def typesOk : List S59 → List S59 → Bool
  | _, [] => true
  | pre, x :: r => extOk pre x && typesOk (pre ++ [x]) r
theorem mapIs_put {D : DataW Unit} {es : List S59} {x : S59} (h : MapIs D es) (hm : IsMap D) (hx : x.f0 ∉ es.map (·.f0)) :
    MapIs (D.put (.int .i64 x.f0) (.lit (.int .i64 1))) (es ++ [x]) := by
  intro n
  by_cases e : n = x.f0
  · subst e
    rw [atKey_put_same hm (show WideAt.IsKeyLit (.int .i64 x.f0) from True.intro)]
    unfold cnt
    rw [if_pos (by simp)]
  · rw [atKey_put_other (fun h => e (by injection h)), h n]
    congr 2
    unfold cnt
    simp [e]
/-- What hello.may answers. -/
def mayR (m : Int) (ses sui met : List Int) (h : ByteArray) (a : Int) (es : List S59) : Bool :=
  typesOk [] es && (hplain h).2 && !sui.any oddI && (decide ((ses.length : Int) ≤ 32) && decide (0 < sui.length) && decide (2 * (sui.length : Int) ≤ 65535) && met.contains 0 && decide ((met.length : Int) < 256)) &&
    decide (0 ≤ m) && decide (m ≤ 4) && decide (0 ≤ a) && decide (a ≤ es.length)
theorem GB.alloc (w : World) {m a : Int} {R : List Value} {s u me x : Value} {h : ByteArray} (hR : R.length = 32) : GB (w.alloc (.cells (gcs m R s u me h a x).toArray 35)) w.heap.size m R s u me h a x :=
  ⟨hR, World.alloc_heap_new w _⟩
theorem below_blk {B : Nat} {w w' : World} (hb : Below B w w') {k : Nat} (hk : k < B) : w'.heap[k]? = w.heap[k]? := hb.block k hk
theorem grown_cell {w w' : World} {b : Nat} (hg : w.grownBy w' (some b)) {k : Nat} (hk : k < w.heap.size) (hne : k ≠ b) (j : Nat) : w'.cell? ⟨k, j, none⟩ = w.cell? ⟨k, j, none⟩ := by
  simp only [World.cell?, hg.block k hk (fun e => hne (by injection e))]
theorem lit_int {a b : Int} (h : (.lit (.int .i64 a) : DataW Unit) = .lit (.int .i64 b)) : a = b := by injection h with h; injection h
end Go.Proofs.YtjcocepmmjmckaaDoor.PHello
/- hello.may: may a greeting be, but for how long it is? The walk. -/
set_option linter.unusedVariables false
set_option linter.unusedSimpArgs false
namespace Go.Proofs.YtjcocepmmjmckaaDoor.PHello
open Go.RowKit Go.Maps Go.Proofs.YtjcocepmmjmckaaDoorW.PrintWords Go.Proofs.YtjcocepmmjmckaaDoorW.PrintLast Go.Proofs.YtjcocepmmjmckaaDoorW.PrintMore
set_option maxHeartbeats 8000000 in
set_option maxRecDepth 100000 in
theorem may_calls (m a : Int) (R : List Value) (As Au Am Ax : Option Addr) (cs cu cm cx : Nat) (ses sui met : List Int) (es : List S59) (h : ByteArray) (w : World) (hR : R.length = 32) (hh : h.size ≤ 140737488351232) (hL : LW w)
    (hsu : Kd.C (Kd.int .i64) w Au sui.length sui) (hme : Kd.C (Kd.int .u8) w Am met.length met) (hex : Kd.C k59 w Ax es.length es) (hsl : sui.length ≤ 4611686018427387903)
    (hwf : ∀ x ∈ es, (Lit.int .i64 x.f0).wf = true) :
    Calls Tryd.prog 32 #[.agg (gcs m R (.slice As ses.length cs) (.slice Au sui.length cu) (.slice Am met.length cm) h a (.slice Ax es.length cx)).toArray] w fun e w' =>
      e = .returned (.bool (mayR m ses sui met h a es)) ∧ Below w.heap.size w w' := by
  have hmm := @run_makeMap Tryd.prog
  have hG := GB.alloc w (m := m) (a := a) (s := .slice As ses.length cs) (u := .slice Au sui.length cu) (me := .slice Am met.length cm) (x := .slice Ax es.length cx) (h := h) hR
  obtain ⟨w1, hw1⟩ : ∃ w1, w.alloc (.cells (gcs m R (.slice As ses.length cs) (.slice Au sui.length cu) (.slice Am met.length cm) h a (.slice Ax es.length cx)).toArray 35) = w1 := ⟨_, rfl⟩
  have hb1 : Below w.heap.size w w1 := by rw [← hw1]; exact below_alloc (Below.refl _ w) _
  have hsz1 : w1.heap.size = w.heap.size + 1 := by rw [← hw1]; exact Array.size_push _
  rw [hw1] at hG
  obtain ⟨cs0, hcs0⟩ : ∃ cs0, (gcs m R (.slice As ses.length cs) (.slice Au sui.length cu) (.slice Am met.length cm) h a (.slice Ax es.length cx)).toArray = cs0 := ⟨_, rfl⟩
  have hu35 := Tryd.underlying35
  rw [hcs0] at hw1 ⊢
  have HW1 := Lib.hid hw1
  have HG := Lib.hid hG
  have HB1 := Lib.hid hb1
  have HSu := Lib.hid hsu
  have HMe := Lib.hid hme
  have HEx := Lib.hid hex
  have HWf := Lib.hid hwf
  have HLW := Lib.hid hL
  have HSz := Lib.hid hsz1
  clear hG hb1 hcs0 hsu hme hex hwf hL hsz1
  have hgm : GB (w1.alloc (.map #[] 0)) w.heap.size m R (.slice As ses.length cs) (.slice Au sui.length cu) (.slice Am met.length cm) h a (.slice Ax es.length cx) :=
    HG.out.below (below_alloc (Below.refl w1.heap.size w1) _) (by rw [HSz.out]; omega)
  have hc38 := hgm.c38
  have hom := World.ownsMap_made w1 Tryd.prog 3 (plainElem (H := Unit) Tryd.prog 3)
  have hbm : Below w.heap.size w (w1.alloc (.map #[] 0)) := HB1.out.alloc HB1.out.size _
  have HGm := Lib.hid hgm
  have HOm := Lib.hid hom
  have HBm := Lib.hid hbm
  have hm38 : es.length ≤ 9223372036854775807 := HEx.out.2.1
  clear hgm hom hbm
  go_enter Tryd.func32, Tryd.ntmps32
  go_wp2
  clear hc38
  have hsz2 : (w1.alloc (.map #[] 0)).heap.size = w.heap.size + 2 := by
    have : (w1.alloc (.map #[] 0)).heap.size = w1.heap.size + 1 := Array.size_push _
    rw [this, HSz.out]
  have HSz2 := Lib.hid hsz2
  clear hsz2
  go_loopw [14, 5] (fun v14 v5 wr => ∃ (j : Nat) (D : DataW Unit), v14 = .int .i64 j ∧ j ≤ es.length ∧ typesOk [] es = typesOk (es.take j) (es.drop j) ∧ wr.ownsMap Tryd.prog 3 (plainElem Tryd.prog 3) w1.heap.size j D ∧ MapIs D (es.take j) ∧
    GB wr w.heap.size m R (.slice As ses.length cs) (.slice Au sui.length cu) (.slice Am met.length cm) h a (.slice Ax es.length cx) ∧ Below w.heap.size w wr ∧ w.heap.size + 2 ≤ wr.heap.size) (fun i _ _ => es.length - (intOf i).toNat)
  case atStart => exact ⟨0, .map [], rfl, Nat.zero_le _, rfl, HOm.out, fun n => rfl, HGm.out, HBm.out, by rw [HSz2.out]; exact Nat.le_refl _⟩
  case round =>
    clear HOm HGm HBm HSz2
    obtain ⟨j, D, rfl, hj, hto, hom, hmi, hgb, hbw, hszr⟩ := hrel
    by_cases hlt : j < es.length
    · have hread := Kd.C_below HEx.out hbw
      obtain ⟨ad, A1, c1, eA, hcell0, hcell1, hrow⟩ := at_T59 hread (j : Int) (by omega) (by omega)
      have hget : rd_T59 es (j : Int) = es[j] := by simp [rd_T59, List.getD, hlt]
      rw [hget] at hcell0 hcell1
      have hmem : es[j] ∈ es := List.getElem_mem hlt
      have htk : es.take (j + 1) = es.take j ++ [es[j]] := List.take_succ_eq_append_getElem hlt
      have hdr : es.drop j = es[j] :: es.drop (j + 1) := List.drop_eq_getElem_cons hlt
      obtain ⟨x, hx⟩ : ∃ x, es[j] = x := ⟨_, rfl⟩
      rw [hx] at hcell0 hcell1 hmem htk hdr
      rw [hdr, typesOk, ← htk] at hto
      have hwx := HWf.out x hmem
      have hkey := keyOf_int_mk (P := Tryd.prog) Tryd.underlying3 hwx
      rw [Int.toNat_natCast] at hcell0 hcell1
      have hji : (j : Int) < (es.length : Int) := by omega
      have HTo := Lib.hid hto
      have HOm := Lib.hid hom
      have HMi := Lib.hid hmi
      have HGb := Lib.hid hgb
      have HBw := Lib.hid hbw
      have HTk := Lib.hid htk
      have HSr := Lib.hid hszr
      clear hread hget hmem hdr hx hto hom hmi hgb hbw htk hszr
      subst eA
      obtain ⟨q, hq⟩ : ∃ q, cnt (es.take j) x.f0 = q := ⟨_, rfl⟩
      have HQ : Hid (D.atKey (.int .i64 x.f0) (.lit (.int .i64 0)) = .lit (.int .i64 q)) := Lib.hid (by rw [← hq]; exact HMi.out x.f0)
      have HQc := Lib.hid hq
      have HO3map := Lib.hid HOm.out.isMap
      obtain ⟨wa, hwa⟩ : ∃ wa, wr.alloc (.cells #[.int .i64 x.f0, .slice A1 x.f1.length c1] 59) = wa := ⟨_, rfl⟩
      have HNew : Hid (wr.heap.size < (wr.alloc (.cells #[.int .i64 x.f0, .slice A1 x.f1.length c1] 59)).heap.size) := Lib.hid (by rw [show (wr.alloc (.cells #[.int .i64 x.f0, .slice A1 x.f1.length c1] 59)).heap.size = wr.heap.size + 1 from Array.size_push _]; omega)
      have HNe : Hid (wr.heap.size ≠ w1.heap.size) := Lib.hid (by have h1 := HSr.out; have h2 := HSz.out; omega)
      have hnewb : (wr.alloc (.cells #[.int .i64 x.f0, .slice A1 x.f1.length c1] 59)).heap[wr.heap.size]? = some (.cells #[.int .i64 x.f0, .slice A1 x.f1.length c1] 59 (0, 0)) := World.alloc_heap_new wr _
      have HX0 : Hid ((wr.alloc (.cells #[.int .i64 x.f0, .slice A1 x.f1.length c1] 59)).cell? ⟨wr.heap.size, 0, none⟩ = some (.int .i64 x.f0)) := Lib.hid (by simp only [World.cell?, hnewb]; rfl)
      have HX1 : Hid ((wr.alloc (.cells #[.int .i64 x.f0, .slice A1 x.f1.length c1] 59)).cell? ⟨wr.heap.size, 1, none⟩ = some (.slice A1 x.f1.length c1)) := Lib.hid (by simp only [World.cell?, hnewb]; rfl)
      clear hnewb hwa hq
      have HFin : Hid (∀ w3 : World, (wr.alloc (.cells #[.int .i64 x.f0, .slice A1 x.f1.length c1] 59)).grownBy w3 (some w1.heap.size) → Below w.heap.size w w3) := Lib.hid (fun w3 hg => by
        have hba : Below w.heap.size w (wr.alloc (.cells #[.int .i64 x.f0, .slice A1 x.f1.length c1] 59)) := HBw.out.alloc (by have h1 := HSr.out; omega) _
        exact ⟨hg.os.trans hba.os, hg.tape.trans hba.tape, hg.output.trans hba.output, Nat.le_trans hba.size hg.size, fun k hk => (hg.block k (by have h1 := HNew.out; have h2 := HSr.out; omega) (fun e => by injection e with e; rw [HSz.out] at e; omega)).trans (hba.block k hk)⟩)
      have HFalse : Hid (extOk (es.take j) x = false → mayR m ses sui met h a es = false) := Lib.hid (fun he => by unfold mayR; rw [HTo.out, he]; simp)
      by_cases g1 : x.f0 < 1
      · have hb1 : decide (x.f0 < 1) = true := decide_eq_true g1
        go_wp2_with (first
        | (at_lookup; (try (refine gate_guard (by rfl) ?_; dsimp only)); refine wpList_lookup_own_int _ rfl _ _ 89 rfl 3 3 .i64 law3 Tryd.underlying89 Tryd.underlying3 (zero3 _) w1.heap.size _ _ rfl (HOm.out.alloc _) _ _ rfl hkey ?_; intro c hat hwc; obtain rfl : q = c := lit_int (HQ.out.symm.trans hat); clear hat hwc)
        | (at_mapUpdate; refine wpList_mapUpdate_own _ rfl _ _ _ 89 rfl 3 3 law3 Tryd.underlying89 _ w1.heap.size _ _ rfl (HOm.out.alloc _) (by unfold maxLen; omega) _ _ _ rfl rfl hkey _ [] (plainElem_int Tryd.underlying3 (wrap64_wf _)) ?_; intro w3 hown3 hgrow3
           have hx0 : w3.cell? ⟨wr.heap.size, 0, none⟩ = some (.int .i64 x.f0) := (grown_cell hgrow3 HNew.out HNe.out 0).trans HX0.out
           have hx1 : w3.cell? ⟨wr.heap.size, 1, none⟩ = some (.slice A1 x.f1.length c1) := (grown_cell hgrow3 HNew.out HNe.out 1).trans HX1.out
           have HO3 := Lib.hid hown3
           have HGr3 := Lib.hid hgrow3
           clear hown3 hgrow3)
        | (at_lookup; (try (refine gate_guard (by rfl) ?_; dsimp only)); refine wpList_lookup_own_int _ rfl _ _ 89 rfl 3 3 .i64 law3 Tryd.underlying89 Tryd.underlying3 (zero3 _) w1.heap.size _ _ rfl HO3.out _ _ rfl hkey ?_; intro c2 hat2 hwc2; obtain rfl : wrap64 (q + 1) = c2 := lit_int ((atKey_put_same HO3map.out (show WideAt.IsKeyLit (.int .i64 x.f0) from True.intro) _ _).symm.trans hat2); clear hat2 hwc2))
        go_ret
        refine ⟨?_, HFin.out _ HGr3.out⟩
        rw [HFalse.out (by simp [extOk, g1])]; rfl
      have hb1 : decide (x.f0 < 1) = false := decide_eq_false g1
      by_cases g2 : x.f0 > 65535
      · have hb2 : decide (x.f0 > 65535) = true := decide_eq_true g2
        go_wp2_with (first
        | (at_lookup; (try (refine gate_guard (by rfl) ?_; dsimp only)); refine wpList_lookup_own_int _ rfl _ _ 89 rfl 3 3 .i64 law3 Tryd.underlying89 Tryd.underlying3 (zero3 _) w1.heap.size _ _ rfl (HOm.out.alloc _) _ _ rfl hkey ?_; intro c hat hwc; obtain rfl : q = c := lit_int (HQ.out.symm.trans hat); clear hat hwc)
        | (at_mapUpdate; refine wpList_mapUpdate_own _ rfl _ _ _ 89 rfl 3 3 law3 Tryd.underlying89 _ w1.heap.size _ _ rfl (HOm.out.alloc _) (by unfold maxLen; omega) _ _ _ rfl rfl hkey _ [] (plainElem_int Tryd.underlying3 (wrap64_wf _)) ?_; intro w3 hown3 hgrow3
           have hx0 : w3.cell? ⟨wr.heap.size, 0, none⟩ = some (.int .i64 x.f0) := (grown_cell hgrow3 HNew.out HNe.out 0).trans HX0.out
           have hx1 : w3.cell? ⟨wr.heap.size, 1, none⟩ = some (.slice A1 x.f1.length c1) := (grown_cell hgrow3 HNew.out HNe.out 1).trans HX1.out
           have HO3 := Lib.hid hown3
           have HGr3 := Lib.hid hgrow3
           clear hown3 hgrow3)
        | (at_lookup; (try (refine gate_guard (by rfl) ?_; dsimp only)); refine wpList_lookup_own_int _ rfl _ _ 89 rfl 3 3 .i64 law3 Tryd.underlying89 Tryd.underlying3 (zero3 _) w1.heap.size _ _ rfl HO3.out _ _ rfl hkey ?_; intro c2 hat2 hwc2; obtain rfl : wrap64 (q + 1) = c2 := lit_int ((atKey_put_same HO3map.out (show WideAt.IsKeyLit (.int .i64 x.f0) from True.intro) _ _).symm.trans hat2); clear hat2 hwc2))
        go_ret
        refine ⟨?_, HFin.out _ HGr3.out⟩
        rw [HFalse.out (by simp [extOk, g2])]; rfl
      have hb2 : decide (x.f0 > 65535) = false := decide_eq_false g2
      by_cases g3 : x.f0 ∈ (es.take j).map (·.f0)
      · have hw2 : decide (wrap64 (q + 1) > 1) = true := by
          have : q = 1 := by rw [← HQc.out, cnt, if_pos g3]
          rw [this, Go.IntWalk.wrap64_in _ ⟨by omega, by omega⟩]; rfl
        go_wp2_with (first
        | (at_lookup; (try (refine gate_guard (by rfl) ?_; dsimp only)); refine wpList_lookup_own_int _ rfl _ _ 89 rfl 3 3 .i64 law3 Tryd.underlying89 Tryd.underlying3 (zero3 _) w1.heap.size _ _ rfl (HOm.out.alloc _) _ _ rfl hkey ?_; intro c hat hwc; obtain rfl : q = c := lit_int (HQ.out.symm.trans hat); clear hat hwc)
        | (at_mapUpdate; refine wpList_mapUpdate_own _ rfl _ _ _ 89 rfl 3 3 law3 Tryd.underlying89 _ w1.heap.size _ _ rfl (HOm.out.alloc _) (by unfold maxLen; omega) _ _ _ rfl rfl hkey _ [] (plainElem_int Tryd.underlying3 (wrap64_wf _)) ?_; intro w3 hown3 hgrow3
           have hx0 : w3.cell? ⟨wr.heap.size, 0, none⟩ = some (.int .i64 x.f0) := (grown_cell hgrow3 HNew.out HNe.out 0).trans HX0.out
           have hx1 : w3.cell? ⟨wr.heap.size, 1, none⟩ = some (.slice A1 x.f1.length c1) := (grown_cell hgrow3 HNew.out HNe.out 1).trans HX1.out
           have HO3 := Lib.hid hown3
           have HGr3 := Lib.hid hgrow3
           clear hown3 hgrow3)
        | (at_lookup; (try (refine gate_guard (by rfl) ?_; dsimp only)); refine wpList_lookup_own_int _ rfl _ _ 89 rfl 3 3 .i64 law3 Tryd.underlying89 Tryd.underlying3 (zero3 _) w1.heap.size _ _ rfl HO3.out _ _ rfl hkey ?_; intro c2 hat2 hwc2; obtain rfl : wrap64 (q + 1) = c2 := lit_int ((atKey_put_same HO3map.out (show WideAt.IsKeyLit (.int .i64 x.f0) from True.intro) _ _).symm.trans hat2); clear hat2 hwc2))
        go_ret
        refine ⟨?_, HFin.out _ HGr3.out⟩
        rw [HFalse.out (by unfold extOk; rw [decide_eq_true g3]; simp)]; rfl
      have hw2 : decide (wrap64 (q + 1) > 1) = false := by
        have : q = 0 := by rw [← HQc.out, cnt, if_neg g3]
        rw [this, Go.IntWalk.wrap64_in _ ⟨by omega, by omega⟩]; rfl
      by_cases g4 : x.f1.length > 65535
      · have hb4 : decide ((x.f1.length : Int) > 65535) = true := decide_eq_true (by omega)
        have hb4' : decide (65535 < x.f1.length) = true := decide_eq_true g4
        go_wp2_with (first
        | (at_lookup; (try (refine gate_guard (by rfl) ?_; dsimp only)); refine wpList_lookup_own_int _ rfl _ _ 89 rfl 3 3 .i64 law3 Tryd.underlying89 Tryd.underlying3 (zero3 _) w1.heap.size _ _ rfl (HOm.out.alloc _) _ _ rfl hkey ?_; intro c hat hwc; obtain rfl : q = c := lit_int (HQ.out.symm.trans hat); clear hat hwc)
        | (at_mapUpdate; refine wpList_mapUpdate_own _ rfl _ _ _ 89 rfl 3 3 law3 Tryd.underlying89 _ w1.heap.size _ _ rfl (HOm.out.alloc _) (by unfold maxLen; omega) _ _ _ rfl rfl hkey _ [] (plainElem_int Tryd.underlying3 (wrap64_wf _)) ?_; intro w3 hown3 hgrow3
           have hx0 : w3.cell? ⟨wr.heap.size, 0, none⟩ = some (.int .i64 x.f0) := (grown_cell hgrow3 HNew.out HNe.out 0).trans HX0.out
           have hx1 : w3.cell? ⟨wr.heap.size, 1, none⟩ = some (.slice A1 x.f1.length c1) := (grown_cell hgrow3 HNew.out HNe.out 1).trans HX1.out
           have HO3 := Lib.hid hown3
           have HGr3 := Lib.hid hgrow3
           clear hown3 hgrow3)
        | (at_lookup; (try (refine gate_guard (by rfl) ?_; dsimp only)); refine wpList_lookup_own_int _ rfl _ _ 89 rfl 3 3 .i64 law3 Tryd.underlying89 Tryd.underlying3 (zero3 _) w1.heap.size _ _ rfl HO3.out _ _ rfl hkey ?_; intro c2 hat2 hwc2; obtain rfl : wrap64 (q + 1) = c2 := lit_int ((atKey_put_same HO3map.out (show WideAt.IsKeyLit (.int .i64 x.f0) from True.intro) _ _).symm.trans hat2); clear hat2 hwc2))
        go_ret
        refine ⟨?_, HFin.out _ HGr3.out⟩
        rw [HFalse.out (by simp [extOk, g4])]; rfl
      have hb4 : decide ((x.f1.length : Int) > 65535) = false := decide_eq_false (by omega)
      have hb4' : decide (65535 < x.f1.length) = false := decide_eq_false g4
      go_wp2_with (first
      | (at_lookup; (try (refine gate_guard (by rfl) ?_; dsimp only)); refine wpList_lookup_own_int _ rfl _ _ 89 rfl 3 3 .i64 law3 Tryd.underlying89 Tryd.underlying3 (zero3 _) w1.heap.size _ _ rfl (HOm.out.alloc _) _ _ rfl hkey ?_; intro c hat hwc; obtain rfl : q = c := lit_int (HQ.out.symm.trans hat); clear hat hwc)
      | (at_mapUpdate; refine wpList_mapUpdate_own _ rfl _ _ _ 89 rfl 3 3 law3 Tryd.underlying89 _ w1.heap.size _ _ rfl (HOm.out.alloc _) (by unfold maxLen; omega) _ _ _ rfl rfl hkey _ [] (plainElem_int Tryd.underlying3 (wrap64_wf _)) ?_; intro w3 hown3 hgrow3
         have hx0 : w3.cell? ⟨wr.heap.size, 0, none⟩ = some (.int .i64 x.f0) := (grown_cell hgrow3 HNew.out HNe.out 0).trans HX0.out
         have hx1 : w3.cell? ⟨wr.heap.size, 1, none⟩ = some (.slice A1 x.f1.length c1) := (grown_cell hgrow3 HNew.out HNe.out 1).trans HX1.out
         have HO3 := Lib.hid hown3
         have HGr3 := Lib.hid hgrow3
         clear hown3 hgrow3)
      | (at_lookup; (try (refine gate_guard (by rfl) ?_; dsimp only)); refine wpList_lookup_own_int _ rfl _ _ 89 rfl 3 3 .i64 law3 Tryd.underlying89 Tryd.underlying3 (zero3 _) w1.heap.size _ _ rfl HO3.out _ _ rfl hkey ?_; intro c2 hat2 hwc2; obtain rfl : wrap64 (q + 1) = c2 := lit_int ((atKey_put_same HO3map.out (show WideAt.IsKeyLit (.int .i64 x.f0) from True.intro) _ _).symm.trans hat2); clear hat2 hwc2))
      refine ⟨⟨j + 1, _, by rw [Int.natCast_add]; rfl, hlt, ?_, HO3.out, ?_, ?_, HFin.out _ HGr3.out, ?_⟩, ?_⟩
      · rw [HTo.out, show extOk (es.take j) x = true from by unfold extOk; rw [hb1, hb2, decide_eq_false g3, decide_eq_false g4]; rfl]; exact Bool.true_and _
      · rw [HTk.out]
        have hq0 : wrap64 (q + 1) = 1 := by
          have : q = 0 := by rw [← HQc.out, cnt, if_neg g3]
          rw [this, Go.IntWalk.wrap64_in _ ⟨by omega, by omega⟩]; rfl
        rw [hq0]
        exact mapIs_put HMi.out HO3map.out g3
      · have h1 := HSr.out
        exact ⟨HGb.out.1, (HGr3.out.block _ (Nat.lt_trans (by omega) HNew.out) (fun e => by injection e with e; rw [HSz.out] at e; omega)).trans ((Array.getElem?_push_lt (by omega)).trans ((Array.getElem?_eq_getElem (by omega)).symm.trans HGb.out.2))⟩
      · have h1 := HGr3.out.size; have h2 := HNew.out; have h3 := HSr.out; omega
      · simp only [intOf]; omega
    · have hje : j = es.length := by omega
      subst hje
      have hto' : typesOk [] es = true := by rw [hto, List.take_length, List.drop_length]; rfl
      clear hmi hom hto hlt hj
      obtain ⟨⟨ph, pb⟩, hp⟩ : ∃ r, hplain h = r := ⟨_, rfl⟩
      have HPl := Lib.hid (plain_calls h wr hh (HLW.out.below hbw))
      rw [hp] at HPl
      have HGb := Lib.hid hgb
      have HBw := Lib.hid hbw
      have HTo := Lib.hid hto'
      have HP := Lib.hid hp
      have hc36 := HGb.out.c36
      have hsg : w.heap.size < wr.heap.size := by omega
      clear hgb hbw hto' hp hszr
      cases e1 : decide ((ses.length : Int) ≤ 32) with
      | false =>
        cases pb with
        | false =>
          go_wp2_with (first
          | (go_at_call 40; refine HPl.out.mono ?_; rintro e w2 ⟨rfl, hb2⟩
             have hg2 := HGb.out.below hb2 hsg
             have HB2 := Lib.hid (HBw.out.trans (hb2.mono (Nat.le_of_lt hsg)))
             have hc0 := hg2.c0
             have hc33 := hg2.c33
             have hc34 := hg2.c34
             have hc35 := hg2.c35
             have hc37 := hg2.c37
             have hc38' := hg2.c38
             clear hg2 hb2 hc36)
          | (go_at_call 49; refine (containsF_calls Au cu sui _ (Kd.C_below HSu.out HB2.out)).mono ?_; rintro e w3 ⟨rfl, rfl⟩))
          go_ret
          refine ⟨?_, HB2.out⟩
          rw [show mayR m ses sui met h a es = false from by simp only [mayR, HTo.out, HP.out, e1, Bool.and_true, Bool.and_false, Bool.true_and, Bool.false_and, Bool.not_true, Bool.not_false]]
          rfl
        | true =>
          cases e6 : sui.any oddI with
          | false =>
            go_wp2_with (first
            | (go_at_call 40; refine HPl.out.mono ?_; rintro e w2 ⟨rfl, hb2⟩
               have hg2 := HGb.out.below hb2 hsg
               have HB2 := Lib.hid (HBw.out.trans (hb2.mono (Nat.le_of_lt hsg)))
               have hc0 := hg2.c0
               have hc33 := hg2.c33
               have hc34 := hg2.c34
               have hc35 := hg2.c35
               have hc37 := hg2.c37
               have hc38' := hg2.c38
               clear hg2 hb2 hc36)
            | (go_at_call 49; refine (containsF_calls Au cu sui _ (Kd.C_below HSu.out HB2.out)).mono ?_; rw [e6]; rintro e w3 ⟨rfl, rfl⟩))
            go_ret
            refine ⟨?_, HB2.out⟩
            rw [show mayR m ses sui met h a es = false from by simp only [mayR, HTo.out, HP.out, e1, e6, Bool.and_true, Bool.and_false, Bool.true_and, Bool.false_and, Bool.not_true, Bool.not_false]]
            rfl
          | true =>
            go_wp2_with (first
            | (go_at_call 40; refine HPl.out.mono ?_; rintro e w2 ⟨rfl, hb2⟩
               have hg2 := HGb.out.below hb2 hsg
               have HB2 := Lib.hid (HBw.out.trans (hb2.mono (Nat.le_of_lt hsg)))
               have hc0 := hg2.c0
               have hc33 := hg2.c33
               have hc34 := hg2.c34
               have hc35 := hg2.c35
               have hc37 := hg2.c37
               have hc38' := hg2.c38
               clear hg2 hb2 hc36)
            | (go_at_call 49; refine (containsF_calls Au cu sui _ (Kd.C_below HSu.out HB2.out)).mono ?_; rw [e6]; rintro e w3 ⟨rfl, rfl⟩))
            go_ret
            refine ⟨?_, HB2.out⟩
            rw [show mayR m ses sui met h a es = false from by simp only [mayR, HTo.out, HP.out, e1, e6, Bool.and_true, Bool.and_false, Bool.true_and, Bool.false_and, Bool.not_true, Bool.not_false]]
            rfl
      | true =>
        cases e2 : decide (0 < sui.length) with
        | false =>
          cases pb with
          | false =>
            go_wp2_with (first
            | (go_at_call 40; refine HPl.out.mono ?_; rintro e w2 ⟨rfl, hb2⟩
               have hg2 := HGb.out.below hb2 hsg
               have HB2 := Lib.hid (HBw.out.trans (hb2.mono (Nat.le_of_lt hsg)))
               have hc0 := hg2.c0
               have hc33 := hg2.c33
               have hc34 := hg2.c34
               have hc35 := hg2.c35
               have hc37 := hg2.c37
               have hc38' := hg2.c38
               clear hg2 hb2 hc36)
            | (go_at_call 49; refine (containsF_calls Au cu sui _ (Kd.C_below HSu.out HB2.out)).mono ?_; rintro e w3 ⟨rfl, rfl⟩))
            go_ret
            refine ⟨?_, HB2.out⟩
            rw [show mayR m ses sui met h a es = false from by simp only [mayR, HTo.out, HP.out, e1, e2, Bool.and_true, Bool.and_false, Bool.true_and, Bool.false_and, Bool.not_true, Bool.not_false]]
            rfl
          | true =>
            cases e6 : sui.any oddI with
            | false =>
              go_wp2_with (first
              | (go_at_call 40; refine HPl.out.mono ?_; rintro e w2 ⟨rfl, hb2⟩
                 have hg2 := HGb.out.below hb2 hsg
                 have HB2 := Lib.hid (HBw.out.trans (hb2.mono (Nat.le_of_lt hsg)))
                 have hc0 := hg2.c0
                 have hc33 := hg2.c33
                 have hc34 := hg2.c34
                 have hc35 := hg2.c35
                 have hc37 := hg2.c37
                 have hc38' := hg2.c38
                 clear hg2 hb2 hc36)
              | (go_at_call 49; refine (containsF_calls Au cu sui _ (Kd.C_below HSu.out HB2.out)).mono ?_; rw [e6]; rintro e w3 ⟨rfl, rfl⟩))
              go_ret
              refine ⟨?_, HB2.out⟩
              rw [show mayR m ses sui met h a es = false from by simp only [mayR, HTo.out, HP.out, e1, e2, e6, Bool.and_true, Bool.and_false, Bool.true_and, Bool.false_and, Bool.not_true, Bool.not_false]]
              rfl
            | true =>
              go_wp2_with (first
              | (go_at_call 40; refine HPl.out.mono ?_; rintro e w2 ⟨rfl, hb2⟩
                 have hg2 := HGb.out.below hb2 hsg
                 have HB2 := Lib.hid (HBw.out.trans (hb2.mono (Nat.le_of_lt hsg)))
                 have hc0 := hg2.c0
                 have hc33 := hg2.c33
                 have hc34 := hg2.c34
                 have hc35 := hg2.c35
                 have hc37 := hg2.c37
                 have hc38' := hg2.c38
                 clear hg2 hb2 hc36)
              | (go_at_call 49; refine (containsF_calls Au cu sui _ (Kd.C_below HSu.out HB2.out)).mono ?_; rw [e6]; rintro e w3 ⟨rfl, rfl⟩))
              go_ret
              refine ⟨?_, HB2.out⟩
              rw [show mayR m ses sui met h a es = false from by simp only [mayR, HTo.out, HP.out, e1, e2, e6, Bool.and_true, Bool.and_false, Bool.true_and, Bool.false_and, Bool.not_true, Bool.not_false]]
              rfl
        | true =>
          cases e3 : decide (2 * (sui.length : Int) ≤ 65535) with
          | false =>
            cases pb with
            | false =>
              go_wp2_with (first
              | (go_at_call 40; refine HPl.out.mono ?_; rintro e w2 ⟨rfl, hb2⟩
                 have hg2 := HGb.out.below hb2 hsg
                 have HB2 := Lib.hid (HBw.out.trans (hb2.mono (Nat.le_of_lt hsg)))
                 have hc0 := hg2.c0
                 have hc33 := hg2.c33
                 have hc34 := hg2.c34
                 have hc35 := hg2.c35
                 have hc37 := hg2.c37
                 have hc38' := hg2.c38
                 clear hg2 hb2 hc36)
              | (go_at_call 49; refine (containsF_calls Au cu sui _ (Kd.C_below HSu.out HB2.out)).mono ?_; rintro e w3 ⟨rfl, rfl⟩))
              go_ret
              refine ⟨?_, HB2.out⟩
              rw [show mayR m ses sui met h a es = false from by simp only [mayR, HTo.out, HP.out, e1, e2, e3, Bool.and_true, Bool.and_false, Bool.true_and, Bool.false_and, Bool.not_true, Bool.not_false]]
              rfl
            | true =>
              cases e6 : sui.any oddI with
              | false =>
                go_wp2_with (first
                | (go_at_call 40; refine HPl.out.mono ?_; rintro e w2 ⟨rfl, hb2⟩
                   have hg2 := HGb.out.below hb2 hsg
                   have HB2 := Lib.hid (HBw.out.trans (hb2.mono (Nat.le_of_lt hsg)))
                   have hc0 := hg2.c0
                   have hc33 := hg2.c33
                   have hc34 := hg2.c34
                   have hc35 := hg2.c35
                   have hc37 := hg2.c37
                   have hc38' := hg2.c38
                   clear hg2 hb2 hc36)
                | (go_at_call 49; refine (containsF_calls Au cu sui _ (Kd.C_below HSu.out HB2.out)).mono ?_; rw [e6]; rintro e w3 ⟨rfl, rfl⟩))
                go_ret
                refine ⟨?_, HB2.out⟩
                rw [show mayR m ses sui met h a es = false from by simp only [mayR, HTo.out, HP.out, e1, e2, e3, e6, Bool.and_true, Bool.and_false, Bool.true_and, Bool.false_and, Bool.not_true, Bool.not_false]]
                rfl
              | true =>
                go_wp2_with (first
                | (go_at_call 40; refine HPl.out.mono ?_; rintro e w2 ⟨rfl, hb2⟩
                   have hg2 := HGb.out.below hb2 hsg
                   have HB2 := Lib.hid (HBw.out.trans (hb2.mono (Nat.le_of_lt hsg)))
                   have hc0 := hg2.c0
                   have hc33 := hg2.c33
                   have hc34 := hg2.c34
                   have hc35 := hg2.c35
                   have hc37 := hg2.c37
                   have hc38' := hg2.c38
                   clear hg2 hb2 hc36)
                | (go_at_call 49; refine (containsF_calls Au cu sui _ (Kd.C_below HSu.out HB2.out)).mono ?_; rw [e6]; rintro e w3 ⟨rfl, rfl⟩))
                go_ret
                refine ⟨?_, HB2.out⟩
                rw [show mayR m ses sui met h a es = false from by simp only [mayR, HTo.out, HP.out, e1, e2, e3, e6, Bool.and_true, Bool.and_false, Bool.true_and, Bool.false_and, Bool.not_true, Bool.not_false]]
                rfl
          | true =>
            cases e4 : met.contains 0 with
            | false =>
              cases pb with
              | false =>
                go_wp2_with (first
                | (go_at_call 40; refine HPl.out.mono ?_; rintro e w2 ⟨rfl, hb2⟩
                   have hg2 := HGb.out.below hb2 hsg
                   have HB2 := Lib.hid (HBw.out.trans (hb2.mono (Nat.le_of_lt hsg)))
                   have hc0 := hg2.c0
                   have hc33 := hg2.c33
                   have hc34 := hg2.c34
                   have hc35 := hg2.c35
                   have hc37 := hg2.c37
                   have hc38' := hg2.c38
                   clear hg2 hb2 hc36)
                | (go_at_call 49; refine (containsF_calls Au cu sui _ (Kd.C_below HSu.out HB2.out)).mono ?_; rintro e w3 ⟨rfl, rfl⟩)
                | ((try (refine gate_guard (by rfl) ?_; dsimp only)); go_at_call 51; refine (containsB_calls Am cm met 0 _ (Kd.C_below HMe.out HB2.out)).mono ?_; rw [e4]; rintro e w4 ⟨rfl, rfl⟩))
                go_ret
                refine ⟨?_, HB2.out⟩
                rw [show mayR m ses sui met h a es = false from by simp only [mayR, HTo.out, HP.out, e1, e2, e3, e4, Bool.and_true, Bool.and_false, Bool.true_and, Bool.false_and, Bool.not_true, Bool.not_false]]
                rfl
              | true =>
                cases e6 : sui.any oddI with
                | false =>
                  go_wp2_with (first
                  | (go_at_call 40; refine HPl.out.mono ?_; rintro e w2 ⟨rfl, hb2⟩
                     have hg2 := HGb.out.below hb2 hsg
                     have HB2 := Lib.hid (HBw.out.trans (hb2.mono (Nat.le_of_lt hsg)))
                     have hc0 := hg2.c0
                     have hc33 := hg2.c33
                     have hc34 := hg2.c34
                     have hc35 := hg2.c35
                     have hc37 := hg2.c37
                     have hc38' := hg2.c38
                     clear hg2 hb2 hc36)
                  | (go_at_call 49; refine (containsF_calls Au cu sui _ (Kd.C_below HSu.out HB2.out)).mono ?_; rw [e6]; rintro e w3 ⟨rfl, rfl⟩)
                  | ((try (refine gate_guard (by rfl) ?_; dsimp only)); go_at_call 51; refine (containsB_calls Am cm met 0 _ (Kd.C_below HMe.out HB2.out)).mono ?_; rw [e4]; rintro e w4 ⟨rfl, rfl⟩))
                  go_ret
                  refine ⟨?_, HB2.out⟩
                  rw [show mayR m ses sui met h a es = false from by simp only [mayR, HTo.out, HP.out, e1, e2, e3, e4, e6, Bool.and_true, Bool.and_false, Bool.true_and, Bool.false_and, Bool.not_true, Bool.not_false]]
                  rfl
                | true =>
                  go_wp2_with (first
                  | (go_at_call 40; refine HPl.out.mono ?_; rintro e w2 ⟨rfl, hb2⟩
                     have hg2 := HGb.out.below hb2 hsg
                     have HB2 := Lib.hid (HBw.out.trans (hb2.mono (Nat.le_of_lt hsg)))
                     have hc0 := hg2.c0
                     have hc33 := hg2.c33
                     have hc34 := hg2.c34
                     have hc35 := hg2.c35
                     have hc37 := hg2.c37
                     have hc38' := hg2.c38
                     clear hg2 hb2 hc36)
                  | (go_at_call 49; refine (containsF_calls Au cu sui _ (Kd.C_below HSu.out HB2.out)).mono ?_; rw [e6]; rintro e w3 ⟨rfl, rfl⟩)
                  | ((try (refine gate_guard (by rfl) ?_; dsimp only)); go_at_call 51; refine (containsB_calls Am cm met 0 _ (Kd.C_below HMe.out HB2.out)).mono ?_; rw [e4]; rintro e w4 ⟨rfl, rfl⟩))
                  go_ret
                  refine ⟨?_, HB2.out⟩
                  rw [show mayR m ses sui met h a es = false from by simp only [mayR, HTo.out, HP.out, e1, e2, e3, e4, e6, Bool.and_true, Bool.and_false, Bool.true_and, Bool.false_and, Bool.not_true, Bool.not_false]]
                  rfl
            | true =>
              cases e5 : decide ((met.length : Int) < 256) with
              | false =>
                cases pb with
                | false =>
                  go_wp2_with (first
                  | (go_at_call 40; refine HPl.out.mono ?_; rintro e w2 ⟨rfl, hb2⟩
                     have hg2 := HGb.out.below hb2 hsg
                     have HB2 := Lib.hid (HBw.out.trans (hb2.mono (Nat.le_of_lt hsg)))
                     have hc0 := hg2.c0
                     have hc33 := hg2.c33
                     have hc34 := hg2.c34
                     have hc35 := hg2.c35
                     have hc37 := hg2.c37
                     have hc38' := hg2.c38
                     clear hg2 hb2 hc36)
                  | (go_at_call 49; refine (containsF_calls Au cu sui _ (Kd.C_below HSu.out HB2.out)).mono ?_; rintro e w3 ⟨rfl, rfl⟩)
                  | ((try (refine gate_guard (by rfl) ?_; dsimp only)); go_at_call 51; refine (containsB_calls Am cm met 0 _ (Kd.C_below HMe.out HB2.out)).mono ?_; rw [e4]; rintro e w4 ⟨rfl, rfl⟩))
                  go_ret
                  refine ⟨?_, HB2.out⟩
                  rw [show mayR m ses sui met h a es = false from by simp only [mayR, HTo.out, HP.out, e1, e2, e3, e4, e5, Bool.and_true, Bool.and_false, Bool.true_and, Bool.false_and, Bool.not_true, Bool.not_false]]
                  rfl
                | true =>
                  cases e6 : sui.any oddI with
                  | false =>
                    go_wp2_with (first
                    | (go_at_call 40; refine HPl.out.mono ?_; rintro e w2 ⟨rfl, hb2⟩
                       have hg2 := HGb.out.below hb2 hsg
                       have HB2 := Lib.hid (HBw.out.trans (hb2.mono (Nat.le_of_lt hsg)))
                       have hc0 := hg2.c0
                       have hc33 := hg2.c33
                       have hc34 := hg2.c34
                       have hc35 := hg2.c35
                       have hc37 := hg2.c37
                       have hc38' := hg2.c38
                       clear hg2 hb2 hc36)
                    | (go_at_call 49; refine (containsF_calls Au cu sui _ (Kd.C_below HSu.out HB2.out)).mono ?_; rw [e6]; rintro e w3 ⟨rfl, rfl⟩)
                    | ((try (refine gate_guard (by rfl) ?_; dsimp only)); go_at_call 51; refine (containsB_calls Am cm met 0 _ (Kd.C_below HMe.out HB2.out)).mono ?_; rw [e4]; rintro e w4 ⟨rfl, rfl⟩))
                    go_ret
                    refine ⟨?_, HB2.out⟩
                    rw [show mayR m ses sui met h a es = false from by simp only [mayR, HTo.out, HP.out, e1, e2, e3, e4, e5, e6, Bool.and_true, Bool.and_false, Bool.true_and, Bool.false_and, Bool.not_true, Bool.not_false]]
                    rfl
                  | true =>
                    go_wp2_with (first
                    | (go_at_call 40; refine HPl.out.mono ?_; rintro e w2 ⟨rfl, hb2⟩
                       have hg2 := HGb.out.below hb2 hsg
                       have HB2 := Lib.hid (HBw.out.trans (hb2.mono (Nat.le_of_lt hsg)))
                       have hc0 := hg2.c0
                       have hc33 := hg2.c33
                       have hc34 := hg2.c34
                       have hc35 := hg2.c35
                       have hc37 := hg2.c37
                       have hc38' := hg2.c38
                       clear hg2 hb2 hc36)
                    | (go_at_call 49; refine (containsF_calls Au cu sui _ (Kd.C_below HSu.out HB2.out)).mono ?_; rw [e6]; rintro e w3 ⟨rfl, rfl⟩)
                    | ((try (refine gate_guard (by rfl) ?_; dsimp only)); go_at_call 51; refine (containsB_calls Am cm met 0 _ (Kd.C_below HMe.out HB2.out)).mono ?_; rw [e4]; rintro e w4 ⟨rfl, rfl⟩))
                    go_ret
                    refine ⟨?_, HB2.out⟩
                    rw [show mayR m ses sui met h a es = false from by simp only [mayR, HTo.out, HP.out, e1, e2, e3, e4, e5, e6, Bool.and_true, Bool.and_false, Bool.true_and, Bool.false_and, Bool.not_true, Bool.not_false]]
                    rfl
              | true =>
                cases pb with
                | false =>
                  go_wp2_with (first
                  | (go_at_call 40; refine HPl.out.mono ?_; rintro e w2 ⟨rfl, hb2⟩
                     have hg2 := HGb.out.below hb2 hsg
                     have HB2 := Lib.hid (HBw.out.trans (hb2.mono (Nat.le_of_lt hsg)))
                     have hc0 := hg2.c0
                     have hc33 := hg2.c33
                     have hc34 := hg2.c34
                     have hc35 := hg2.c35
                     have hc37 := hg2.c37
                     have hc38' := hg2.c38
                     clear hg2 hb2 hc36)
                  | (go_at_call 49; refine (containsF_calls Au cu sui _ (Kd.C_below HSu.out HB2.out)).mono ?_; rintro e w3 ⟨rfl, rfl⟩)
                  | ((try (refine gate_guard (by rfl) ?_; dsimp only)); go_at_call 51; refine (containsB_calls Am cm met 0 _ (Kd.C_below HMe.out HB2.out)).mono ?_; rw [e4]; rintro e w4 ⟨rfl, rfl⟩))
                  go_ret
                  refine ⟨?_, HB2.out⟩
                  rw [show mayR m ses sui met h a es = false from by simp only [mayR, HTo.out, HP.out, e1, e2, e3, e4, e5, Bool.and_true, Bool.and_false, Bool.true_and, Bool.false_and, Bool.not_true, Bool.not_false]]
                  rfl
                | true =>
                  cases e6 : sui.any oddI with
                  | false =>
                    cases e7 : decide (0 ≤ m) with
                    | false =>
                      go_wp2_with (first
                      | (go_at_call 40; refine HPl.out.mono ?_; rintro e w2 ⟨rfl, hb2⟩
                         have hg2 := HGb.out.below hb2 hsg
                         have HB2 := Lib.hid (HBw.out.trans (hb2.mono (Nat.le_of_lt hsg)))
                         have hc0 := hg2.c0
                         have hc33 := hg2.c33
                         have hc34 := hg2.c34
                         have hc35 := hg2.c35
                         have hc37 := hg2.c37
                         have hc38' := hg2.c38
                         clear hg2 hb2 hc36)
                      | (go_at_call 49; refine (containsF_calls Au cu sui _ (Kd.C_below HSu.out HB2.out)).mono ?_; rw [e6]; rintro e w3 ⟨rfl, rfl⟩)
                      | ((try (refine gate_guard (by rfl) ?_; dsimp only)); go_at_call 51; refine (containsB_calls Am cm met 0 _ (Kd.C_below HMe.out HB2.out)).mono ?_; rw [e4]; rintro e w4 ⟨rfl, rfl⟩))
                      go_ret
                      refine ⟨?_, HB2.out⟩
                      rw [show mayR m ses sui met h a es = false from by simp only [mayR, HTo.out, HP.out, e1, e2, e3, e4, e5, e6, e7, Bool.and_true, Bool.and_false, Bool.true_and, Bool.false_and, Bool.not_true, Bool.not_false]]
                      rfl
                    | true =>
                      cases e8 : decide (m ≤ 4) with
                      | false =>
                        go_wp2_with (first
                        | (go_at_call 40; refine HPl.out.mono ?_; rintro e w2 ⟨rfl, hb2⟩
                           have hg2 := HGb.out.below hb2 hsg
                           have HB2 := Lib.hid (HBw.out.trans (hb2.mono (Nat.le_of_lt hsg)))
                           have hc0 := hg2.c0
                           have hc33 := hg2.c33
                           have hc34 := hg2.c34
                           have hc35 := hg2.c35
                           have hc37 := hg2.c37
                           have hc38' := hg2.c38
                           clear hg2 hb2 hc36)
                        | (go_at_call 49; refine (containsF_calls Au cu sui _ (Kd.C_below HSu.out HB2.out)).mono ?_; rw [e6]; rintro e w3 ⟨rfl, rfl⟩)
                        | ((try (refine gate_guard (by rfl) ?_; dsimp only)); go_at_call 51; refine (containsB_calls Am cm met 0 _ (Kd.C_below HMe.out HB2.out)).mono ?_; rw [e4]; rintro e w4 ⟨rfl, rfl⟩))
                        go_ret
                        refine ⟨?_, HB2.out⟩
                        rw [show mayR m ses sui met h a es = false from by simp only [mayR, HTo.out, HP.out, e1, e2, e3, e4, e5, e6, e7, e8, Bool.and_true, Bool.and_false, Bool.true_and, Bool.false_and, Bool.not_true, Bool.not_false]]
                        rfl
                      | true =>
                        cases e9 : decide (0 ≤ a) with
                        | false =>
                          go_wp2_with (first
                          | (go_at_call 40; refine HPl.out.mono ?_; rintro e w2 ⟨rfl, hb2⟩
                             have hg2 := HGb.out.below hb2 hsg
                             have HB2 := Lib.hid (HBw.out.trans (hb2.mono (Nat.le_of_lt hsg)))
                             have hc0 := hg2.c0
                             have hc33 := hg2.c33
                             have hc34 := hg2.c34
                             have hc35 := hg2.c35
                             have hc37 := hg2.c37
                             have hc38' := hg2.c38
                             clear hg2 hb2 hc36)
                          | (go_at_call 49; refine (containsF_calls Au cu sui _ (Kd.C_below HSu.out HB2.out)).mono ?_; rw [e6]; rintro e w3 ⟨rfl, rfl⟩)
                          | ((try (refine gate_guard (by rfl) ?_; dsimp only)); go_at_call 51; refine (containsB_calls Am cm met 0 _ (Kd.C_below HMe.out HB2.out)).mono ?_; rw [e4]; rintro e w4 ⟨rfl, rfl⟩))
                          go_ret
                          refine ⟨?_, HB2.out⟩
                          rw [show mayR m ses sui met h a es = false from by simp only [mayR, HTo.out, HP.out, e1, e2, e3, e4, e5, e6, e7, e8, e9, Bool.and_true, Bool.and_false, Bool.true_and, Bool.false_and, Bool.not_true, Bool.not_false]]
                          rfl
                        | true =>
                          cases e10 : decide (a ≤ es.length) with
                          | false =>
                            go_wp2_with (first
                            | (go_at_call 40; refine HPl.out.mono ?_; rintro e w2 ⟨rfl, hb2⟩
                               have hg2 := HGb.out.below hb2 hsg
                               have HB2 := Lib.hid (HBw.out.trans (hb2.mono (Nat.le_of_lt hsg)))
                               have hc0 := hg2.c0
                               have hc33 := hg2.c33
                               have hc34 := hg2.c34
                               have hc35 := hg2.c35
                               have hc37 := hg2.c37
                               have hc38' := hg2.c38
                               clear hg2 hb2 hc36)
                            | (go_at_call 49; refine (containsF_calls Au cu sui _ (Kd.C_below HSu.out HB2.out)).mono ?_; rw [e6]; rintro e w3 ⟨rfl, rfl⟩)
                            | ((try (refine gate_guard (by rfl) ?_; dsimp only)); go_at_call 51; refine (containsB_calls Am cm met 0 _ (Kd.C_below HMe.out HB2.out)).mono ?_; rw [e4]; rintro e w4 ⟨rfl, rfl⟩))
                            go_ret
                            refine ⟨?_, HB2.out⟩
                            rw [show mayR m ses sui met h a es = false from by simp only [mayR, HTo.out, HP.out, e1, e2, e3, e4, e5, e6, e7, e8, e9, e10, Bool.and_true, Bool.and_false, Bool.true_and, Bool.false_and, Bool.not_true, Bool.not_false]]
                            rfl
                          | true =>
                            go_wp2_with (first
                            | (go_at_call 40; refine HPl.out.mono ?_; rintro e w2 ⟨rfl, hb2⟩
                               have hg2 := HGb.out.below hb2 hsg
                               have HB2 := Lib.hid (HBw.out.trans (hb2.mono (Nat.le_of_lt hsg)))
                               have hc0 := hg2.c0
                               have hc33 := hg2.c33
                               have hc34 := hg2.c34
                               have hc35 := hg2.c35
                               have hc37 := hg2.c37
                               have hc38' := hg2.c38
                               clear hg2 hb2 hc36)
                            | (go_at_call 49; refine (containsF_calls Au cu sui _ (Kd.C_below HSu.out HB2.out)).mono ?_; rw [e6]; rintro e w3 ⟨rfl, rfl⟩)
                            | ((try (refine gate_guard (by rfl) ?_; dsimp only)); go_at_call 51; refine (containsB_calls Am cm met 0 _ (Kd.C_below HMe.out HB2.out)).mono ?_; rw [e4]; rintro e w4 ⟨rfl, rfl⟩))
                            go_ret
                            refine ⟨?_, HB2.out⟩
                            rw [show mayR m ses sui met h a es = true from by simp only [mayR, HTo.out, HP.out, e1, e2, e3, e4, e5, e6, e7, e8, e9, e10, Bool.and_true, Bool.and_false, Bool.true_and, Bool.false_and, Bool.not_true, Bool.not_false]]
                            rfl
                  | true =>
                    go_wp2_with (first
                    | (go_at_call 40; refine HPl.out.mono ?_; rintro e w2 ⟨rfl, hb2⟩
                       have hg2 := HGb.out.below hb2 hsg
                       have HB2 := Lib.hid (HBw.out.trans (hb2.mono (Nat.le_of_lt hsg)))
                       have hc0 := hg2.c0
                       have hc33 := hg2.c33
                       have hc34 := hg2.c34
                       have hc35 := hg2.c35
                       have hc37 := hg2.c37
                       have hc38' := hg2.c38
                       clear hg2 hb2 hc36)
                    | (go_at_call 49; refine (containsF_calls Au cu sui _ (Kd.C_below HSu.out HB2.out)).mono ?_; rw [e6]; rintro e w3 ⟨rfl, rfl⟩)
                    | ((try (refine gate_guard (by rfl) ?_; dsimp only)); go_at_call 51; refine (containsB_calls Am cm met 0 _ (Kd.C_below HMe.out HB2.out)).mono ?_; rw [e4]; rintro e w4 ⟨rfl, rfl⟩))
                    go_ret
                    refine ⟨?_, HB2.out⟩
                    rw [show mayR m ses sui met h a es = false from by simp only [mayR, HTo.out, HP.out, e1, e2, e3, e4, e5, e6, Bool.and_true, Bool.and_false, Bool.true_and, Bool.false_and, Bool.not_true, Bool.not_false]]
                    rfl
end Go.Proofs.YtjcocepmmjmckaaDoor.PHello
