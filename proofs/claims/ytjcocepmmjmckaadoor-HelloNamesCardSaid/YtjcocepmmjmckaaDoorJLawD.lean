/- hello.Write (20): the walk. -/
import Derived.Test.YtjcocepmmjmckaaDoorJReg18
import Derived.Test.YtjcocepmmjmckaaDoorWZeros
set_option linter.unusedVariables false
set_option linter.unusedSimpArgs false
namespace Go.Proofs.YtjcocepmmjmckaaDoor.PHello
open Go.RowKit Go.Proofs.YtjcocepmmjmckaaDoorW.PrintWords Go.Proofs.YtjcocepmmjmckaaDoorW.PrintLast Go.Proofs.YtjcocepmmjmckaaDoorW.PrintMore
open Go.Proofs.YtjcocepmmjmckaaDoor.RegInv

theorem zero59 (w : World) : (zeroValue 59).run Tryd.prog w = .ok (.agg #[.int .i64 0, .slice none 0 0]) w := by kernel_rfl
/-- What Write answers, in memory. -/
def WriteP (r : Option (List UInt8)) (w : World) (e : Ending) (w' : World) : Prop :=
  Below w.heap.size w w' ∧ ((r = none ∧ e = .returned (.tuple #[.slice none 0 0, .int .i64 2])) ∨ (∃ b A c, r = some b ∧ e = .returned (.tuple #[.slice A b.length c, .int .i64 0]) ∧ RwB w.heap.size w' (.slice A b.length c) b))
theorem frame92 (gn : Nat → Value) : actOf 92 gn [] = ⟨#[gn 0, gn 1, gn 2, gn 3, gn 4, gn 5, gn 6, gn 7, gn 8, gn 9, gn 10, gn 11, gn 12, gn 13, gn 14, gn 15, gn 16, gn 17, gn 18, gn 19, gn 20, gn 21, gn 22, gn 23, gn 24, gn 25, gn 26, gn 27, gn 28, gn 29, gn 30, gn 31, gn 32, gn 33, gn 34, gn 35, gn 36, gn 37, gn 38, gn 39, gn 40, gn 41, gn 42, gn 43, gn 44, gn 45, gn 46, gn 47, gn 48, gn 49, gn 50, gn 51, gn 52, gn 53, gn 54, gn 55, gn 56, gn 57, gn 58, gn 59, gn 60, gn 61, gn 62, gn 63, gn 64, gn 65, gn 66, gn 67, gn 68, gn 69, gn 70, gn 71, gn 72, gn 73, gn 74, gn 75, gn 76, gn 77, gn 78, gn 79, gn 80, gn 81, gn 82, gn 83, gn 84, gn 85, gn 86, gn 87, gn 88, gn 89, gn 90, gn 91], []⟩ := rfl
theorem to_reg {ops opsX : Array Oper} {id : Nat} {Q : Exit → Act → World → Prop} {tmps : Array Value} {w : World} (hops : ops = opsX) (hs : tmps.size = 92) (h : (Code.region id opsX true).wp Tryd.prog Q (actOf 92 (fun k => tmps.getD k undef) []) w) : (Code.region id ops true).wp Tryd.prog Q ⟨tmps, []⟩ w := by
  subst hops
  have := act_of ⟨tmps, []⟩
  rw [show (⟨tmps, []⟩ : Act).tmps.size = 92 from hs] at this
  rw [this]
  exact h
theorem typesOk_mem {pre es : List S59} (h : typesOk pre es = true) : ∀ x ∈ es, 1 ≤ x.f0 ∧ x.f0 ≤ 65535 ∧ x.f1.length ≤ 65535 := by
  induction es generalizing pre with
  | nil => intro x hx; cases hx
  | cons y r ih =>
    rw [typesOk, Bool.and_eq_true] at h
    intro x hx
    rcases List.mem_cons.1 hx with rfl | hx
    · have h1 := h.1
      simp only [extOk, Bool.and_eq_true, Bool.not_eq_true', decide_eq_false_iff_not] at h1
      omega
    · exact ih h.2 x hx
/-- What a greeting that may be brings. -/
theorem mayR_facts {m a : Int} {ses met : List Int} {sui : List Int} {h : ByteArray} {xs : List (Int × List UInt8)} (hm : mayR m ses sui met h a (toS xs) = true) :
    (0 ≤ m ∧ m ≤ 4) ∧ (0 ≤ a ∧ a ≤ xs.length) ∧ (∀ x ∈ xs, 1 ≤ x.1 ∧ x.1 ≤ 65535 ∧ x.2.length ≤ 65535) ∧ (∀ n ∈ sui, oddI n = false) := by
  simp only [mayR, Bool.and_eq_true, decide_eq_true_eq, Bool.not_eq_true', List.any_eq_false, toS_len] at hm
  obtain ⟨⟨⟨⟨⟨⟨⟨h1, h2⟩, h3⟩, h4⟩, h5⟩, h6⟩, h7⟩, h8⟩ := hm
  refine ⟨⟨h5, h6⟩, ⟨h7, h8⟩, fun x hx => ?_, fun n hn => by simpa using h3 n hn⟩
  have := typesOk_mem h1 ⟨x.1, numsB x.2⟩ (List.mem_map.2 ⟨x, hx, rfl⟩)
  rwa [numsB_len] at this
theorem allX_len (xs : List (Int × List UInt8)) (a : Nat) (h : List UInt8) (ha : a ≤ xs.length) : (allX xs a h).length = xs.length + 1 := by
  simp only [allX, List.length_append, List.length_take, List.length_cons, List.length_drop]; omega
theorem allX_mem {xs : List (Int × List UInt8)} {a : Nat} {h : List UInt8} {P : Int × List UInt8 → Prop} (h1 : ∀ x ∈ xs, P x) (h2 : P (0, nameB h)) : ∀ x ∈ allX xs a h, P x := by
  intro x hx
  simp only [allX, List.mem_append, List.mem_cons] at hx
  rcases hx with hx | rfl | hx
  · exact h1 x (List.mem_of_mem_take hx)
  · exact h2
  · exact h1 x (List.mem_of_mem_drop hx)
theorem extsB_snoc (l : List (Int × List UInt8)) (x : Int × List UInt8) : extsB (l ++ [x]) = extsB l ++ extB x := by simp [extsB]
theorem suiB_snoc (l : List Int) (n : Int) : suiB (l ++ [n]) = suiB l ++ rowB 2 n.toNat := by simp [suiB]
set_option maxHeartbeats 8000000 in
set_option maxRecDepth 100000 in
theorem write_calls (m a : Int) (R : List UInt8) (As Au Am Ax : Option Addr) (cs cu cm cx : Nat) (ses met : List UInt8) (sui : List Int) (xs : List (Int × List UInt8)) (h : ByteArray) (w : World) (hR : R.length = 32) (hh : h.size ≤ 16777216) (hL : LW w)
    (hse : Kd.C (Kd.int .u8) w As ses.length (numsB ses)) (hcs : ses.length ≤ cs) (hsu : Kd.C (Kd.int .i64) w Au sui.length sui) (hme : Kd.C (Kd.int .u8) w Am met.length (numsB met)) (hcm : met.length ≤ cm) (hex : Kd.C k59 w Ax xs.length (toS xs)) (hcx : xs.length ≤ cx) (hsl : sui.length ≤ 16777216) (hsel : ses.length ≤ 16777216) (hml : met.length ≤ 16777216) (hxl : xs.length ≤ 65536) (hxd : ∀ x ∈ xs, x.2.length ≤ 16777216)
    (hwf : ∀ x ∈ toS xs, (Lit.int .i64 x.f0).wf = true) :
    Calls Tryd.prog 20 #[.agg (gcs m (cellsB R) (.slice As ses.length cs) (.slice Au sui.length cu) (.slice Am met.length cm) h a (.slice Ax xs.length cx)).toArray] w (WriteP (writeR m R ses sui met h a xs) w) := by
  have hm : Calls Tryd.prog 32 _ _ _ := may_calls m a (cellsB R) As Au Am Ax cs cu cm cx (numsB ses) sui (numsB met) (toS xs) h (w.alloc (.cells (gcs m (cellsB R) (.slice As ses.length cs) (.slice Au sui.length cu) (.slice Am met.length cm) h a (.slice Ax xs.length cx)).toArray 35)) (by rw [cellsB_len, hR]) (by omega) (LW.below hL (below_alloc (Below.refl _ _) _)) (Kd.C_alloc hsu _) (by rw [numsB_len]; exact Kd.C_alloc hme _) (by rw [toS_len]; exact Kd.C_alloc hex _) (by omega) hwf
  rw [numsB_len, numsB_len, toS_len] at hm
  have hg1 := GB.alloc w (m := m) (a := a) (R := cellsB R) (s := .slice As ses.length cs) (u := .slice Au sui.length cu) (me := .slice Am met.length cm) (x := .slice Ax xs.length cx) (h := h) (by rw [cellsB_len, hR])
  obtain ⟨w1, hw1⟩ : ∃ w1, w.alloc (.cells (gcs m (cellsB R) (.slice As ses.length cs) (.slice Au sui.length cu) (.slice Am met.length cm) h a (.slice Ax xs.length cx)).toArray 35) = w1 := ⟨_, rfl⟩
  have hb1 : Below w.heap.size w w1 := by rw [← hw1]; exact below_alloc (Below.refl _ w) _
  have hz1 : w1.heap.size = w.heap.size + 1 := by rw [← hw1]; exact Array.size_push _
  rw [hw1] at hm hg1
  obtain ⟨cs0, hcs0⟩ : ∃ cs0, (gcs m (cellsB R) (.slice As ses.length cs) (.slice Au sui.length cu) (.slice Am met.length cm) h a (.slice Ax xs.length cx)).toArray = cs0 := ⟨_, rfl⟩
  rw [hcs0] at hm hw1 ⊢
  have hg2 : w1.heap[w.heap.size]? = some (.cells cs0 35 (0, 0)) := by rw [← hcs0]; exact hg1.2
  have hsz0 : cs0.size = 39 := by rw [← hcs0]; simp [gcs, cellsB_len, hR]
  have HM := Lib.hid hm
  have HG1 := Lib.hid hg1
  have HG2 := Lib.hid hg2
  have HB1 := Lib.hid hb1
  have HZ1 := Lib.hid hz1
  have HS0 := Lib.hid hsz0
  have HSe := Lib.hid hse
  have HSu := Lib.hid hsu
  have HMe := Lib.hid hme
  have HEx := Lib.hid hex
  have HL := Lib.hid hL
  have HCs := Lib.hid hcs
  have HCm := Lib.hid hcm
  have HCx := Lib.hid hcx
  have HSl := Lib.hid hsl
  have HH := Lib.hid hh
  have hcv := fun (w : World) => Lib.run_convert_string_bytes (P := Tryd.prog) w 9 25 5 h Tryd.underlying9 Tryd.underlying25 Tryd.underlying5
  have hz59 := zero59
  have HR := Lib.hid hR
  have HSel := Lib.hid hsel
  have HMl := Lib.hid hml
  have HXl := Lib.hid hxl
  have HXd := Lib.hid hxd
  have HWf := Lib.hid hwf
  clear hm hg1 hg2 hb1 hz1 hsz0 hse hsu hme hex hL hcs hcm hcx hsl hh hR hwf hcs0 hsel hml hxl hxd
  cases hmay : mayR m (numsB ses) sui (numsB met) h a (toS xs) with
  | false =>
    have hr : writeR m R ses sui met h a xs = none := by unfold writeR; rw [hmay]; rfl
    rw [hr]
    rw [hmay] at HM
    clear hmay hr
    go_enter Tryd.func20, Tryd.ntmps20
    go_wp2_with (first
      | (refine wpList_load_row rfl 35 _ rfl w.heap.size rfl 35 _ (0, 0) _ HG2.out Tryd.underlying35 rfl (by rw [info35, HS0.out]) ?_)
      | (go_at_call 32; refine HM.out.mono ?_; rintro e w2 ⟨rfl, hb2⟩; have HB2 := Lib.hid (HB1.out.trans (hb2.mono HB1.out.size)); clear hb2))
    go_ret2
    exact ⟨HB2.out, Or.inl ⟨rfl, rfl⟩⟩
  | true =>
    rw [hmay] at HM
    have HMay := Lib.hid hmay
    clear hmay
    go_enter Tryd.func20, Tryd.ntmps20
    go_wp2_with (first
      | (refine wpList_load_row rfl 35 _ rfl w.heap.size rfl 35 _ (0, 0) _ HG2.out Tryd.underlying35 rfl (by rw [info35, HS0.out]) ?_)
      | (go_at_call 32; refine HM.out.mono ?_; rintro e w2 ⟨rfl, hb2⟩; have HB2 := Lib.hid (HB1.out.trans (hb2.mono HB1.out.size)); have hg2 := HG1.out.below hb2 (by have := HZ1.out; omega); have hc36 : (w2.alloc (.cells #[.int .u8 0] 5)).cell? ⟨w.heap.size, 36, none⟩ = some (.string h) := (below_cell (below_alloc (Below.refl _ w2) _) hg2.lt 36).trans hg2.c36; have HG := Lib.hid hg2; have HZ2 := Lib.hid hb2.size; clear hb2 hg2))
    have hx1 : RdLL ((Lib.bytesWorld (w2.alloc (.cells #[.int .u8 0] 5)) 5 h).alloc (.cells #[.slice (some ⟨w2.heap.size + 1, 0, none⟩) h.size (grownCap (w2.alloc (.cells #[.int .u8 0] 5)) h.size 0 5)] 25)) (some ⟨(Lib.bytesWorld (w2.alloc (.cells #[.int .u8 0] 5)) 5 h).heap.size, 0, none⟩) [h.data.toList] := by
      refine rdLL_lit (vals := [.slice (some ⟨w2.heap.size + 1, 0, none⟩) h.size (grownCap (w2.alloc (.cells #[.int .u8 0] 5)) h.size 0 5)]) (World.alloc_heap_new _ _) rfl (by simp) ?_
      intro j v l hj hl
      have hj0 : j = 0 := by have := (List.getElem?_eq_some_iff.1 hj).1; simpa using this
      subst hj0
      simp only [List.getElem?_cons_zero, Option.some.injEq] at hj hl
      subst hj
      subst hl
      have hlen : h.data.toList.length = h.size := Array.length_toList
      have hbr := BRow.rdC (BRow.conv (w2.alloc (.cells #[.int .u8 0] 5)) h) (by rw [hlen]; have := HH.out; omega)
      rw [show (w2.alloc (.cells #[.int .u8 0] 5)).heap.size = w2.heap.size + 1 from Array.size_push _] at hbr
      exact ⟨_, _, by rw [hlen], by rw [hlen]; exact grownCap_ge _ _ _ _, Kd.C_alloc hbr _⟩
    have hb3 : Below w.heap.size w ((Lib.bytesWorld (w2.alloc (.cells #[.int .u8 0] 5)) 5 h).alloc (.cells #[.slice (some ⟨w2.heap.size + 1, 0, none⟩) h.size (grownCap (w2.alloc (.cells #[.int .u8 0] 5)) h.size 0 5)] 25)) := by
      have h1 := HB2.out.alloc HB2.out.size (.cells #[.int .u8 0] 5)
      have h2 := h1.trans ((conv_below _ h).mono h1.size)
      exact h2.alloc h2.size _
    have hg3 : GB ((Lib.bytesWorld (w2.alloc (.cells #[.int .u8 0] 5)) 5 h).alloc (.cells #[.slice (some ⟨w2.heap.size + 1, 0, none⟩) h.size (grownCap (w2.alloc (.cells #[.int .u8 0] 5)) h.size 0 5)] 25)) w.heap.size m (cellsB R) (.slice As ses.length cs) (.slice Au sui.length cu) (.slice Am met.length cm) h a (.slice Ax xs.length cx) := by
      have h1 := HG.out.below (below_alloc (Below.refl _ w2) (.cells #[.int .u8 0] 5)) HG.out.lt
      have h2 := h1.below (conv_below _ h) h1.lt
      exact h2.below (below_alloc (Below.refl _ _) _) h2.lt
    have hk0 : ((Lib.bytesWorld (w2.alloc (.cells #[.int .u8 0] 5)) 5 h).alloc (.cells #[.slice (some ⟨w2.heap.size + 1, 0, none⟩) h.size (grownCap (w2.alloc (.cells #[.int .u8 0] 5)) h.size 0 5)] 25)).heap[w2.heap.size]? = some (.cells #[.int .u8 0] 5 (0, 0)) := by
      have h1 : (w2.alloc (.cells #[.int .u8 0] 5)).heap[w2.heap.size]? = some (.cells #[.int .u8 0] 5 (0, 0)) := World.alloc_heap_new w2 _
      have hlt : w2.heap.size < (w2.alloc (.cells #[.int .u8 0] 5)).heap.size := by rw [show (w2.alloc (.cells #[.int .u8 0] 5)).heap.size = w2.heap.size + 1 from Array.size_push _]; omega
      have h2 := ((conv_below (w2.alloc (.cells #[.int .u8 0] 5)) h).block _ hlt).trans h1
      exact ((below_alloc (Below.refl _ _) _).block _ (Array.getElem?_eq_some_iff.1 h2).1).trans h2
    obtain ⟨g3, hg3e⟩ : ∃ g3, (Lib.bytesWorld (w2.alloc (.cells #[.int .u8 0] 5)) 5 h).heap.size = g3 := ⟨_, rfl⟩
    obtain ⟨w3, hw3⟩ : ∃ w3, (Lib.bytesWorld (w2.alloc (.cells #[.int .u8 0] 5)) 5 h).alloc (.cells #[.slice (some ⟨w2.heap.size + 1, 0, none⟩) h.size (grownCap (w2.alloc (.cells #[.int .u8 0] 5)) h.size 0 5)] 25) = w3 := ⟨_, rfl⟩
    rw [hw3] at hx1 hb3 hg3 hk0 ⊢
    rw [hg3e] at hx1 ⊢
    have hlen : h.data.toList.length = h.size := Array.length_toList
    have hp1 := hpiece_calls 2 _ 1 [h.data.toList] w3 (by decide) hx1 (Nat.le_refl _) (by simp only [lenAll, List.flatten_cons, List.flatten_nil, List.append_nil, hlen]; have := HH.out; omega)
    rw [show ([h.data.toList] : List (List UInt8)).flatten = h.data.toList by simp, show ((2 : Nat) : Int) = 2 from rfl, show ([h.data.toList] : List (List UInt8)).length = 1 from rfl] at hp1
    refine hp1.mono ?_
    rintro e w4 ⟨v4, rfl, hr4, hb4⟩
    obtain ⟨A4, k4, rfl⟩ := Kd.R_slice hr4
    have HR4 := Lib.hid (RwB.rdV hr4)
    have hb4' := hb3.trans (hb4.mono hb3.size)
    have hg4 := hg3.below hb4 hg3.lt
    have hk4 := (hb4.block _ (Array.getElem?_eq_some_iff.1 hk0).1).trans hk0
    rw [numsB_len] at HR4 ⊢
    obtain ⟨q4, hq4⟩ : ∃ q, pcB 2 h.data.toList = q := ⟨_, rfl⟩
    rw [hq4] at HR4 ⊢
    have hql : q4.length = 2 + h.size := by rw [← hq4, pcB_len, hlen]
    clear hx1 hb3 hg3 hk0 hw3 hg3e hp1 hr4 hb4
    have hx5 : RdLL (w4.alloc (.cells #[.slice (some ⟨w2.heap.size, 0, none⟩) 1 1, .slice A4 q4.length k4] 25)) (some ⟨w4.heap.size, 0, none⟩) [[0], q4] := by
      refine rdLL_lit (vals := [.slice (some ⟨w2.heap.size, 0, none⟩) 1 1, .slice A4 q4.length k4]) (World.alloc_heap_new _ _) rfl (by simp) ?_
      intro j v l hj hl
      match j, hj, hl with
      | 0, hj, hl =>
        simp only [List.getElem?_cons_zero, Option.some.injEq] at hj hl
        subst hj
        subst hl
        exact ⟨_, _, rfl, Nat.le_refl _, Kd.C_alloc (litC (l := [0]) hk4 (by decide)) _⟩
      | 1, hj, hl =>
        simp only [List.getElem?_cons_succ, List.getElem?_cons_zero, Option.some.injEq] at hj hl
        subst hj
        subst hl
        exact RdV.below HR4.out (below_alloc (Below.refl _ _) _)
    have hp2 := hpiece_calls 2 _ 2 [[0], q4] (w4.alloc (.cells #[.slice (some ⟨w2.heap.size, 0, none⟩) 1 1, .slice A4 q4.length k4] 25)) (by decide) hx5 (Nat.le_refl _) (by simp only [lenAll, List.flatten_cons, List.flatten_nil, List.append_nil, List.length_append, List.length_cons, List.length_nil, hql]; have := HH.out; omega)
    rw [show ([[0], q4] : List (List UInt8)).flatten = [0] ++ q4 by simp, show ((2 : Nat) : Int) = 2 from rfl, show ([[0], q4] : List (List UInt8)).length = 2 from rfl] at hp2
    have hnm : pcB 2 ([0] ++ q4) = nameB h.data.toList := by rw [← hq4]; rfl
    rw [hnm] at hp2
    have HP2 := Lib.hid hp2
    have HB4 := Lib.hid hb4'
    have HG4 := Lib.hid hg4
    have HB4a := Lib.hid (hb4'.alloc hb4'.size (.cells #[.slice (some ⟨w2.heap.size, 0, none⟩) 1 1, .slice A4 q4.length k4] 25))
    have HG4a := Lib.hid (hg4.below (below_alloc (Below.refl _ w4) (.cells #[.slice (some ⟨w2.heap.size, 0, none⟩) 1 1, .slice A4 q4.length k4] 25)) hg4.lt)
    clear hb4' hg4 hk4 hq4 hql hx5 hp2 hnm hlen
    go_wp2_with fail
    refine HP2.out.mono ?_
    rintro e w5 ⟨v5, rfl, hr5, hb5⟩
    obtain ⟨A5, k5, rfl⟩ := Kd.R_slice hr5
    have HR5 := Lib.hid (RwB.rdV hr5)
    rw [numsB_len] at HR5 ⊢
    have HB5 := Lib.hid (HB4a.out.trans (hb5.mono HB4a.out.size))
    have HG5 := Lib.hid (HG4a.out.below hb5 HG4a.out.lt)
    clear HP2 HB4 HG4 HB4a HG4a hr5 hb5 HR4
    obtain ⟨nl, hnl⟩ : ∃ q, (nameB h.data.toList).length = q := ⟨_, rfl⟩
    have HNl := Lib.hid hnl
    rw [hnl]
    clear hnl
    go_wp2_with fail
    have hmf := mayR_facts HMay.out
    obtain ⟨an, rfl⟩ : ∃ an : Nat, a = an := ⟨a.toNat, by omega⟩
    obtain ⟨mn, rfl⟩ : ∃ mn : Nat, m = mn := ⟨m.toNat, by omega⟩
    have hw6 : (w5.alloc (.cells #[.int .i64 0, .slice A5 nl k5] 59)).heap.size = w5.heap.size + 1 := Array.size_push _
    have hba := below_alloc (Below.refl w5.heap.size w5) (.cells #[.int .i64 0, .slice A5 nl k5] 59)
    have hb6 : Below w.heap.size w (w5.alloc (.cells #[.int .i64 0, .slice A5 nl k5] 59)) := HB5.out.trans (hba.mono HB5.out.size)
    have HB6 := Lib.hid hb6
    have HG6 := Lib.hid (HG5.out.below hba HG5.out.lt)
    refine to_reg (opsX := ops5) (by kernel_rfl) (by kernel_rfl) ?_
    refine reg5 _ _ w.heap.size w5.heap.size an (.slice A5 nl k5) Ax cx xs h.data.toList HG6.out (World.alloc_heap_new w5 _) ((HNl.out ▸ HR5.out : RdV w5 (.slice A5 nl k5) (nameB h.data.toList)).below hba) (Kd.C_below (toS_len xs ▸ HEx.out) (hb6.mono (Nat.le_refl _))) HCx.out HXl.out (by omega) (by kernel_rfl) (by kernel_rfl) ?_
    intro gn w6 h31 h32 h33 hkp hb7
    have e1 : gn 1 = .pointer (some ⟨w.heap.size, 0, none⟩) := hkp 1 (by kernel_rfl)
    have e5 : gn 5 = .slice none 0 0 := hkp 5 (by kernel_rfl)
    have e6 : gn 6 = .slice none 0 0 := hkp 6 (by kernel_rfl)
    obtain ⟨A31, c31, h31e, hc31, hx31⟩ := h31
    have hxn := allX_len xs an h.data.toList (by omega)
    rw [← hxn] at h31e hc31 hx31
    rw [show ((xs.length : Int) + 1) = ((allX xs an h.data.toList).length : Int) by omega] at h32
    rw [frame92, e1, e5, e6, h31e, h32, h33]
    have HB7 := Lib.hid (hb6.trans (hb7.mono hb6.size))
    have HG7 := Lib.hid (HG6.out.below hb7 HG6.out.lt)
    have HX31 := Lib.hid hx31
    have HXN := Lib.hid hxn
    clear hxn
    have HXM : Hid (∀ x ∈ allX xs an h.data.toList, 0 ≤ x.1 ∧ x.1 ≤ 65535 ∧ x.2.length ≤ 16777300) := Lib.hid (allX_mem (fun x hx => by have := hmf.2.2.1 x hx; omega) ⟨Int.le_refl _, (by show (0 : Int) ≤ 65535; decide), by rw [HNl.out]; have h1 := HNl.out; rw [nameB_len, Array.length_toList] at h1; have h2 := HH.out; have h3 : h.data.size = h.size := rfl; omega⟩)
    have HMf := Lib.hid hmf
    clear hmf hw6 hba hb6 hkp e1 e5 e6 h31e h32 h33 hx31 hb7 HR5 HB5 HG5 HB6 HG6
    obtain ⟨al, hal⟩ : ∃ al, allX xs an h.data.toList = al := ⟨_, rfl⟩
    have HAl := Lib.hid hal
    rw [hal] at HX31 HXN HXM hc31 ⊢
    clear hal
    go_wp2_with fail
    go_loopw [33, 5] (fun v33 v5 wr => ∃ j : Nat, v33 = .int .i64 j ∧ j ≤ al.length ∧ RwB w6.heap.size wr v5 (extsB (al.take j)) ∧ Below w6.heap.size w6 wr) (fun i _ _ => al.length - (intOf i).toNat)
    case atStart => exact ⟨0, rfl, Nat.zero_le _, Kd.R_nil _ _ _ _ _, Below.refl _ _⟩
    case round =>
      obtain ⟨j, rfl, hj, hrw, hbw⟩ := hrel
      have HRw := Lib.hid hrw
      have HBw := Lib.hid hbw
      clear hrw hbw
      by_cases hlt : j < al.length
      · obtain ⟨ad, A1, c1, eA, hcell0, hcell1, hle1, hrow⟩ := at_T59 (Kd.C_below HX31.out HBw.out) (j : Int) (by omega) (by omega)
        have hget : rd_T59 (toS al) (j : Int) = ⟨al[j].1, numsB al[j].2⟩ := by simp [rd_T59, List.getD, toS, hlt]
        rw [hget] at hcell0 hcell1 hle1 hrow
        have hmem := HXM.out al[j] (List.getElem_mem hlt)
        have htk : al.take (j + 1) = al.take j ++ [al[j]] := List.take_succ_eq_append_getElem hlt
        have hel := extsB_le (xs := al.take j) (M := 16777300) (fun x hx => (HXM.out x (List.mem_of_mem_take hx)).2.2)
        rw [List.length_take] at hel
        have hel2 : (extsB (al.take j)).length ≤ 140737454800000 := Nat.le_trans hel (by
          have h1 : min j al.length ≤ 65537 := by have := HXN.out; have := HXl.out; omega
          have := Nat.mul_le_mul_right (16777300 + 4) h1
          omega)
        have HEl := Lib.hid hel2
        obtain ⟨x, hx⟩ : ∃ x, al[j] = x := ⟨_, rfl⟩
        rw [hx] at hcell0 hcell1 hle1 hrow hmem htk
        obtain ⟨t, ht⟩ : ∃ t : Nat, x.1 = t := ⟨x.1.toNat, by omega⟩
        rw [Int.toNat_natCast] at hcell0 hcell1
        rw [ht] at hcell0 hmem
        rw [numsB_len] at hcell1 hle1 hrow
        have HTk := Lib.hid htk
        have HT := Lib.hid ht
        have HMem := Lib.hid hmem
        have HRow := Lib.hid (show RdV wr (.slice A1 x.2.length c1) x.2 from ⟨A1, c1, rfl, hle1, hrow⟩)
        have hji : (j : Int) < (al.length : Int) := by omega
        clear hget hmem htk hel hel2 hx ht hle1 hrow
        subst eA
        obtain ⟨Av, cv, rfl⟩ := Kd.R_slice HRw.out
        go_wp2_with fail
        have hba := below_alloc (Below.refl wr.heap.size wr) (.cells #[.int .i64 t, .slice A1 x.2.length c1] 59)
        have hsz : (wr.alloc (.cells #[.int .i64 t, .slice A1 x.2.length c1] 59)).heap.size = wr.heap.size + 1 := Array.size_push _
        have hbq := HBw.out.size
        refine to_reg (opsX := ops8) (by kernel_rfl) (by kernel_rfl) ?_
        refine reg8 _ _ w6.heap.size wr.heap.size t (.slice A1 x.2.length c1) (.slice Av (numsB (extsB (al.take j))).length cv) (extsB (al.take j)) x.2 (World.alloc_heap_new wr _) (HRow.out.below hba) (HRw.out.below hba) (by omega) (by have := HMem.out; omega) HMem.out.2.2 HEl.out (by kernel_rfl) (by kernel_rfl) ?_
        intro gq w8 hr5 hkp hb8
        have e1 : gq 1 = .pointer (some ⟨w.heap.size, 0, none⟩) := hkp 1 (by kernel_rfl)
        have e6 : gq 6 = .slice none 0 0 := hkp 6 (by kernel_rfl)
        have e31 : gq 31 = .slice (some ad) al.length c31 := hkp 31 (by kernel_rfl)
        have e32 : gq 32 = .int .i64 al.length := hkp 32 (by kernel_rfl)
        have e33 : gq 33 = .int .i64 j := hkp 33 (by kernel_rfl)
        have e0 : gq 0 = gn 0 := hkp 0 (by kernel_rfl)
        have e2 : gq 2 = gn 2 := hkp 2 (by kernel_rfl)
        have e3 : gq 3 = gn 3 := hkp 3 (by kernel_rfl)
        have e4 : gq 4 = gn 4 := hkp 4 (by kernel_rfl)
        have e7 : gq 7 = gn 7 := hkp 7 (by kernel_rfl)
        have e9 : gq 9 = gn 9 := hkp 9 (by kernel_rfl)
        have e10 : gq 10 = gn 10 := hkp 10 (by kernel_rfl)
        have e11 : gq 11 = gn 11 := hkp 11 (by kernel_rfl)
        have e12 : gq 12 = gn 12 := hkp 12 (by kernel_rfl)
        have e13 : gq 13 = gn 13 := hkp 13 (by kernel_rfl)
        have e14 : gq 14 = gn 14 := hkp 14 (by kernel_rfl)
        have e15 : gq 15 = gn 15 := hkp 15 (by kernel_rfl)
        have e16 : gq 16 = gn 16 := hkp 16 (by kernel_rfl)
        have e17 : gq 17 = gn 17 := hkp 17 (by kernel_rfl)
        have e18 : gq 18 = gn 18 := hkp 18 (by kernel_rfl)
        have e19 : gq 19 = gn 19 := hkp 19 (by kernel_rfl)
        have e20 : gq 20 = gn 20 := hkp 20 (by kernel_rfl)
        have e21 : gq 21 = gn 21 := hkp 21 (by kernel_rfl)
        have e22 : gq 22 = gn 22 := hkp 22 (by kernel_rfl)
        have e23 : gq 23 = gn 23 := hkp 23 (by kernel_rfl)
        have e24 : gq 24 = gn 24 := hkp 24 (by kernel_rfl)
        have e25 : gq 25 = gn 25 := hkp 25 (by kernel_rfl)
        have e26 : gq 26 = gn 26 := hkp 26 (by kernel_rfl)
        have e27 : gq 27 = gn 27 := hkp 27 (by kernel_rfl)
        have e28 : gq 28 = gn 28 := hkp 28 (by kernel_rfl)
        have e29 : gq 29 = gn 29 := hkp 29 (by kernel_rfl)
        have e30 : gq 30 = gn 30 := hkp 30 (by kernel_rfl)
        have e48 : gq 48 = gn 48 := hkp 48 (by kernel_rfl)
        have e49 : gq 49 = gn 49 := hkp 49 (by kernel_rfl)
        have e50 : gq 50 = gn 50 := hkp 50 (by kernel_rfl)
        have e51 : gq 51 = gn 51 := hkp 51 (by kernel_rfl)
        have e52 : gq 52 = gn 52 := hkp 52 (by kernel_rfl)
        have e53 : gq 53 = gn 53 := hkp 53 (by kernel_rfl)
        have e54 : gq 54 = gn 54 := hkp 54 (by kernel_rfl)
        have e55 : gq 55 = gn 55 := hkp 55 (by kernel_rfl)
        have e56 : gq 56 = gn 56 := hkp 56 (by kernel_rfl)
        have e57 : gq 57 = gn 57 := hkp 57 (by kernel_rfl)
        have e58 : gq 58 = gn 58 := hkp 58 (by kernel_rfl)
        have e59 : gq 59 = gn 59 := hkp 59 (by kernel_rfl)
        have e60 : gq 60 = gn 60 := hkp 60 (by kernel_rfl)
        have e61 : gq 61 = gn 61 := hkp 61 (by kernel_rfl)
        have e62 : gq 62 = gn 62 := hkp 62 (by kernel_rfl)
        have e63 : gq 63 = gn 63 := hkp 63 (by kernel_rfl)
        have e64 : gq 64 = gn 64 := hkp 64 (by kernel_rfl)
        have e65 : gq 65 = gn 65 := hkp 65 (by kernel_rfl)
        have e66 : gq 66 = gn 66 := hkp 66 (by kernel_rfl)
        have e67 : gq 67 = gn 67 := hkp 67 (by kernel_rfl)
        have e68 : gq 68 = gn 68 := hkp 68 (by kernel_rfl)
        have e69 : gq 69 = gn 69 := hkp 69 (by kernel_rfl)
        have e70 : gq 70 = gn 70 := hkp 70 (by kernel_rfl)
        have e71 : gq 71 = gn 71 := hkp 71 (by kernel_rfl)
        have e72 : gq 72 = gn 72 := hkp 72 (by kernel_rfl)
        have e73 : gq 73 = gn 73 := hkp 73 (by kernel_rfl)
        have e74 : gq 74 = gn 74 := hkp 74 (by kernel_rfl)
        have e75 : gq 75 = gn 75 := hkp 75 (by kernel_rfl)
        have e76 : gq 76 = gn 76 := hkp 76 (by kernel_rfl)
        have e77 : gq 77 = gn 77 := hkp 77 (by kernel_rfl)
        have e78 : gq 78 = gn 78 := hkp 78 (by kernel_rfl)
        have e79 : gq 79 = gn 79 := hkp 79 (by kernel_rfl)
        have e80 : gq 80 = gn 80 := hkp 80 (by kernel_rfl)
        have e81 : gq 81 = gn 81 := hkp 81 (by kernel_rfl)
        have e82 : gq 82 = gn 82 := hkp 82 (by kernel_rfl)
        have e83 : gq 83 = gn 83 := hkp 83 (by kernel_rfl)
        have e84 : gq 84 = gn 84 := hkp 84 (by kernel_rfl)
        have e85 : gq 85 = gn 85 := hkp 85 (by kernel_rfl)
        have e86 : gq 86 = gn 86 := hkp 86 (by kernel_rfl)
        have e87 : gq 87 = gn 87 := hkp 87 (by kernel_rfl)
        have e88 : gq 88 = gn 88 := hkp 88 (by kernel_rfl)
        have e89 : gq 89 = gn 89 := hkp 89 (by kernel_rfl)
        have e90 : gq 90 = gn 90 := hkp 90 (by kernel_rfl)
        have e91 : gq 91 = gn 91 := hkp 91 (by kernel_rfl)
        rw [frame92, e1, e6, e31, e32, e33, e0, e2, e3, e4, e7, e9, e10, e11, e12, e13, e14, e15, e16, e17, e18, e19, e20, e21, e22, e23, e24, e25, e26, e27, e28, e29, e30, e48, e49, e50, e51, e52, e53, e54, e55, e56, e57, e58, e59, e60, e61, e62, e63, e64, e65, e66, e67, e68, e69, e70, e71, e72, e73, e74, e75, e76, e77, e78, e79, e80, e81, e82, e83, e84, e85, e86, e87, e88, e89, e90, e91]
        have HR8 := Lib.hid hr5
        have HB8 := Lib.hid (HBw.out.trans ((hba.mono hbq).trans hb8))
        obtain ⟨A8, c8, e8⟩ := Kd.R_slice HR8.out
        rw [e8] at HR8
        rw [e8]
        clear hr5 hkp hb8 e1 e6 e31 e32 e33 hba hsz hbq e8 e0 e2 e3 e4 e7 e9 e10 e11 e12 e13 e14 e15 e16 e17 e18 e19 e20 e21 e22 e23 e24 e25 e26 e27 e28 e29 e30 e48 e49 e50 e51 e52 e53 e54 e55 e56 e57 e58 e59 e60 e61 e62 e63 e64 e65 e66 e67 e68 e69 e70 e71 e72 e73 e74 e75 e76 e77 e78 e79 e80 e81 e82 e83 e84 e85 e86 e87 e88 e89 e90 e91
        have hwr : IntKind.i64.wrap ((j : Int) + 1) = (j : Int) + 1 := by have h1 := HXN.out; have h2 := HXl.out; rw [IntKind.wrap_i64]; omega
        go_wp2_with fail
        go_roundw
        case rel =>
          refine ⟨j + 1, by go_num, by omega, ?_, HB8.out⟩
          rw [HTk.out, extsB_snoc]
          have h5 := HR8.out
          have hex : extB x = rowB 2 t ++ pcB 2 x.2 := by unfold extB; rw [HT.out, Int.toNat_natCast]
          rw [hex]
          exact h5
        case measure => simp [intOf]; omega
      · obtain rfl : j = al.length := by omega
        rw [List.take_length] at HRw
        have hba := HBw.out
        have HG9 := Lib.hid (HG7.out.below hba HG7.out.lt)
        have hc34 := HG9.out.c34
        have HB9 := Lib.hid (HB7.out.trans (hba.mono HB7.out.size))
        have HSu9 := Lib.hid (Kd.C_below HSu.out HB9.out)
        obtain ⟨A9, c9, rfl⟩ := Kd.R_slice HRw.out
        clear hba
        obtain ⟨wA, hwA⟩ : ∃ q, q = wr := ⟨_, rfl⟩
        subst hwA
        go_wp2_with fail
        clear hc34
        go_loopw [51, 6] (fun v51 v6 wq => ∃ j : Nat, v51 = .int .i64 j ∧ j ≤ sui.length ∧ RwB wA.heap.size wq v6 (suiB (sui.take j)) ∧ Below wA.heap.size wA wq) (fun i _ _ => sui.length - (intOf i).toNat)
        case atStart => exact ⟨0, rfl, Nat.zero_le _, Kd.R_nil _ _ _ _ _, Below.refl _ _⟩
        case round =>
          obtain ⟨j, rfl, hj, hrw, hbw⟩ := hrel
          have HR2 := Lib.hid hrw
          have HB2 := Lib.hid hbw
          clear hrw hbw
          by_cases hlt : j < sui.length
          · obtain ⟨ad, eA, hcell⟩ := Kd.at_int (Kd.C_below HSu9.out HB2.out) (j : Int) (by omega) (by omega)
            rw [rd_get sui j hlt, Int.toNat_natCast] at hcell
            have hji : (j : Int) < (sui.length : Int) := by omega
            have htk : sui.take (j + 1) = sui.take j ++ [sui[j]] := List.take_succ_eq_append_getElem hlt
            have hodd := HMf.out.2.2.2 sui[j] (List.getElem_mem hlt)
            obtain ⟨x, hx⟩ : ∃ x, sui[j] = x := ⟨_, rfl⟩
            rw [hx] at hcell htk hodd
            have hx0 : 0 ≤ x ∧ x ≤ 65535 := by
              simp only [oddI, Bool.or_eq_false_iff, decide_eq_false_iff_not] at hodd
              omega
            obtain ⟨t, rfl⟩ : ∃ t : Nat, x = t := ⟨x.toNat, by omega⟩
            have HTk := Lib.hid htk
            have HLn : Hid ((suiB (sui.take j)).length ≤ 33554432) := Lib.hid (by rw [suiB_len, List.length_take]; have := HSl.out; omega)
            clear htk hodd hx
            subst eA
            have hwr : IntKind.i64.wrap ((j : Int) + 1) = (j : Int) + 1 := by have h2 := HSl.out; rw [IntKind.wrap_i64]; omega
            obtain ⟨A6, c6, rfl⟩ := Kd.R_slice HR2.out
            have HRow := Lib.hid (fun w => row_calls t 2 w (by omega) (by decide))
            clear hx0
            go_wp2_with (first
              | (go_at_call 47; refine (HRow.out _).mono ?_; rintro e w2 ⟨v2, rfl, hr2, hb2⟩; have HRd := Lib.hid (RwB.rdV hr2); obtain ⟨A2, c2, rfl⟩ := Kd.R_slice hr2; have HB2b := Lib.hid (HB2.out.trans (hb2.mono HB2.out.size)); have HR2b := Lib.hid (HR2.out.below hb2); clear hr2 hb2)
              | (at_builtin; refine Kd.R_append_rows (Kd.int .u8) (w0 := wA) wA.heap.size rfl (.tmp 55) (.tmp 57) 25 5 (.int .u8 0) 1 rfl Tryd.underlying25 info5 rfl (by decide) (by decide) (.slice A6 (numsB (suiB (sui.take j))).length c6) (numsB (suiB (sui.take j))) (numsB (rowB 2 t)) A2 _ c2 (fun _ => True) (fun _ => False) rfl rfl HR2b.out (by obtain ⟨A3, c3, q1, q2, q3⟩ := HRd.out; rw [numsB_len] at q1; injection q1 with q1 q4 q5; subst q1; rw [numsB_len]; exact q3) (fun _ _ h => h) (fun _ h => h.elim) (fun _ _ => trivial) HB2b.out HB2b.out.size (by rw [numsB_len, numsB_len, rowB_len]; have := HLn.out; omega) ?_
                 intro v5 w5 ho hb hg hat
                 rw [← numsB_app] at ho
                 obtain ⟨A5b, c5b, rfl⟩ := Kd.R_slice ho
                 have HO := Lib.hid ho
                 have HB5 := Lib.hid hb
                 clear ho hb hg hat))
            go_roundw
            case rel =>
              refine ⟨j + 1, by go_num, by omega, ?_, HB5.out⟩
              rw [HTk.out, suiB_snoc, Int.toNat_natCast]
              exact HO.out
            case measure => simp [intOf]; omega
          · obtain rfl : j = sui.length := by omega
            rw [List.take_length] at HR2
            obtain ⟨A6, c6, rfl⟩ := Kd.R_slice HR2.out
            have HB10 := Lib.hid (HB9.out.trans (HB2.out.mono HB9.out.size))
            have HG10 := Lib.hid (HG9.out.below HB2.out HG9.out.lt)
            obtain ⟨wB, hwB⟩ : ∃ q, q = wr := ⟨_, rfl⟩
            subst hwB
            go_wp2_with fail
            have hel := extsB_le (xs := al) (M := 16777300) (fun x hx => (HXM.out x hx).2.2)
            have hel2 : (extsB al).length ≤ 35184372088832 := Nat.le_trans hel (by
              have h1 : al.length ≤ 65537 := by have := HXN.out; have := HXl.out; omega
              have := Nat.mul_le_mul_right (16777300 + 4) h1
              omega)
            refine to_reg (opsX := ops15) (by kernel_rfl) (by kernel_rfl) ?_
            refine reg15 _ _ w.heap.size mn an R ses (suiB sui) met (extsB al) (.slice As ses.length cs) (.slice Au sui.length cu) (.slice Am met.length cm) (.slice Ax xs.length cx) (.slice A6 (numsB (suiB sui)).length c6) (.slice A9 (numsB (extsB al)).length c9) h HG10.out ⟨As, cs, rfl, HCs.out, Kd.C_below HSe.out HB10.out⟩ ⟨Am, cm, rfl, HCm.out, Kd.C_below HMe.out HB10.out⟩ (RwB.rdV HR2.out) ((RwB.rdV HRw.out).below HB2.out) (by kernel_rfl) (by kernel_rfl) (by kernel_rfl) HSel.out (by rw [suiB_len]; have := HSl.out; omega) HMl.out hel2 ?_
            intro gq w10 hr11 hkp hb10
            have e1 : gq 1 = .pointer (some ⟨w.heap.size, 0, none⟩) := hkp 1 (by kernel_rfl)
            have hob : [1] ++ pcB 3 ([3, 3] ++ R ++ pcB 1 ses ++ pcB 2 (suiB sui) ++ pcB 1 met ++ pcB 2 (extsB al)) = ownB R ses sui met h.data.toList an xs := by unfold ownB; rw [HAl.out]
            rw [hob] at hr11
            obtain ⟨ob, hobe⟩ : ∃ ob, ownB R ses sui met h.data.toList an xs = ob := ⟨_, rfl⟩
            rw [hobe] at hr11
            have HOb := Lib.hid hobe
            have HR11 := Lib.hid hr11
            obtain ⟨A11, c11, e11⟩ := Kd.R_slice hr11
            rw [numsB_len] at e11
            rw [frame92, e1, e11]
            rw [e11] at HR11
            have HB11 := Lib.hid (HB10.out.trans (hb10.mono HB10.out.size))
            have HG11 := Lib.hid (HG10.out.below hb10 HG10.out.lt)
            clear hel hel2 hr11 hkp hb10 e1 e11 hob hobe
            by_cases hbig : ob.length ≤ 16384
            · have hb1 : decide (16384 < (ob.length : Int)) = false := decide_eq_false (by omega)
              have hb2 : ¬ ((ob.length : Int) > 16384) := by omega
              go_wp2_with fail
              refine to_reg (opsX := ops18) (by kernel_rfl) (by kernel_rfl) ?_
              refine reg18 _ _ w.heap.size mn an (cellsB R) ob (.slice As ses.length cs) (.slice Au sui.length cu) (.slice Am met.length cm) (.slice Ax xs.length cx) (.slice A11 ob.length c11) h HG11.out (RwB.rdV HR11.out) (by have := HMf.out.1; omega) (by kernel_rfl) (by kernel_rfl) hbig ?_
              intro gz w11 hr2 h3 hb11
              obtain ⟨A2, c2, e2⟩ := Kd.R_slice hr2
              have HR12 := Lib.hid hr2
              rw [e2] at HR12
              rw [frame92, e2, h3]
              have HB12 := Lib.hid (HB11.out.trans (hb11.mono HB11.out.size))
              clear hr2 h3 hb11 e2
              rw [numsB_len] at HR12 ⊢
              go_wp2_with fail
              go_ret2
              refine ⟨HB12.out, Or.inr ⟨_, A2, c2, ?_, rfl, Kd.R_lower HR12.out HB11.out.size⟩⟩
              unfold writeR
              rw [HMay.out, if_pos rfl, Int.toNat_natCast, HOb.out, if_pos hbig, Int.toNat_natCast]
            · have hb1 : decide (16384 < (ob.length : Int)) = true := decide_eq_true (by omega)
              have hb2 : (ob.length : Int) > 16384 := by omega
              go_wp2_with fail
              go_ret2
              refine ⟨HB11.out, Or.inl ⟨?_, rfl⟩⟩
              unfold writeR
              rw [HMay.out, if_pos rfl, Int.toNat_natCast, HOb.out, if_neg hbig]
end Go.Proofs.YtjcocepmmjmckaaDoor.PHello
/- The laws' own small functions: sni (11), plain (22), refused (23). -/
set_option linter.unusedVariables false
set_option linter.unusedSimpArgs false
namespace Go.Proofs.YtjcocepmmjmckaaDoor.PHello
open Go.RowKit Go.Proofs.YtjcocepmmjmckaaDoorW.PrintWords Go.Proofs.YtjcocepmmjmckaaDoorW.PrintLast Go.Proofs.YtjcocepmmjmckaaDoorW.PrintMore

set_option maxHeartbeats 4000000 in
set_option maxRecDepth 100000 in
theorem sni_yes (A : Option Addr) (c : Nat) (l : List UInt8) (want : ByteArray) (n : Int) (w : World) (hr : Kd.C (Kd.int .u8) w A l.length (numsB l)) (hc : l.length ≤ c) (hL : LW w) (hs : sniR l = (want, n)) :
    Calls Tryd.prog 11 #[.slice A l.length c, .string want, .int .i64 n] w fun e w' => e = .returned (.bool true) ∧ Below w.heap.size w w' := by
  have hS := sni_calls A c l w hr hc hL
  rw [hs] at hS
  have HS := Lib.hid hS
  clear hS hs hr hc hL
  go_enter Tryd.func11, Tryd.ntmps11
  go_wp2_with (go_at_call 15; refine HS.out.mono ?_; rintro e w1 ⟨rfl, hb⟩; have HB := Lib.hid hb; clear hb)
  go_ret
  exact ⟨rfl, HB.out⟩
/-- Numbers that a statement has laid. -/
theorem litI {k : IntKind} {t : TypeId} {w : World} {g : Nat} {l : List Int} (hg : w.heap[g]? = some (.cells (l.map (Value.int k)).toArray t (0, 0))) (hm : l.length ≤ 9223372036854775807) : Kd.C (Kd.int k) w (some ⟨g, 0, none⟩) l.length l := by
  refine ⟨rfl, hm, fun _ => ⟨_, rfl, fun j p hj => ?_⟩⟩
  have hjl : j < l.length := (List.getElem?_eq_some_iff.1 hj).1
  refine ⟨[.int k p], rfl, rfl, fun i u hu => ?_⟩
  have hi : i = 0 := by have := (List.getElem?_eq_some_iff.1 hu).1; simpa using this
  subst hi
  simp only [List.getElem?_cons_zero, Option.some.injEq] at hu
  subst hu
  rw [Addr.add_lit]
  show w.cell? ⟨g, 0 + (j * 1 + 0), none⟩ = _
  rw [Nat.zero_add, Nat.mul_one, Nat.add_zero, cell_of_row w g j _ t (0, 0) hg]
  simp [hj]
/-- The chapter's greeting, laid. -/
def PlV (e : Ending) (w w' : World) : Prop :=
  ∃ k1 k2 : Nat, e = .returned (.agg (gcs 1 zeros nilS (.slice (some ⟨k1, 0, none⟩) 1 1) (.slice (some ⟨k2, 0, none⟩) 1 1) ⟨#[97]⟩ 0 nilS).toArray) ∧ Kd.C (Kd.int .i64) w' (some ⟨k1, 0, none⟩) 1 [4865] ∧ Kd.C (Kd.int .u8) w' (some ⟨k2, 0, none⟩) 1 [0] ∧ Below w.heap.size w w'
theorem build35 (k1 k2 : Nat) (w : World) : (Instr.build 35 #[(0, .int .i64 1), (3, .slice (some ⟨k1, 0, none⟩) 1 1), (4, .slice (some ⟨k2, 0, none⟩) 1 1), (5, .string ⟨#[97]⟩)]).run Tryd.prog w = .ok (.agg (gcs 1 zeros nilS (.slice (some ⟨k1, 0, none⟩) 1 1) (.slice (some ⟨k2, 0, none⟩) 1 1) ⟨#[97]⟩ 0 nilS).toArray) w := by kernel_rfl
theorem wpList_build22 {ops : Array Oper} {rest : List Oper} {o : Oper} {a : Act} {w : World} {Q : Exit → Act → World → Prop} (hgd : o.guard = none) (ho : o.op = .build 35 #[(0, .const (.int .i64 1)), (3, .tmp 1), (4, .tmp 2), (5, .const (.string ⟨#[97]⟩))])
    (k1 k2 : Nat) (h1 : a.eval (.tmp 1) = .slice (some ⟨k1, 0, none⟩) 1 1) (h2 : a.eval (.tmp 2) = .slice (some ⟨k2, 0, none⟩) 1 1)
    (h : wpList Tryd.prog ops Q rest (a.put o.dst (.agg (gcs 1 zeros nilS (.slice (some ⟨k1, 0, none⟩) 1 1) (.slice (some ⟨k2, 0, none⟩) 1 1) ⟨#[97]⟩ 0 nilS).toArray)) w) : wpList Tryd.prog ops Q (o :: rest) a w :=
  wpList_plain hgd fun _ hK => by
    have hrun : (execOp a.eval o).run Tryd.prog w = .ok (.value (.agg (gcs 1 zeros nilS (.slice (some ⟨k1, 0, none⟩) 1 1) (.slice (some ⟨k2, 0, none⟩) 1 1) ⟨#[97]⟩ 0 nilS).toArray)) w := by
      unfold execOp
      simp only [ho, List.map_toArray, List.map_cons, List.map_nil, h1, h2]
      show ((fun v => Next.value v) <$> Instr.build 35 #[(0, .int .i64 1), (3, .slice (some ⟨k1, 0, none⟩) 1 1), (4, .slice (some ⟨k2, 0, none⟩) 1 1), (5, .string ⟨#[97]⟩)]).run Tryd.prog w = _
      rw [Sem.run_map, build35]
      rfl
    unfold Oper.wp
    rw [hrun]
    exact hK _ _ h
set_option maxHeartbeats 4000000 in
set_option maxRecDepth 100000 in
theorem lplain_calls (w : World) : Calls Tryd.prog 22 #[] w fun e w' => PlV e w w' := by
  have hz35 := zero35g
  obtain ⟨z35, hz⟩ : ∃ z, (gcs 0 zeros nilS nilS nilS ⟨#[]⟩ 0 nilS).toArray = z := ⟨_, rfl⟩
  have hg0 : GB (w.alloc (.cells z35 35)) w.heap.size 0 zeros nilS nilS nilS ⟨#[]⟩ 0 nilS := by rw [← hz]; exact GB.alloc w zeros_len
  rw [hz] at hz35
  have b0 := below_alloc (Below.refl w.heap.size w) (.cells z35 35)
  have s0 : (w.alloc (.cells z35 35)).heap.size = w.heap.size + 1 := Array.size_push _
  obtain ⟨w1, hw1⟩ : ∃ w1, w.alloc (.cells z35 35) = w1 := ⟨_, rfl⟩
  rw [hw1] at hg0 b0 s0
  have b1 := below_alloc (Below.refl w1.heap.size w1) (.cells #[.int .i64 4865] 3)
  have g1 := hg0.below b1 hg0.lt
  have n1 : (w1.alloc (.cells #[.int .i64 4865] 3)).heap[w1.heap.size]? = some (.cells #[.int .i64 4865] 3 (0, 0)) := World.alloc_heap_new w1 _
  have s1 : (w1.alloc (.cells #[.int .i64 4865] 3)).heap.size = w1.heap.size + 1 := Array.size_push _
  obtain ⟨w2, hw2⟩ : ∃ w2, w1.alloc (.cells #[.int .i64 4865] 3) = w2 := ⟨_, rfl⟩
  rw [hw2] at g1 b1 n1 s1
  have b2 := below_alloc (Below.refl w2.heap.size w2) (.cells #[.int .u8 0] 5)
  have g2 := g1.below b2 g1.lt
  have n2 := (b2.block _ (Array.getElem?_eq_some_iff.1 n1).1).trans n1
  have n3 : (w2.alloc (.cells #[.int .u8 0] 5)).heap[w2.heap.size]? = some (.cells #[.int .u8 0] 5 (0, 0)) := World.alloc_heap_new w2 _
  obtain ⟨w3, hw3⟩ : ∃ w3, w2.alloc (.cells #[.int .u8 0] 5) = w3 := ⟨_, rfl⟩
  rw [hw3] at g2 b2 n2 n3
  have HG := Lib.hid g2
  have hb3 : Below w.heap.size w w3 := (b0.trans (b1.mono b0.size)).trans (b2.mono (by omega))
  have HB := Lib.hid hb3
  have HN2 := Lib.hid n2
  have HN3 := Lib.hid n3
  have hs2 : w2.heap.size = w.heap.size + 1 + 1 := by omega
  rw [hs2] at HN3
  rw [s0] at HN2
  clear g2 hb3 n2 n3 hg0 g1 n1 b0 b1 b2 hz
  go_enter Tryd.func22, Tryd.ntmps22
  go_wp2_with (first
    | (refine wpList_build22 rfl rfl (w.heap.size + 1) (w.heap.size + 1 + 1) rfl rfl ?_)
    | (refine wpList_store_gre rfl _ _ rfl w.heap.size rfl rfl HG.out zeros_len (gcs_one zeros_one rfl rfl rfl rfl) ?_
       intro w4 hg3 ht3
       have HG3 := Lib.hid hg3
       have HT3 := Lib.hid ht3
       clear hg3 ht3))
  refine bodyPost_ret (results_cell_row (p := 0) (by kernel_rfl) _ _ w.heap.size 35 _ (0, 0) _ rfl HG3.out.2 Tryd.underlying35 rfl (by rw [info35]; rfl)) rfl ?_
  have hb4 : Below w.heap.size w w4 := HB.out.trans (HT3.out.below HB.out.size (fun k e => by rw [e]; exact Nat.le_refl _))
  have h2 := (HT3.out.block (w.heap.size + 1) (Array.getElem?_eq_some_iff.1 HN2.out).1 (by omega)).trans HN2.out
  have h3 := (HT3.out.block (w.heap.size + 1 + 1) (Array.getElem?_eq_some_iff.1 HN3.out).1 (by omega)).trans HN3.out
  exact ⟨_, _, rfl, litI (l := [4865]) h2 (by decide), litI (l := [0]) h3 (by decide), hb4⟩
/-- A greeting that can be read, as a value. -/
structure GrRd (w : World) (v : Value) (m a : Int) (R ses : List UInt8) (sui : List Int) (met : List UInt8) (h : ByteArray) (xs : List (Int × List UInt8)) where
  ex : ∃ (As Au Am Ax : Option Addr) (cs cu cm cx : Nat), v = .agg (gcs m (cellsB R) (.slice As ses.length cs) (.slice Au sui.length cu) (.slice Am met.length cm) h a (.slice Ax xs.length cx)).toArray ∧
    Kd.C (Kd.int .u8) w As ses.length (numsB ses) ∧ ses.length ≤ cs ∧ Kd.C (Kd.int .i64) w Au sui.length sui ∧ Kd.C (Kd.int .u8) w Am met.length (numsB met) ∧ met.length ≤ cm ∧ Kd.C k59 w Ax xs.length (toS xs) ∧ xs.length ≤ cx
/-- What Write takes. -/
structure GrOk (R ses : List UInt8) (sui : List Int) (met : List UInt8) (h : ByteArray) (xs : List (Int × List UInt8)) : Prop where
  r : R.length = 32
  h : h.size ≤ 16777216
  su : sui.length ≤ 16777216
  se : ses.length ≤ 16777216
  me : met.length ≤ 16777216
  xl : xs.length ≤ 65536
  xd : ∀ x ∈ xs, x.2.length ≤ 16777216
  wf : ∀ x ∈ xs, -9223372036854775808 ≤ x.1 ∧ x.1 ≤ 9223372036854775807
theorem write_of {w : World} {v : Value} {m a : Int} {R ses : List UInt8} {sui : List Int} {met : List UInt8} {h : ByteArray} {xs : List (Int × List UInt8)} (hg : GrRd w v m a R ses sui met h xs) (ho : GrOk R ses sui met h xs) (hL : LW w) :
    Calls Tryd.prog 20 #[v] w (WriteP (writeR m R ses sui met h a xs) w) := by
  obtain ⟨As, Au, Am, Ax, cs, cu, cm, cx, rfl, h1, h2, h3, h4, h5, h6, h7⟩ := hg.ex
  refine write_calls m a R As Au Am Ax cs cu cm cx ses met sui xs h w ho.r ho.h hL h1 h2 h3 h4 h5 h6 h7 ho.su ho.se ho.me ho.xl ho.xd ?_
  intro x hx
  obtain ⟨y, hy, rfl⟩ := List.mem_map.1 hx
  have := ho.wf y hy
  show (decide (IntKind.i64.min ≤ y.1) && decide (y.1 ≤ IntKind.i64.max)) = true
  rw [show IntKind.i64.min = -9223372036854775808 from rfl, show IntKind.i64.max = 9223372036854775807 from rfl]
  simp [this]
theorem GrRd.below {w w' : World} {v : Value} {m a : Int} {R ses : List UInt8} {sui : List Int} {met : List UInt8} {h : ByteArray} {xs : List (Int × List UInt8)} (hg : GrRd w v m a R ses sui met h xs) (hb : Below w.heap.size w w') : GrRd w' v m a R ses sui met h xs := by
  obtain ⟨As, Au, Am, Ax, cs, cu, cm, cx, rfl, h1, h2, h3, h4, h5, h6, h7⟩ := hg.ex
  exact ⟨As, Au, Am, Ax, cs, cu, cm, cx, rfl, Kd.C_below h1 hb, h2, Kd.C_below h3 hb, Kd.C_below h4 hb, h5, Kd.C_below h6 hb, h7⟩
/-- A greeting's value in one word. -/
theorem GrRd.agg {w : World} {v : Value} {m a : Int} {R ses : List UInt8} {sui : List Int} {met : List UInt8} {h : ByteArray} {xs : List (Int × List UInt8)} (hg : GrRd w v m a R ses sui met h xs) (hR : R.length = 32) : ∃ cs0 : Array Value, v = .agg cs0 ∧ cs0.size = 39 := by
  obtain ⟨As, Au, Am, Ax, cs, cu, cm, cx, rfl, _⟩ := hg.ex
  exact ⟨_, rfl, by simp [gcs, cellsB_len, hR]⟩
theorem write_no {w : World} {v : Value} {m a : Int} {R ses : List UInt8} {sui : List Int} {met : List UInt8} {h : ByteArray} {xs : List (Int × List UInt8)} (hg : GrRd w v m a R ses sui met h xs) (ho : GrOk R ses sui met h xs) (hL : LW w) (hn : writeR m R ses sui met h a xs = none) :
    Calls Tryd.prog 20 #[v] w fun e w' => e = .returned (.tuple #[.slice none 0 0, .int .i64 2]) ∧ Below w.heap.size w w' :=
  (write_of hg ho hL).mono fun e w' hp => by
    obtain ⟨hb, ⟨_, he⟩ | ⟨b, A, c, hb', _⟩⟩ := hp
    · exact ⟨he, hb⟩
    · rw [hn] at hb'; cases hb'
theorem write_yes {w : World} {v : Value} {m a : Int} {R ses : List UInt8} {sui : List Int} {met : List UInt8} {h : ByteArray} {xs : List (Int × List UInt8)} (hg : GrRd w v m a R ses sui met h xs) (ho : GrOk R ses sui met h xs) (hL : LW w) (b : List UInt8) (hs : writeR m R ses sui met h a xs = some b) :
    Calls Tryd.prog 20 #[v] w fun e w' => ∃ A c, e = .returned (.tuple #[.slice A b.length c, .int .i64 0]) ∧ RwB w.heap.size w' (.slice A b.length c) b ∧ Below w.heap.size w w' :=
  (write_of hg ho hL).mono fun e w' hp => by
    obtain ⟨hb, ⟨hn, _⟩ | ⟨b', A, c, hb', he, hr⟩⟩ := hp
    · rw [hs] at hn; cases hn
    · rw [hs] at hb'
      simp only [Option.some.injEq] at hb'
      subst hb'
      exact ⟨A, c, he, hr, hb⟩
set_option maxHeartbeats 4000000 in
set_option maxRecDepth 100000 in
theorem refused_yes {w : World} {v : Value} {m a : Int} {R ses : List UInt8} {sui : List Int} {met : List UInt8} {h : ByteArray} {xs : List (Int × List UInt8)} (hg : GrRd w v m a R ses sui met h xs) (ho : GrOk R ses sui met h xs) (hL : LW w) (hn : writeR m R ses sui met h a xs = none) :
    Calls Tryd.prog 23 #[v] w fun e w' => e = .returned (.bool true) ∧ Below w.heap.size w w' := by
  obtain ⟨cs0, rfl, hs0⟩ := hg.agg ho.r
  have b0 := below_alloc (Below.refl w.heap.size w) (.cells cs0 35)
  have HW := Lib.hid (write_no (hg.below b0) ho (LW.below hL b0) hn)
  have HB0 := Lib.hid b0
  have HS0 := Lib.hid hs0
  have HG2 : Hid ((w.alloc (.cells cs0 35)).heap[w.heap.size]? = some (.cells cs0 35 (0, 0))) := Lib.hid (World.alloc_heap_new w _)
  clear hg ho hL hn hs0 b0
  go_enter Tryd.func23, Tryd.ntmps23
  go_wp2_with (first
    | (refine wpList_load_row rfl 35 _ rfl w.heap.size rfl 35 _ (0, 0) _ HG2.out Tryd.underlying35 rfl (by rw [info35, HS0.out]) ?_)
    | (go_at_call 20; refine HW.out.mono ?_; rintro e w2 ⟨rfl, hb2⟩; have HB2 := Lib.hid (HB0.out.trans (hb2.mono HB0.out.size)); clear hb2))
  go_ret
  exact ⟨rfl, HB2.out⟩
end Go.Proofs.YtjcocepmmjmckaaDoor.PHello
/- Bytes that a law lays, one behind another, with a byte turned: rules for the walk. -/
set_option linter.unusedVariables false
set_option linter.unusedSimpArgs false
namespace Go.Proofs.YtjcocepmmjmckaaDoor.PHello
open Go.RowKit Go.Proofs.YtjcocepmmjmckaaDoorW.PrintWords Go.Proofs.YtjcocepmmjmckaaDoorW.PrintLast Go.Proofs.YtjcocepmmjmckaaDoorW.PrintMore

section
variable {ops : Array Oper} {rest : List Oper} {o : Oper} {a : Act} {Q : Exit → Act → World → Prop} {w0 W : World}
/-- A literal of bytes. -/
theorem wpB_lit (base : Nat) (n : Nat) (parts : Array (Nat × Operand)) (hgd : o.guard = none) (ho : o.op = .buildSlice 25 n parts) (r : List UInt8) (q : Nat) (hq : r.length = q)
    (hrun : (Instr.buildSlice 25 n (parts.map fun (i, x) => (i, a.eval x))).run Tryd.prog W = .ok (.slice (some ⟨W.heap.size, 0, none⟩) q q) (W.alloc (.cells (cellsB r).toArray 5)))
    (HB : Below base w0 W) (hbase : base ≤ W.heap.size) (hm : r.length ≤ 9223372036854775807)
    (h : ∀ A c w1, RwB W.heap.size w1 (.slice A q c) r → Below base w0 w1 → Below W.heap.size W w1 → wpList Tryd.prog ops Q rest (a.put o.dst (.slice A q c)) w1) : wpList Tryd.prog ops Q (o :: rest) a W := by
  subst hq
  refine wpList_plain hgd fun K hK => ?_
  have hr : (execOp a.eval o).run Tryd.prog W = .ok (.value (.slice (some ⟨W.heap.size, 0, none⟩) r.length r.length)) (W.alloc (.cells (cellsB r).toArray 5)) := by
    unfold execOp
    simp only [ho]
    show ((fun v => Next.value v) <$> Instr.buildSlice 25 n (parts.map fun (i, x) => (i, a.eval x))).run Tryd.prog W = _
    rw [Sem.run_map, hrun]
    rfl
  unfold Oper.wp
  rw [hr]
  have hb := below_alloc (Below.refl W.heap.size W) (.cells (cellsB r).toArray 5)
  refine hK _ _ (h _ _ _ ?_ (HB.trans (hb.mono hbase)) hb)
  have h1 := World.ownsRow_lit (base := W.heap.size) (e := 5) (size := 1) W (cellsB r).toArray r.length (Nat.le_refl _) (by simpa [maxLen] using hm) (by simp [cellsB_len])
  exact Kd.R_of_own (enc := Value.int .u8) (h1 := fun _ => rfl) (ok := fun _ => True) (xs := numsB r) (w := W.alloc (.cells (cellsB r).toArray 5)) (v := .slice (some ⟨W.heap.size, 0, none⟩) r.length r.length) (base := W.heap.size) (e := 5) (by rw [numsB_len]; exact h1) (fun _ _ => trivial)
/-- Bytes behind a row of one's own. -/
theorem wpB_app (base : Nat) (s x : Operand) (hgd : o.guard = none) (ho : o.op = .call { callee := .builtin .append, args := #[s, x], argTypes := #[25, 25] }) {v vx : Value} {l1 l2 : List UInt8} (hs : a.eval s = v) (hx : a.eval x = vx)
    (HO : RwB base W v l1) (HX : RdV W vx l2) (HB : Below base w0 W) (hbase : base ≤ W.heap.size) (r : List UInt8) (q : Nat) (hr : l1 ++ l2 = r) (hq : r.length = q) (hl : q ≤ 140737488355328)
    (h : ∀ A c w1, RwB base w1 (.slice A q c) r → Below base w0 w1 → W.grownBy w1 v.ownBlock → ((Value.slice A q c).ownBlock = v.ownBlock ∨ ∃ b, (Value.slice A q c).ownBlock = some b ∧ W.heap.size ≤ b) → wpList Tryd.prog ops Q rest (a.put o.dst (.slice A q c)) w1) : wpList Tryd.prog ops Q (o :: rest) a W := by
  subst hr
  subst hq
  rw [List.length_append] at hl
  obtain ⟨A2, c2, rfl, hc2, hC2⟩ := HX
  refine Kd.R_append_rows (Kd.int .u8) (w0 := w0) base hgd s x 25 5 (.int .u8 0) 1 ho Tryd.underlying25 info5 rfl (by decide) (by decide) v (numsB l1) (numsB l2) A2 l2.length c2 (fun _ => True) (fun _ => False) hs hx HO hC2 (fun _ _ h => h) (fun _ h => h.elim) (fun _ _ => trivial) HB hbase (by rw [numsB_len]; omega) ?_
  intro v1 w1 ho hb hg hat
  rw [← numsB_app] at ho
  obtain ⟨A1, c1, rfl⟩ := Kd.R_slice ho
  rw [numsB_len] at ho hat ⊢
  exact h A1 c1 w1 ho hb hg hat
theorem numsB_rep (n : Nat) : numsB (List.replicate n 0) = List.replicate n 0 := by simp [numsB]
/-- Zeros behind a row of one's own. -/
theorem wpB_zero (base : Nat) (s : Operand) (n : Nat) (hgd : o.guard = none) (ho : o.op = .call { callee := .builtin .append, args := #[s, .const (.int .i64 n)], argTypes := #[25, 3] }) {v : Value} {l1 : List UInt8} (hs : a.eval s = v)
    (HO : RwB base W v l1) (HB : Below base w0 W) (hbase : base ≤ W.heap.size) (r : List UInt8) (q : Nat) (hr : l1 ++ List.replicate n 0 = r) (hq : r.length = q) (hl : q ≤ 140737488355328)
    (h : ∀ A c w1, RwB base w1 (.slice A q c) r → Below base w0 w1 → W.grownBy w1 v.ownBlock → wpList Tryd.prog ops Q rest (a.put o.dst (.slice A q c)) w1) : wpList Tryd.prog ops Q (o :: rest) a W := by
  subst hr
  subst hq
  rw [List.length_append, List.length_replicate] at hl
  refine Kd.R_append_zeros (P := Tryd.prog) (Kd.int .u8) (w0 := w0) base hgd s (.const (.int .i64 n)) 25 3 5 (.int .u8 0) 1 ho Tryd.underlying25 Tryd.underlying3 info5 rfl (by decide) (by decide) v (numsB l1) 0 (n : Int) (fun _ => True) hs rfl rfl (fun _ _ => trivial) HO (by omega) HB hbase (by rw [numsB_len]; omega) ?_
  intro v1 w1 ho hb hg hat
  rw [Int.toNat_natCast, ← numsB_rep, ← numsB_app] at ho
  obtain ⟨A1, c1, rfl⟩ := Kd.R_slice ho
  rw [numsB_len] at ho ⊢
  exact h A1 c1 w1 ho hb hg
end
theorem RwB.open {base : Nat} {w : World} {v : Value} {l : List UInt8} (h : RwB base w v l) (hp : 0 < l.length) : ∃ g c, v = .slice (some ⟨g, 0, none⟩) l.length c ∧ base ≤ g ∧ g < w.heap.size := by
  obtain ⟨inner, ho⟩ := Kd.R_own h
  rw [numsB_len] at ho
  rcases ho with ⟨_, ⟨rfl, hn⟩ | ⟨g, cap, cur, rfl, h1, h2, _⟩⟩
  · omega
  · exact ⟨g, cap, rfl, by first | exact h1 | exact h2, Kd.R_lt h g (by simp [Value.ownBlock])⟩
theorem RwB.open2 {base q c : Nat} {w : World} {A : Option Addr} {l : List UInt8} (h : RwB base w (.slice A q c) l) (hp : 0 < q) : ∃ g, A = some ⟨g, 0, none⟩ ∧ base ≤ g ∧ g < w.heap.size := by
  have hl : l.length = q := by have := (Kd.R_reads' h).1; rw [numsB_len] at this; exact this.symm
  obtain ⟨g, c', e, h1, h2⟩ := h.open (by omega)
  simp only [Value.slice.injEq] at e
  exact ⟨g, e.1, h1, h2⟩
theorem numsB_set1 (l : List UInt8) (i : Nat) (b : UInt8) : numsB (l.set i b) = (numsB l).set i (b.toNat : Int) := by simp [numsB]
section
variable {ops : Array Oper} {rest : List Oper} {o : Oper} {a : Act} {Q : Exit → Act → World → Prop} {w0 W : World}
/-- A byte of a row of one's own turned. -/
theorem wpB_set (base g c i : Nat) {l : List UInt8} (hN : o.dst = none) (hgd : o.guard = none) (p x : Operand) (ho : o.op = .store 5 p x) (hp : a.eval p = .pointer (some ⟨g, i, none⟩)) (b : UInt8) (hx : a.eval x = .int .u8 b.toNat)
    (HO : RwB base W (.slice (some ⟨g, 0, none⟩) l.length c) l) (hi : i < l.length) (HB : Below base w0 W)
    (h : ∀ w1, RwB base w1 (.slice (some ⟨g, 0, none⟩) l.length c) (l.set i b) → Below base w0 w1 → W.grownBy w1 (some g) → wpList Tryd.prog ops Q rest a w1) : wpList Tryd.prog ops Q (o :: rest) a W := by
  obtain ⟨ad, eA, hcell⟩ := Kd.at_int (Kd.R_reads' HO).2.2 (i : Int) (by omega) (by rw [numsB_len]; omega)
  injection eA with eA
  subst eA
  rw [Addr.add_lit, Int.toNat_natCast, Nat.zero_add] at hcell
  refine Kd.R_store (Kd.int .u8) (w0 := w0) base hN hgd 5 p x ho 5 (i : Int) 0 (numsB l) (b.toNat : Int) (.int .u8 b.toNat) [.int .u8 b.toNat] [.int .u8 (rd (numsB l) (i : Int))] (fun _ => True) (fun _ => False) hp (by show i = (i : Int).toNat * 1 + 0; omega) hx rfl (by kernel_rfl) (by intro q hq; rw [List.mem_singleton.1 hq]; rfl) HO (by omega) (by omega) rfl ?_ (Nat.le_refl 1) ?_ (fun _ h => h.elim) HB ?_
  · intro j u hj
    have hj0 : j = 0 := by have := (List.getElem?_eq_some_iff.1 hj).1; simpa using this
    subst hj0
    simp only [List.getElem?_cons_zero, Option.some.injEq] at hj
    subst hj
    show W.cell? ⟨g, (i : Int).toNat * 1 + 0, none⟩ = _
    rw [Int.toNat_natCast, Nat.mul_one, Nat.add_zero]
    exact hcell
  · rfl
  · intro w1 hr hb hg
    rw [Int.toNat_natCast, ← numsB_set1] at hr
    exact h w1 hr hb hg
end
theorem wpB_setq {ops : Array Oper} {rest : List Oper} {o : Oper} {a : Act} {Q : Exit → Act → World → Prop} {w0 W : World} (base g c i q : Nat) {l : List UInt8} (hq : l.length = q) (hN : o.dst = none) (hgd : o.guard = none) (p x : Operand) (ho : o.op = .store 5 p x) (hp : a.eval p = .pointer (some ⟨g, i, none⟩)) (b : UInt8) (hx : a.eval x = .int .u8 b.toNat)
    (HO : RwB base W (.slice (some ⟨g, 0, none⟩) q c) l) (hi : i < q) (HB : Below base w0 W)
    (h : ∀ w1, RwB base w1 (.slice (some ⟨g, 0, none⟩) q c) (l.set i b) → Below base w0 w1 → W.grownBy w1 (some g) → wpList Tryd.prog ops Q rest a w1) : wpList Tryd.prog ops Q (o :: rest) a W := by
  subst hq
  exact wpB_set base g c i hN hgd p x ho hp b hx HO hi HB h
/-- A byte read. -/
theorem RwB.cell {base g q c : Nat} {w : World} {l : List UInt8} (h : RwB base w (.slice (some ⟨g, 0, none⟩) q c) l) (i : Nat) (hi : i < l.length) : w.cell? ⟨g, i, none⟩ = some (.int .u8 (l[i].toNat : Int)) := by
  have hl := (Kd.R_reads' h).1
  rw [numsB_len] at hl
  obtain ⟨ad, eA, hcell⟩ := Kd.at_int (Kd.R_reads' h).2.2 (i : Int) (by omega) (by rw [numsB_len]; omega)
  injection eA with eA
  subst eA
  rw [Addr.add_lit, Int.toNat_natCast, Nat.zero_add] at hcell
  rw [hcell]
  congr 2
  have hr := rd_get (numsB l) i (by rw [numsB_len]; exact hi)
  rw [hr]
  simp [numsB]
section
variable {ops : Array Oper} {rest : List Oper} {o : Oper} {a : Act} {Q : Exit → Act → World → Prop} {W : World}
theorem wpG_35 (hgd : o.guard = none) (x y : Operand) (ho : o.op = .store 25 x y) (g : Nat) (hx : a.eval x = .pointer (some ⟨g, 35, none⟩)) {A : Option Addr} {n c : Nat} (hy : a.eval y = .slice A n c) {m at' : Int} {R : List Value} {s u me xs : Value} {h : ByteArray} (hg : GB W g m R s u me h at' xs)
    (hK : ∀ w', GB w' g m R s u (.slice A n c) h at' xs → Tch (· = g) W w' → wpList Tryd.prog ops Q rest (a.put o.dst undef) w') : wpList Tryd.prog ops Q (o :: rest) a W := by
  refine wpList_plain hgd fun K hk => ?_
  have hc := hg.c35
  have hf := hg.frozen 35
  unfold Oper.wp execOp
  simp only [ho, hx, hy]
  go_simp
  exact hk _ _ (hK _ (hg.s35 _) (Tch.setc W g 35 _))
theorem wpG_38 (hgd : o.guard = none) (x y : Operand) (ho : o.op = .store 33 x y) (g : Nat) (hx : a.eval x = .pointer (some ⟨g, 38, none⟩)) {A : Option Addr} {n c : Nat} (hy : a.eval y = .slice A n c) {m at' : Int} {R : List Value} {s u me xs : Value} {h : ByteArray} (hg : GB W g m R s u me h at' xs)
    (hK : ∀ w', GB w' g m R s u me h at' (.slice A n c) → Tch (· = g) W w' → wpList Tryd.prog ops Q rest (a.put o.dst undef) w') : wpList Tryd.prog ops Q (o :: rest) a W := by
  refine wpList_plain hgd fun K hk => ?_
  have hc := hg.c38
  have hf := hg.frozen 38
  unfold Oper.wp execOp
  simp only [ho, hx, hy]
  go_simp
  exact hk _ _ (hK _ (hg.s38 _) (Tch.setc W g 38 _))
theorem wpG_37 (hgd : o.guard = none) (x y : Operand) (ho : o.op = .store 3 x y) (g : Nat) (hx : a.eval x = .pointer (some ⟨g, 37, none⟩)) {n : Int} (hy : a.eval y = .int .i64 n) {m at' : Int} {R : List Value} {s u me xs : Value} {h : ByteArray} (hg : GB W g m R s u me h at' xs)
    (hK : ∀ w', GB w' g m R s u me h n xs → Tch (· = g) W w' → wpList Tryd.prog ops Q rest (a.put o.dst undef) w') : wpList Tryd.prog ops Q (o :: rest) a W := by
  refine wpList_plain hgd fun K hk => ?_
  have hc := hg.c37
  have hf := hg.frozen 37
  unfold Oper.wp execOp
  simp only [ho, hx, hy]
  go_simp
  exact hk _ _ (hK _ (hg.s37 _) (Tch.setc W g 37 _))
end
end Go.Proofs.YtjcocepmmjmckaaDoor.PHello
/- chinoiserielaw07.works (12). -/
set_option linter.unusedVariables false
set_option linter.unusedSimpArgs false
namespace Go.Proofs.YtjcocepmmjmckaaDoor.PHello
open Go.RowKit Go.Proofs.YtjcocepmmjmckaaDoorW.PrintWords Go.Proofs.YtjcocepmmjmckaaDoorW.PrintLast Go.Proofs.YtjcocepmmjmckaaDoorW.PrintMore

def wantA : List UInt8 := [22, 3, 1, 0, 57, 1, 0, 0, 53, 3, 3]
def wantB : List UInt8 := [0, 2, 19, 1, 1, 0, 0, 10, 0, 0, 0, 6, 0, 4, 0, 0, 1, 97]
def wantF : List UInt8 := wantA ++ List.replicate 33 0 ++ wantB
def R0 : List UInt8 := List.replicate 32 0
theorem okP {met : List UInt8} {xs : List (Int × List UInt8)} (hm : met.length ≤ 1) (hx : xs = [] ∨ xs = [(0, [])]) : GrOk R0 [] [4865] met ⟨#[97]⟩ xs := by
  refine ⟨rfl, by decide, by decide, by decide, by omega, ?_, ?_, ?_⟩
  · rcases hx with rfl | rfl <;> decide
  · rcases hx with rfl | rfl <;> simp
  · rcases hx with rfl | rfl <;> simp
theorem nilC {α : Type} (d : Kd α) (w : World) (A : Option Addr) : Kd.C d w A 0 [] := ⟨rfl, by omega, fun h => absurd h (by omega)⟩
theorem grP {w : World} {k1 k2 : Nat} (h1 : Kd.C (Kd.int .i64) w (some ⟨k1, 0, none⟩) 1 [4865]) (h2 : Kd.C (Kd.int .u8) w (some ⟨k2, 0, none⟩) 1 [0]) :
    GrRd w (.agg (gcs 1 zeros nilS (.slice (some ⟨k1, 0, none⟩) 1 1) (.slice (some ⟨k2, 0, none⟩) 1 1) ⟨#[97]⟩ 0 nilS).toArray) 1 0 R0 [] [4865] [0] ⟨#[97]⟩ [] :=
  ⟨none, some ⟨k1, 0, none⟩, some ⟨k2, 0, none⟩, none, 0, 1, 1, 0, rfl, nilC _ _ _, Nat.le_refl _, h1, h2, Nat.le_refl _, nilC _ _ _, Nat.le_refl _⟩
theorem eqB_yes (A0 A1 : Option Addr) (c0 c1 q : Nat) (l : List UInt8) (w : World) (hq : l.length = q) (h0 : RdV w (.slice A0 q c0) l) (h1 : RdV w (.slice A1 q c1) l) :
    Calls Tryd.prog 17 #[.slice A0 q c0, .slice A1 q c1] w fun e w' => e = .returned (.bool true) ∧ Below w.heap.size w w' := by
  subst hq
  obtain ⟨B0, d0, e0, l0, r0⟩ := h0
  obtain ⟨B1, d1, e1, l1, r1⟩ := h1
  simp only [Value.slice.injEq, true_and] at e0 e1
  obtain ⟨rfl, rfl⟩ := e0
  obtain ⟨rfl, rfl⟩ := e1
  have := chinoiserieref00_EqBytes.calls A0 c0 (numsB l) A1 c1 (numsB l) true w (by rw [numsB_len]; exact r0) (by rw [numsB_len]; exact l0) (by rw [numsB_len]; exact r1) (by rw [numsB_len]; exact l1) (by unfold chinoiserieref00_EqBytes.f; simp)
  rw [numsB_len] at this
  exact this.mono fun e w' h => ⟨h.1, h.2.below⟩
theorem rdV_open {w : World} {A : Option Addr} {q c : Nat} {l : List UInt8} (h : RdV w (.slice A q c) l) : l.length = q ∧ q ≤ c ∧ Kd.C (Kd.int .u8) w A q (numsB l) := by
  obtain ⟨B, d, e, h1, h2⟩ := h
  simp only [Value.slice.injEq] at e
  obtain ⟨rfl, rfl, rfl⟩ := e
  exact ⟨rfl, h1, h2⟩
theorem rdV_take {w : World} {A : Option Addr} {q c : Nat} {l : List UInt8} (h : RdV w (.slice A q c) l) (k : Nat) (hk : k ≤ q) : RdV w (.slice A k c) (l.take k) := by
  obtain ⟨rfl, h1, h2⟩ := rdV_open h
  have hl : (l.take k).length = k := by rw [List.length_take]; omega
  refine ⟨A, c, by rw [hl], by rw [hl]; omega, ?_⟩
  rw [hl]
  refine ⟨by rw [numsB_len, hl], by have := h2.2.1; omega, fun hp => ?_⟩
  obtain ⟨ad, e, hc⟩ := h2.2.2 (by omega)
  refine ⟨ad, e, fun j p hj => hc j p ?_⟩
  rw [show numsB (l.take k) = (numsB l).take k by simp [numsB, List.map_take], List.getElem?_take] at hj
  split at hj
  · exact hj
  · cases hj
theorem sni_rd {w : World} {A : Option Addr} {q c : Nat} {l : List UInt8} (h : RdV w (.slice A q c) l) (want : ByteArray) (n : Int) (hL : LW w) (hs : sniR l = (want, n)) :
    Calls Tryd.prog 11 #[.slice A q c, .string want, .int .i64 n] w fun e w' => e = .returned (.bool true) ∧ Below w.heap.size w w' := by
  obtain ⟨rfl, h1, h2⟩ := rdV_open h
  exact sni_yes A c l want n w h2 h1 hL hs
/-- The rows of the chapter's greeting. -/
def Pr2 (w : World) (k1 k2 : Nat) : Prop := Kd.C (Kd.int .i64) w (some ⟨k1, 0, none⟩) 1 [4865] ∧ Kd.C (Kd.int .u8) w (some ⟨k2, 0, none⟩) 1 [0]
theorem Pr2.below {w w' : World} {k1 k2 : Nat} (h : Pr2 w k1 k2) (hb : Below w.heap.size w w') : Pr2 w' k1 k2 := ⟨Kd.C_below h.1 hb, Kd.C_below h.2 hb⟩
/-- An extension that is nothing, laid. -/
theorem litX0 {w : World} {g : Nat} (hg : w.heap[g]? = some (.cells #[.int .i64 0, .slice none 0 0] 59 (0, 0))) : Kd.C k59 w (some ⟨g, 0, none⟩) 1 (toS [(0, [])]) := by
  refine ⟨rfl, by decide, fun _ => ⟨_, rfl, fun j p hj => ?_⟩⟩
  have hj0 : j = 0 := by have := (List.getElem?_eq_some_iff.1 hj).1; simpa [toS] using this
  subst hj0
  have hp : p = ⟨0, []⟩ := by simpa [toS, numsB] using hj.symm
  subst hp
  refine ⟨[.int .i64 0, .slice none 0 0], rfl, k59_mk w (⟨0, []⟩ : S59) (A1 := none) (c1 := 0) (Nat.le_refl _) (nilC _ _ _), fun i u hu => ?_⟩
  rw [Addr.add_lit]
  show w.cell? ⟨g, 0 + (0 * 2 + i), none⟩ = _
  rw [Nat.zero_mul, Nat.zero_add, Nat.zero_add, cell_of_row w g i _ 59 (0, 0) hg]
  simpa using hu
set_option maxHeartbeats 8000000 in
set_option maxRecDepth 100000 in
theorem works_calls (w : World) (hL : LW w) : Calls Tryd.prog 12 #[] w fun e w' => e = .returned (.bool true) ∧ Below w.heap.size w w' := by
  have HL := Lib.hid hL
  clear hL
  go_enter Tryd.func12, Tryd.ntmps12
  go_wp2_with fail
  refine (lplain_calls _).mono ?_
  rintro e w1 ⟨k1, k2, rfl, h1, h2, hb1⟩
  have HY := Lib.hid (write_yes (grP h1 h2) (okP (by decide) (.inl rfl)) (LW.below HL.out hb1) wantF (by kernel_rfl))
  have HB1 := Lib.hid hb1
  clear h1 h2 hb1
  go_wp2_with fail
  refine HY.out.mono ?_
  rintro e w2 ⟨A2, c2, rfl, hr2, hb2⟩
  rw [show wantF.length = 62 from rfl] at hr2 ⊢
  have HR2 := Lib.hid hr2
  have HB2 := Lib.hid (HB1.out.trans (hb2.mono HB1.out.size))
  clear hr2 hb2 HY
  go_wp2_with (first
    | (refine wpB_lit (w0 := w2) w2.heap.size 11 _ rfl rfl wantA 11 rfl (by kernel_rfl) (Below.refl _ _) (Nat.le_refl _) (by decide) ?_; intro A3 c3 w3 hr3 hb3 _; have HR3 := Lib.hid hr3; have HB3 := Lib.hid hb3; clear hr3 hb3)
    | (refine wpB_zero (w0 := w2) w2.heap.size _ 33 rfl rfl rfl HR3.out HB3.out HB3.out.size (wantA ++ List.replicate 33 0) 44 rfl rfl (by decide) ?_; intro A4 c4 w4 hr4 hb4 _; have HR4 := Lib.hid hr4; have HB4 := Lib.hid hb4; clear hr4 hb4)
    | (refine wpB_lit (w0 := w2) w2.heap.size 18 _ rfl rfl wantB 18 rfl (by kernel_rfl) HB4.out HB4.out.size (by decide) ?_; intro A5 c5 w5 hr5 hb5 hn5; have HR5 := Lib.hid (RwB.rdV hr5); have HR4b := Lib.hid (HR4.out.below hn5); have HB5 := Lib.hid hb5; clear hr5 hb5 hn5)
    | (refine wpB_app (w0 := w2) w2.heap.size _ _ rfl rfl rfl rfl HR4b.out HR5.out HB5.out HB5.out.size wantF 62 rfl rfl (by decide) ?_
       intro A6 c6 w6 hr6 hb6 _ _
       have HR6 := Lib.hid hr6
       have HR2b := Lib.hid ((RwB.rdV HR2.out).below hb6)
       have HB6 := Lib.hid (HB2.out.trans (hb6.mono HB2.out.size))
       clear hr6 hb6))
  obtain ⟨g6, rfl, hg6, hg6'⟩ := HR6.out.open2 (by decide)
  have hc6 := (rdV_open (RwB.rdV HR6.out)).2.1
  refine (eqB_yes A2 (some ⟨g6, 0, none⟩) c2 c6 62 wantF w6 rfl HR2b.out (RwB.rdV HR6.out)).mono ?_
  rintro e w7 ⟨rfl, hb7⟩
  have HR7 := Lib.hid (HR6.out.below hb7)
  have HB7 := Lib.hid (HB6.out.trans (hb7.mono HB6.out.size))
  clear hb7 HR2b HR6 HB6
  go_wp2_with fail
  refine (sni_rd (RwB.rdV HR7.out) ⟨#[97]⟩ 0 (LW.below HL.out HB7.out) (by kernel_rfl)).mono ?_
  rintro e w8 ⟨rfl, hb8⟩
  have HR8 := Lib.hid (HR7.out.below hb8)
  have HB8 := Lib.hid (HB7.out.trans (hb8.mono HB7.out.size))
  clear hb8 HR7 HB7
  go_wp2_with fail
  refine (sni_rd (rdV_take (RwB.rdV HR8.out) 61 (by decide)) ⟨#[]⟩ 70 (LW.below HL.out HB8.out) (by kernel_rfl)).mono ?_
  rintro e w9 ⟨rfl, hb9⟩
  have HR9 := Lib.hid (HR8.out.below hb9)
  have HB9 := Lib.hid (HB8.out.trans (hb9.mono HB8.out.size))
  have HBb := Lib.hid (show Below w2.heap.size w2 w2 from Below.refl _ _)
  have HSz := Lib.hid HB2.out.size
  clear hb9 HR8 HB8
  go_wp2_with (refine wpB_set (w0 := w) w.heap.size g6 c6 61 rfl rfl _ _ rfl rfl 65 rfl (Kd.R_lower HR9.out HB2.out.size) (by decide) HB9.out ?_
               intro w10 hr10 hb10 _
               rw [show wantF.length = 62 from rfl] at hr10
               have HR10 := Lib.hid hr10
               have HB10 := Lib.hid hb10
               clear hr10 hb10)
  refine (sni_rd (RwB.rdV HR10.out) ⟨#[97]⟩ 0 (LW.below HL.out HB10.out) (by kernel_rfl)).mono ?_
  rintro e w11 ⟨rfl, hb11⟩
  have HR11 := Lib.hid (HR10.out.below hb11)
  have HB11 := Lib.hid (HB10.out.trans (hb11.mono HB10.out.size))
  clear hb11 HR10 HB10 HR9 HB9
  go_wp2_with (refine wpB_set (w0 := w) w.heap.size g6 c6 61 rfl rfl _ _ rfl rfl 46 rfl HR11.out (by decide) HB11.out ?_
               intro w12 hr12 hb12 _
               have HR12 := Lib.hid (RwB.rdV hr12)
               rw [show ((wantF.set 61 65).set 61 46) = wantF.set 61 46 from rfl, show (wantF.set 61 65).length = 62 from rfl] at HR12
               have HB12 := Lib.hid hb12
               clear hr12 hb12)
  clear HR11 HB11 hc6
  refine (lplain_calls _).mono ?_
  rintro e w13 ⟨p1, p2, rfl, hp1, hp2, hb13⟩
  have HR13 := Lib.hid (HR12.out.below hb13)
  have HB13 := Lib.hid (HB12.out.trans (hb13.mono HB12.out.size))
  have HP := Lib.hid (show Pr2 _ _ _ from ⟨hp1, hp2⟩)
  clear hb13 hp1 hp2 HR12 HB12
  go_wp2_with fail
  refine (lplain_calls _).mono ?_
  rintro e w14 ⟨q1, q2, rfl, hq1, hq2, hb14⟩
  have HR14 := Lib.hid (HR13.out.below hb14)
  have HB14 := Lib.hid (HB13.out.trans (hb14.mono HB13.out.size))
  have HP14 := Lib.hid (HP.out.below hb14)
  have HQ := Lib.hid (show Pr2 _ _ _ from ⟨hq1, hq2⟩)
  clear hb14 hq1 hq2 HR13 HB13 HP
  go_wp2_with fail
  refine (lplain_calls _).mono ?_
  rintro e w15 ⟨r1, r2, rfl, hr1, hr2, hb15⟩
  have HR15 := Lib.hid (HR14.out.below hb15)
  have HB15 := Lib.hid (HB14.out.trans (hb15.mono HB14.out.size))
  have HP15 := Lib.hid (HP14.out.below hb15)
  have HQ15 := Lib.hid (HQ.out.below hb15)
  have HS15 := Lib.hid (show Pr2 _ _ _ from ⟨hr1, hr2⟩)
  clear hb15 hr1 hr2 HR14 HB14 HP14 HQ
  have hz35 := zero35g
  obtain ⟨z35, hz⟩ : ∃ z, (gcs 0 zeros nilS nilS nilS ⟨#[]⟩ 0 nilS).toArray = z := ⟨_, rfl⟩
  have a1 : GB (w15.alloc (.cells z35 35)) w15.heap.size 0 zeros nilS nilS nilS ⟨#[]⟩ 0 nilS := by rw [← hz]; exact GB.alloc w15 zeros_len
  have b1 := below_alloc (Below.refl w15.heap.size w15) (.cells z35 35)
  have s1 : (w15.alloc (.cells z35 35)).heap.size = w15.heap.size + 1 := Array.size_push _
  obtain ⟨wa, hwa⟩ : ∃ wa, w15.alloc (.cells z35 35) = wa := ⟨_, rfl⟩
  rw [hwa] at a1 b1 s1
  have a2 : GB (wa.alloc (.cells z35 35)) wa.heap.size 0 zeros nilS nilS nilS ⟨#[]⟩ 0 nilS := by rw [← hz]; exact GB.alloc wa zeros_len
  have b2 := below_alloc (Below.refl wa.heap.size wa) (.cells z35 35)
  have s2 : (wa.alloc (.cells z35 35)).heap.size = wa.heap.size + 1 := Array.size_push _
  obtain ⟨wb, hwb⟩ : ∃ wb, wa.alloc (.cells z35 35) = wb := ⟨_, rfl⟩
  rw [hwb] at a2 b2 s2
  have a3 : GB (wb.alloc (.cells z35 35)) wb.heap.size 0 zeros nilS nilS nilS ⟨#[]⟩ 0 nilS := by rw [← hz]; exact GB.alloc wb zeros_len
  have b3 := below_alloc (Below.refl wb.heap.size wb) (.cells z35 35)
  have s3 : (wb.alloc (.cells z35 35)).heap.size = wb.heap.size + 1 := Array.size_push _
  obtain ⟨wc, hwc⟩ : ∃ wc, wb.alloc (.cells z35 35) = wc := ⟨_, rfl⟩
  rw [hwc] at a3 b3 s3
  have HG1 := Lib.hid ((a1.below b2 a1.lt).below b3 (by omega))
  have HG2 := Lib.hid (a2.below b3 a2.lt)
  have HG3 := Lib.hid a3
  have HSa : Hid (wa.heap.size = w15.heap.size + 1) := Lib.hid s1
  have HSb : Hid (wb.heap.size = w15.heap.size + 2) := Lib.hid (by omega)
  have hbc : Below w15.heap.size w15 wc := (b1.trans (b2.mono b1.size)).trans (b3.mono (by omega))
  have HBc := Lib.hid hbc
  have HSc : Hid (wc.heap.size = w15.heap.size + 3) := Lib.hid (by omega)
  rw [hz] at hz35
  clear a1 b1 a2 b2 a3 b3 s1 s2 s3 hbc hz
  go_wp2_with (first
    | (refine wpList_store_gre rfl _ _ rfl w15.heap.size rfl rfl HG1.out zeros_len (gcs_one zeros_one rfl rfl rfl rfl) ?_
       intro wd hg ht
       have HG1b := Lib.hid hg
       have HG2b := Lib.hid (HG2.out.tch ht (by have := HSa.out; omega))
       have HG3b := Lib.hid (HG3.out.tch ht (by have := HSb.out; omega))
       have HBd := Lib.hid (HBc.out.trans (ht.below HBc.out.size (fun k e => by rw [e]; exact Nat.le_refl _)))
       clear hg ht)
    | (refine wpList_store_gre rfl _ _ rfl wa.heap.size rfl rfl HG2b.out zeros_len (gcs_one zeros_one rfl rfl rfl rfl) ?_
       intro we hg ht
       have HG1c := Lib.hid (HG1b.out.tch ht (by have := HSa.out; omega))
       have HG2c := Lib.hid hg
       have HG3c := Lib.hid (HG3b.out.tch ht (by have := HSa.out; have := HSb.out; omega))
       have HBe := Lib.hid (HBd.out.trans (ht.below HBd.out.size (fun k e => by rw [e]; have := HSa.out; omega)))
       clear hg ht)
    | (refine wpList_store_gre rfl _ _ rfl wb.heap.size rfl rfl HG3c.out zeros_len (gcs_one zeros_one rfl rfl rfl rfl) ?_
       intro wf hg ht
       have HG1d := Lib.hid (HG1c.out.tch ht (by have := HSb.out; omega))
       have HG2d := Lib.hid (HG2c.out.tch ht (by have := HSa.out; have := HSb.out; omega))
       have HG3d := Lib.hid hg
       have HBf := Lib.hid (HBe.out.trans (ht.below HBe.out.size (fun k e => by rw [e]; have := HSb.out; omega)))
       clear hg ht)
    | (refine wpG_35 rfl _ _ rfl w15.heap.size rfl rfl HG1d.out ?_
       intro wg hg ht
       have HG1e := Lib.hid hg
       have HG2e := Lib.hid (HG2d.out.tch ht (by have := HSa.out; omega))
       have HG3e := Lib.hid (HG3d.out.tch ht (by have := HSb.out; omega))
       have hbg : Below w15.heap.size w15 wg := HBf.out.trans (ht.below HBf.out.size (fun k e => by rw [e]; exact Nat.le_refl _))
       have hba := below_alloc (Below.refl wg.heap.size wg) (.cells #[.int .i64 0, .slice none 0 0] 59)
       have HG1f := Lib.hid (HG1e.out.below hba HG1e.out.lt)
       have HG2f := Lib.hid (HG2e.out.below hba HG2e.out.lt)
       have HG3f := Lib.hid (HG3e.out.below hba HG3e.out.lt)
       have HBg := Lib.hid (hbg.trans (hba.mono hbg.size))
       have HNg : Hid ((wg.alloc (.cells #[.int .i64 0, .slice none 0 0] 59)).heap[wg.heap.size]? = some (.cells #[.int .i64 0, .slice none 0 0] 59 (0, 0))) := Lib.hid (World.alloc_heap_new wg _)
       have HZg : Hid (wg.heap.size ≠ wa.heap.size ∧ wg.heap.size ≠ wb.heap.size) := Lib.hid ⟨fun e => by have := HG2e.out.lt; omega, fun e => by have := HG3e.out.lt; omega⟩
       clear hg ht hbg hba)
    | (refine wpG_38 rfl _ _ rfl wa.heap.size rfl rfl HG2f.out ?_
       intro wh hg ht
       have HG1g := Lib.hid (HG1f.out.tch ht (by have := HSa.out; omega))
       have HG2g := Lib.hid hg
       have HG3g := Lib.hid (HG3f.out.tch ht (by have := HSa.out; have := HSb.out; omega))
       have HBh := Lib.hid (HBg.out.trans (ht.below HBg.out.size (fun k e => by rw [e]; have := HSa.out; omega)))
       have HNh := Lib.hid ((ht.block wg.heap.size (Array.getElem?_eq_some_iff.1 HNg.out).1 HZg.out.1).trans HNg.out)
       clear hg ht)
    | (refine wpG_37 rfl _ _ rfl wb.heap.size rfl rfl HG3g.out ?_
       intro wi hg ht
       have HG1h := Lib.hid (HG1g.out.tch ht (by have := HSb.out; omega))
       have HG2h := Lib.hid (HG2g.out.tch ht (by have := HSa.out; have := HSb.out; omega))
       have HG3h := Lib.hid hg
       have hbi : Below w15.heap.size w15 wi := HBh.out.trans (ht.below HBh.out.size (fun k e => by rw [e]; have := HSb.out; omega))
       have HNi := Lib.hid ((ht.block wg.heap.size (Array.getElem?_eq_some_iff.1 HNh.out).1 HZg.out.2).trans HNh.out)
       have HRi := Lib.hid (HR15.out.below hbi)
       have HPi := Lib.hid (HP15.out.below hbi)
       have HQi := Lib.hid (HQ15.out.below hbi)
       have HSi := Lib.hid (HS15.out.below hbi)
       have HBi := Lib.hid (HB15.out.trans (hbi.mono HB15.out.size))
       clear hg ht hbi))
  refine (sni_rd HRi.out ⟨#[]⟩ 70 (LW.below HL.out HBi.out) (by kernel_rfl)).mono ?_
  rintro e wj ⟨rfl, hbj⟩
  have HG1j := Lib.hid (HG1h.out.below hbj HG1h.out.lt)
  have HG2j := Lib.hid (HG2h.out.below hbj HG2h.out.lt)
  have HG3j := Lib.hid (HG3h.out.below hbj HG3h.out.lt)
  have HPj := Lib.hid (HPi.out.below hbj)
  have HQj := Lib.hid (HQi.out.below hbj)
  have HSj := Lib.hid (HSi.out.below hbj)
  have HNj := Lib.hid ((hbj.block _ (Array.getElem?_eq_some_iff.1 HNi.out).1).trans HNi.out)
  have HBj := Lib.hid (HBi.out.trans (hbj.mono HBi.out.size))
  clear hbj
  go_wp2_with (refine gate_guard (by rfl) ?_; dsimp only; refine wpList_load_gre rfl _ rfl w15.heap.size rfl HG1j.out ?_)
  refine (refused_yes (m := 1) (a := 0) (R := R0) (ses := []) (sui := [4865]) (met := []) (h := ⟨#[97]⟩) (xs := []) ⟨none, some ⟨p1, 0, none⟩, none, none, 0, 1, 0, 0, rfl, nilC _ _ _, Nat.le_refl _, HPj.out.1, nilC _ _ _, Nat.le_refl _, nilC _ _ _, Nat.le_refl _⟩ (okP (by decide) (.inl rfl)) (LW.below HL.out HBj.out) (by kernel_rfl)).mono ?_
  rintro e wk ⟨rfl, hbk⟩
  have HG2k := Lib.hid (HG2j.out.below hbk HG2j.out.lt)
  have HG3k := Lib.hid (HG3j.out.below hbk HG3j.out.lt)
  have HQk := Lib.hid (HQj.out.below hbk)
  have HSk := Lib.hid (HSj.out.below hbk)
  have HNk := Lib.hid ((hbk.block _ (Array.getElem?_eq_some_iff.1 HNj.out).1).trans HNj.out)
  have HBk := Lib.hid (HBj.out.trans (hbk.mono HBj.out.size))
  clear hbk
  go_wp2_with (refine gate_guard (by rfl) ?_; dsimp only; refine wpList_load_gre rfl _ rfl wa.heap.size rfl HG2k.out ?_)
  refine (refused_yes (m := 1) (a := 0) (R := R0) (ses := []) (sui := [4865]) (met := [0]) (h := ⟨#[97]⟩) (xs := [(0, [])]) ⟨none, some ⟨q1, 0, none⟩, some ⟨q2, 0, none⟩, some ⟨wg.heap.size, 0, none⟩, 0, 1, 1, 1, rfl, nilC _ _ _, Nat.le_refl _, HQk.out.1, HQk.out.2, Nat.le_refl _, litX0 HNk.out, Nat.le_refl _⟩ (okP (by decide) (.inr rfl)) (LW.below HL.out HBk.out) (by kernel_rfl)).mono ?_
  rintro e wl ⟨rfl, hbl⟩
  have HG3l := Lib.hid (HG3k.out.below hbl HG3k.out.lt)
  have HSl := Lib.hid (HSk.out.below hbl)
  have HBl := Lib.hid (HBk.out.trans (hbl.mono HBk.out.size))
  clear hbl
  go_wp2_with (refine gate_guard (by rfl) ?_; dsimp only; refine wpList_load_gre rfl _ rfl wb.heap.size rfl HG3l.out ?_)
  refine (refused_yes (m := 1) (a := 1) (R := R0) (ses := []) (sui := [4865]) (met := [0]) (h := ⟨#[97]⟩) (xs := []) ⟨none, some ⟨r1, 0, none⟩, some ⟨r2, 0, none⟩, none, 0, 1, 1, 0, rfl, nilC _ _ _, Nat.le_refl _, HSl.out.1, HSl.out.2, Nat.le_refl _, nilC _ _ _, Nat.le_refl _⟩ (okP (by decide) (.inl rfl)) (LW.below HL.out HBl.out) (by kernel_rfl)).mono ?_
  rintro e wm ⟨rfl, hbm⟩
  have HBm := Lib.hid (HBl.out.trans (hbm.mono HBl.out.size))
  clear hbm
  go_wp2_with fail
  go_ret
  exact ⟨rfl, HBm.out⟩
end Go.Proofs.YtjcocepmmjmckaaDoor.PHello
/- HelloNames, in plain Lean. -/
set_option linter.unusedVariables false
set_option linter.unusedSimpArgs false
namespace Go.Proofs.YtjcocepmmjmckaaDoor.PHello
open Go.RowKit Go.Proofs.YtjcocepmmjmckaaDoorW.PrintWords Go.Proofs.YtjcocepmmjmckaaDoorW.PrintLast Go.Proofs.YtjcocepmmjmckaaDoorW.PrintMore

def hostsL : List ByteArray := [⟨#[97]⟩, ⟨#[115, 104, 111, 112, 46, 101, 120, 97, 109, 112, 108, 101, 46, 111, 114, 103]⟩, ⟨#[120, 45, 49, 46, 98]⟩, ⟨#[48, 46, 48, 46, 48, 46, 49]⟩, ⟨#[97, 98, 99, 100, 101, 102, 103, 104, 105, 106, 107, 108, 109, 110, 111, 112, 113, 114, 115, 116, 46, 122]⟩]
theorem hosts_ok : chinoiserielaw07_hosts.f = some hostsL := rfl
def nameL (h : ByteArray) : List UInt8 := [0, 0, UInt8.ofNat h.size] ++ h.data.toList
def extN (L : List UInt8) : List UInt8 := [0, 0, 0, UInt8.ofNat (L.length + 2), 0, UInt8.ofNat L.length] ++ L
def body8 (L : List UInt8) : List UInt8 := [3, 3] ++ List.replicate 33 0 ++ [0, 2, 19, 1, 1, 0, 0, UInt8.ofNat (extN L).length]
def bodyN (L : List UInt8) : List UInt8 := body8 L ++ extN L
def namesB (L : List UInt8) : List UInt8 := [22, 3, 1, 0, UInt8.ofNat ((bodyN L).length + 4), 1, 0, 0, UInt8.ofNat (bodyN L).length] ++ bodyN L
def noB (L : List UInt8) : Bool := (sniR (namesB L)).1.data.toList == [] && (sniR (namesB L)).2 == 70
theorem noB_ok {L : List UInt8} (h : noB L = true) : sniR (namesB L) = (⟨#[]⟩, 70) := by
  unfold noB at h
  rw [Bool.and_eq_true] at h
  obtain ⟨h1, h2⟩ := h
  have h2 : (sniR (namesB L)).2 = 70 := by simpa using h2
  have h1 : (sniR (namesB L)).1.data.toList = [] := by simpa using h1
  have h3 : (sniR (namesB L)).1 = ⟨#[]⟩ := by
    have : (sniR (namesB L)).1.data = #[] := by simpa using h1
    calc (sniR (namesB L)).1 = ⟨(sniR (namesB L)).1.data⟩ := rfl
      _ = _ := by rw [this]
  rw [← h3, ← h2]
set_option maxRecDepth 100000
theorem no0 : noB [] = true := by kernel_rfl
theorem no1 : hostsL.all (fun h => noB (nameL h ++ nameL h)) = true := by kernel_rfl
theorem no2 : hostsL.all (fun h => (List.range 255).all fun k => noB ((nameL h).set 0 (UInt8.ofNat (1 + k)))) = true := by kernel_rfl
theorem no3 : noB [0, 0, 0] = true := by kernel_rfl
theorem no4 : hostsL.all (fun h => noB ((nameL h).set 2 (UInt8.ofNat h.size - 1))) = true := by kernel_rfl
theorem hosts_size : ∀ h ∈ hostsL, 1 ≤ h.size ∧ h.size ≤ 22 := by decide
end Go.Proofs.YtjcocepmmjmckaaDoor.PHello
