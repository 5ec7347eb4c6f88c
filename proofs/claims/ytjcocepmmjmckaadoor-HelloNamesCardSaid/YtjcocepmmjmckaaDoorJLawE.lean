/- chinoiserielaw07.HelloNames (3): the walk. -/
import Derived.Test.YtjcocepmmjmckaaDoorJLawD
set_option linter.unusedVariables false
set_option linter.unusedSimpArgs false
namespace Go.Proofs.YtjcocepmmjmckaaDoor.PHello
open Go.RowKit Go.Proofs.YtjcocepmmjmckaaDoorW.PrintWords Go.Proofs.YtjcocepmmjmckaaDoorW.PrintLast Go.Proofs.YtjcocepmmjmckaaDoorW.PrintMore

theorem bring_ok (a : Int) (n : Nat) (h0 : 0 < n) (hn : n ≤ 1000000) : ∃ r : Nat, chinoiserieref00_Bring.f a n = some (r : Int) ∧ r < n := by
  unfold chinoiserieref00_Bring.f
  rw [if_neg (by omega)]
  have h1 : Int.tmod a n < n := by
    have := Int.tmod_lt_of_pos a (show (0 : Int) < n by omega)
    exact this
  have h2 : -(n : Int) < Int.tmod a n := by
    have := Int.lt_tmod_of_pos a (show (0 : Int) < n by omega)
    omega
  by_cases hc : Int.tmod a n < 0
  · rw [if_pos hc]
    refine ⟨(Int.tmod a n + n).toNat, ?_, by omega⟩
    rw [show wrap64 (Int.tmod a n + n) = Int.tmod a n + n by unfold wrap64; omega]
    congr 1
    omega
  · rw [if_neg hc]
    exact ⟨(Int.tmod a n).toNat, by congr 1; omega, by omega⟩
theorem bring_calls (a n r : Int) (w : World) (h : chinoiserieref00_Bring.f a n = some r) : Calls Tryd.prog 9 #[.int .i64 a, .int .i64 n] w fun e w' => e = .returned (.int .i64 r) ∧ Below w.heap.size w w' :=
  (chinoiserieref00_Bring.calls a n r w h).mono fun e w' hh => ⟨hh.1, hh.2.below⟩
theorem copy_calls {w : World} {A : Option Addr} {q c : Nat} {l : List UInt8} (h : RdV w (.slice A q c) l) (hl : q ≤ 140737488355327) : Calls Tryd.prog 10 #[.slice A q c] w fun e w' => ∃ A' c', e = .returned (.slice A' q c') ∧ RwB w.heap.size w' (.slice A' q c') l ∧ Below w.heap.size w w' := by
  obtain ⟨rfl, h1, h2⟩ := rdV_open h
  have := chinoiserieref00_CopyBytes.calls A c (numsB l) (numsB l) w (by rw [numsB_len]; exact h2) (by rw [numsB_len]; exact h1) (by unfold chinoiserieref00_CopyBytes.f; rw [if_pos (by rw [numsB_len]; simp; omega)]; simp)
  rw [numsB_len] at this
  refine this.mono ?_
  rintro e w' ⟨v, rfl, hr, hb⟩
  obtain ⟨A', c', rfl⟩ := Kd.R_slice hr
  rw [numsB_len] at hr ⊢
  exact ⟨A', c', rfl, hr, hb⟩
/-- A text's bytes, as a row. -/
theorem conv_rd (w : World) (h : ByteArray) (hh : h.size ≤ 16777216) : RdV (Lib.bytesWorld w 5 h) (.slice (some ⟨w.heap.size, 0, none⟩) h.size (grownCap w h.size 0 5)) h.data.toList := by
  have hlen : h.data.toList.length = h.size := Array.length_toList
  exact ⟨_, _, by rw [hlen], by rw [hlen]; exact grownCap_ge _ _ _ _, BRow.rdC (BRow.conv w h) (by rw [hlen]; omega)⟩
theorem len_u8 (n : Nat) : IntKind.u8.wrap (n : Int) = ((UInt8.ofNat n).toNat : Int) := by
  rw [IntKind.wrap_u8]
  simp
set_option maxHeartbeats 8000000 in
set_option maxRecDepth 100000 in
theorem names_0 (which how kind : Int) (w : World) (hL : LW w) (r1 : Nat) (hr1 : chinoiserieref00_Bring.f which 5 = some (r1 : Int)) (hr1l : r1 < 5) (hr2 : chinoiserieref00_Bring.f how 5 = some 0) : Calls Tryd.prog 3 #[.int .i64 which, .int .i64 how, .int .i64 kind] w fun e w' => e = .returned (.bool true) ∧ Below w.heap.size w w' := by
  have HL := Lib.hid hL
  have HC8 := Lib.hid (chinoiserielaw07_hosts.calls hostsL w hosts_ok)
  have HBr := Lib.hid (fun w => bring_calls which 5 r1 w hr1)
  have HBr2 := Lib.hid (fun w => bring_calls how 5 0 w hr2)
  clear hL hr1 hr2
  go_enter Tryd.func3, Tryd.ntmps3
  go_wp2_with fail
  refine HC8.out.mono ?_
  rintro e w1 ⟨v1, rfl, hv1, hb1⟩
  obtain ⟨A1, c1, rfl, hc1, hC1⟩ := Kd.R_reads hv1
  clear HC8 hv1
  go_wp2_with fail
  refine (HBr.out _).mono ?_
  rintro e w2 ⟨rfl, hb2⟩
  have HB2 := Lib.hid (hb1.trans (hb2.mono hb1.size))
  obtain ⟨ad, rfl, hcell⟩ := Kd.at_string (Kd.C_below hC1 hb2) (r1 : Int) (by omega) (by show (r1 : Int) < 5; omega)
  have hmem : rdOf ByteArray.empty hostsL (r1 : Int) ∈ hostsL := by
    have h5 : hostsL.length = 5 := rfl
    rw [rdOf, Int.toNat_natCast, List.getD_eq_getElem?_getD, List.getElem?_eq_getElem (by omega)]
    exact List.getElem_mem _
  obtain ⟨h, hh⟩ : ∃ h, rdOf ByteArray.empty hostsL (r1 : Int) = h := ⟨_, rfl⟩
  rw [hh, Int.toNat_natCast] at hcell
  rw [hh] at hmem
  have hsz := hosts_size h hmem
  have HM := Lib.hid hmem
  have hr1i : (r1 : Int) < 5 := by omega
  have h5 : hostsL.length = 5 := rfl
  rw [h5] at hc1 ⊢
  obtain ⟨n8, hn8⟩ : ∃ n8, UInt8.ofNat h.size = n8 := ⟨_, rfl⟩
  have hw8 : IntKind.u8.wrap (h.size : Int) = (n8.toNat : Int) := by rw [← hn8]; exact len_u8 _
  have hw8' : (h.size : Int) % 256 = (n8.toNat : Int) := by rw [← hw8, IntKind.wrap_u8]
  have HN8 := Lib.hid hn8
  have HSz := Lib.hid hsz
  have hcv := fun (w : World) => Lib.run_convert_string_bytes (P := Tryd.prog) w 9 25 5 h Tryd.underlying9 Tryd.underlying25 Tryd.underlying5
  have hml := hh
  clear hb1 hb2 hC1 hh hmem hn8 hml
  go_wp2_with (first
    | (refine wpB_lit (w0 := w2) w2.heap.size 3 _ rfl rfl [0, 0, n8] 3 rfl (by kernel_rfl) (Below.refl _ _) (Nat.le_refl _) (by simp) ?_
       intro A3 c3 w3 hr3 hb3 _
       have hbc := conv_below w3 h
       have HR3 := Lib.hid (hr3.below hbc)
       have HB3 := Lib.hid (hb3.trans (hbc.mono hb3.size))
       have HRc := Lib.hid (conv_rd w3 h (by omega))
       clear hr3 hb3 hbc)
    | (refine wpB_app (w0 := w2) w2.heap.size _ _ rfl rfl rfl rfl HR3.out HRc.out HB3.out HB3.out.size (nameL h) (h.size + 3) (by rw [← HN8.out]; rfl) (by simp only [nameL, List.length_append, List.length_cons, List.length_nil, Array.length_toList]; show 3 + h.size = _; omega) (by omega) ?_
       intro A4 c4 w4 hr4 hb4 _ _
       obtain ⟨nN, hnN⟩ : ∃ nN, h.size + 3 = nN := ⟨_, rfl⟩
       rw [hnN] at hr4 ⊢
       have HNn := Lib.hid hnN
       have HR4 := Lib.hid hr4
       have HB4 := Lib.hid (HB2.out.trans (hb4.mono HB2.out.size))
       clear hr4 hb4 hnN))
  refine (copy_calls (RwB.rdV HR4.out) (by have := HNn.out; omega)).mono ?_
  rintro e w5 ⟨A5, c5, rfl, hr5, hb5⟩
  have HR5 := Lib.hid hr5
  have HN5 := Lib.hid ((RwB.rdV HR4.out).below hb5)
  have HB5 := Lib.hid (HB4.out.trans (hb5.mono HB4.out.size))
  have HR5b := hb5.size
  have HB45 := hb5
  clear hr5
  go_wp2_with fail
  refine (HBr2.out _).mono ?_
  rintro e w6 ⟨rfl, hb6⟩
  have HR6 := Lib.hid (HR5.out.below hb6)
  have HN6 := Lib.hid (HN5.out.below hb6)
  have HB6 := Lib.hid (HB5.out.trans (hb6.mono HB5.out.size))
  have HB46 := Lib.hid (HB45.trans (hb6.mono HB45.size))
  have HS5 : Hid (w4.heap.size ≤ w6.heap.size) := Lib.hid (Nat.le_trans HR5b (Nat.le_trans (Nat.le_refl _) hb6.size))
  clear hb6
  have HRX : Hid (RdV w6 (.slice none 0 0) []) := Lib.hid ⟨none, 0, rfl, Nat.le_refl _, nilC _ _ _⟩
  go_wp2_with (first
    | (refine wpB_lit (w0 := w6) w6.heap.size 6 _ rfl rfl [0, 0, 0, 2, 0, 0] 6 rfl (by kernel_rfl) (Below.refl _ _) (Nat.le_refl _) (by simp) ?_
       intro A20 c20 w20 hr hb hn
       have HR20 := Lib.hid hr
       have HB20 := Lib.hid hb
       have HRL := Lib.hid (HRX.out.below hn)
       clear hr hb hn)
    | (refine wpB_app (w0 := w6) w6.heap.size _ _ rfl rfl rfl rfl HR20.out HRL.out HB20.out HB20.out.size (extN ([])) 6 rfl rfl (by omega) ?_
       intro A21 c21 w21 hr hb _ _
       have HR21 := Lib.hid (RwB.rdV hr)
       have HB21 := Lib.hid (HB6.out.trans (hb.mono HB6.out.size))
       clear hr hb)
    | (refine wpB_lit (w0 := w21) w21.heap.size 2 _ rfl rfl [3, 3] 2 rfl (by kernel_rfl) (Below.refl _ _) (Nat.le_refl _) (by simp) ?_
       intro A22 c22 w22 hr hb _
       have HR22 := Lib.hid hr
       have HB22 := Lib.hid hb
       clear hr hb)
    | (refine wpB_zero (w0 := w21) w21.heap.size _ 33 rfl rfl rfl HR22.out HB22.out HB22.out.size ([3, 3] ++ List.replicate 33 0) 35 rfl rfl (by decide) ?_
       intro A23 c23 w23 hr hb _
       have HR23 := Lib.hid hr
       have HB23 := Lib.hid hb
       clear hr hb)
    | (refine wpB_lit (w0 := w21) w21.heap.size 8 _ rfl rfl [0, 2, 19, 1, 1, 0, 0, 6] 8 rfl (by kernel_rfl) HB23.out HB23.out.size (by simp) ?_
       intro A24 c24 w24 hr hb hn
       have HR24 := Lib.hid (RwB.rdV hr)
       have HB24 := Lib.hid hb
       have HR23b := Lib.hid (HR23.out.below hn)
       clear hr hb hn)
    | (refine wpB_app (w0 := w21) w21.heap.size _ _ rfl rfl rfl rfl HR23b.out HR24.out HB24.out HB24.out.size (body8 ([])) 43 rfl rfl (by decide) ?_
       intro A25 c25 w25 hr hb _ _
       have HR25 := Lib.hid hr
       have HB25 := Lib.hid hb
       have HR21b := Lib.hid (HR21.out.below hb)
       clear hr hb)
    | (refine wpB_app (w0 := w21) w21.heap.size _ _ rfl rfl rfl rfl HR25.out HR21b.out HB25.out HB25.out.size (bodyN ([])) 49 rfl rfl (by omega) ?_
       intro A26 c26 w26 hr hb _ _
       have HR26 := Lib.hid (RwB.rdV hr)
       have HB26 := Lib.hid (HB21.out.trans (hb.mono HB21.out.size))
       clear hr hb)
    | (refine wpB_lit (w0 := w26) w26.heap.size 9 _ rfl rfl [22, 3, 1, 0, 53, 1, 0, 0, 49] 9 rfl (by kernel_rfl) (Below.refl _ _) (Nat.le_refl _) (by simp) ?_
       intro A27 c27 w27 hr hb hn
       have HR27 := Lib.hid hr
       have HB27 := Lib.hid hb
       have HR26b := Lib.hid (HR26.out.below hn)
       clear hr hb hn)
    | (refine wpB_app (w0 := w26) w26.heap.size _ _ rfl rfl rfl rfl HR27.out HR26b.out HB27.out HB27.out.size (namesB ([])) 58 rfl rfl (by omega) ?_
       intro A28 c28 w28 hr hb _ _
       have HR28 := Lib.hid (RwB.rdV hr)
       have HB28 := Lib.hid (HB26.out.trans (hb.mono HB26.out.size))
       clear hr hb))
  refine (sni_rd HR28.out ⟨#[]⟩ 70 (LW.below HL.out HB28.out) (noB_ok no0)).mono ?_
  rintro e w29 ⟨rfl, hb29⟩
  have HB29 := Lib.hid (HB28.out.trans (hb29.mono HB28.out.size))
  clear hb29
  go_wp2_with fail
  refine (works_calls _ (LW.below HL.out HB29.out)).mono ?_
  rintro e w30 ⟨rfl, hb30⟩
  have HB30 := Lib.hid (HB29.out.trans (hb30.mono HB29.out.size))
  clear hb30
  go_wp2_with fail
  go_ret
  exact ⟨rfl, HB30.out⟩
set_option maxHeartbeats 8000000 in
set_option maxRecDepth 100000 in
theorem names_1 (which how kind : Int) (w : World) (hL : LW w) (r1 : Nat) (hr1 : chinoiserieref00_Bring.f which 5 = some (r1 : Int)) (hr1l : r1 < 5) (hr2 : chinoiserieref00_Bring.f how 5 = some 1) : Calls Tryd.prog 3 #[.int .i64 which, .int .i64 how, .int .i64 kind] w fun e w' => e = .returned (.bool true) ∧ Below w.heap.size w w' := by
  have HL := Lib.hid hL
  have HC8 := Lib.hid (chinoiserielaw07_hosts.calls hostsL w hosts_ok)
  have HBr := Lib.hid (fun w => bring_calls which 5 r1 w hr1)
  have HBr2 := Lib.hid (fun w => bring_calls how 5 1 w hr2)
  clear hL hr1 hr2
  go_enter Tryd.func3, Tryd.ntmps3
  go_wp2_with fail
  refine HC8.out.mono ?_
  rintro e w1 ⟨v1, rfl, hv1, hb1⟩
  obtain ⟨A1, c1, rfl, hc1, hC1⟩ := Kd.R_reads hv1
  clear HC8 hv1
  go_wp2_with fail
  refine (HBr.out _).mono ?_
  rintro e w2 ⟨rfl, hb2⟩
  have HB2 := Lib.hid (hb1.trans (hb2.mono hb1.size))
  obtain ⟨ad, rfl, hcell⟩ := Kd.at_string (Kd.C_below hC1 hb2) (r1 : Int) (by omega) (by show (r1 : Int) < 5; omega)
  have hmem : rdOf ByteArray.empty hostsL (r1 : Int) ∈ hostsL := by
    have h5 : hostsL.length = 5 := rfl
    rw [rdOf, Int.toNat_natCast, List.getD_eq_getElem?_getD, List.getElem?_eq_getElem (by omega)]
    exact List.getElem_mem _
  obtain ⟨h, hh⟩ : ∃ h, rdOf ByteArray.empty hostsL (r1 : Int) = h := ⟨_, rfl⟩
  rw [hh, Int.toNat_natCast] at hcell
  rw [hh] at hmem
  have hsz := hosts_size h hmem
  have HM := Lib.hid hmem
  have hr1i : (r1 : Int) < 5 := by omega
  have h5 : hostsL.length = 5 := rfl
  rw [h5] at hc1 ⊢
  obtain ⟨n8, hn8⟩ : ∃ n8, UInt8.ofNat h.size = n8 := ⟨_, rfl⟩
  have hw8 : IntKind.u8.wrap (h.size : Int) = (n8.toNat : Int) := by rw [← hn8]; exact len_u8 _
  have hw8' : (h.size : Int) % 256 = (n8.toNat : Int) := by rw [← hw8, IntKind.wrap_u8]
  have HN8 := Lib.hid hn8
  have HSz := Lib.hid hsz
  have hcv := fun (w : World) => Lib.run_convert_string_bytes (P := Tryd.prog) w 9 25 5 h Tryd.underlying9 Tryd.underlying25 Tryd.underlying5
  have hml := hh
  clear hb1 hb2 hC1 hh hmem hn8 hml
  go_wp2_with (first
    | (refine wpB_lit (w0 := w2) w2.heap.size 3 _ rfl rfl [0, 0, n8] 3 rfl (by kernel_rfl) (Below.refl _ _) (Nat.le_refl _) (by simp) ?_
       intro A3 c3 w3 hr3 hb3 _
       have hbc := conv_below w3 h
       have HR3 := Lib.hid (hr3.below hbc)
       have HB3 := Lib.hid (hb3.trans (hbc.mono hb3.size))
       have HRc := Lib.hid (conv_rd w3 h (by omega))
       clear hr3 hb3 hbc)
    | (refine wpB_app (w0 := w2) w2.heap.size _ _ rfl rfl rfl rfl HR3.out HRc.out HB3.out HB3.out.size (nameL h) (h.size + 3) (by rw [← HN8.out]; rfl) (by simp only [nameL, List.length_append, List.length_cons, List.length_nil, Array.length_toList]; show 3 + h.size = _; omega) (by omega) ?_
       intro A4 c4 w4 hr4 hb4 _ _
       obtain ⟨nN, hnN⟩ : ∃ nN, h.size + 3 = nN := ⟨_, rfl⟩
       rw [hnN] at hr4 ⊢
       have HNn := Lib.hid hnN
       have HR4 := Lib.hid hr4
       have HB4 := Lib.hid (HB2.out.trans (hb4.mono HB2.out.size))
       clear hr4 hb4 hnN))
  refine (copy_calls (RwB.rdV HR4.out) (by have := HNn.out; omega)).mono ?_
  rintro e w5 ⟨A5, c5, rfl, hr5, hb5⟩
  have HR5 := Lib.hid hr5
  have HN5 := Lib.hid ((RwB.rdV HR4.out).below hb5)
  have HB5 := Lib.hid (HB4.out.trans (hb5.mono HB4.out.size))
  have HR5b := hb5.size
  have HB45 := hb5
  clear hr5
  go_wp2_with fail
  refine (HBr2.out _).mono ?_
  rintro e w6 ⟨rfl, hb6⟩
  have HR6 := Lib.hid (HR5.out.below hb6)
  have HN6 := Lib.hid (HN5.out.below hb6)
  have HB6 := Lib.hid (HB5.out.trans (hb6.mono HB5.out.size))
  have HB46 := Lib.hid (HB45.trans (hb6.mono HB45.size))
  have HS5 : Hid (w4.heap.size ≤ w6.heap.size) := Lib.hid (Nat.le_trans HR5b (Nat.le_trans (Nat.le_refl _) hb6.size))
  clear hb6
  obtain ⟨qL, hq0⟩ : ∃ q, nN + nN = q := ⟨_, rfl⟩
  have HQ0 := Lib.hid hq0
  have hnm : (nameL h).length = nN := by rw [← HNn.out]; simp only [nameL, List.length_append, List.length_cons, List.length_nil, Array.length_toList]; show 3 + h.size = _; omega
  obtain ⟨LL, hLL⟩ : ∃ LL, nameL h ++ nameL h = LL := ⟨_, rfl⟩
  have hqL : LL.length = qL := by rw [← hLL, List.length_append, hnm, hq0]
  have HLL := Lib.hid hLL
  have hqb : qL ≤ 60 := by have := HNn.out; have := HSz.out; omega
  have HQL := Lib.hid hqL
  clear hq0 hnm hLL
  obtain ⟨b2, hb2⟩ : ∃ b, UInt8.ofNat (qL + 2) = b := ⟨_, rfl⟩
  obtain ⟨b3, hb3⟩ : ∃ b, UInt8.ofNat qL = b := ⟨_, rfl⟩
  obtain ⟨b4, hb4⟩ : ∃ b, UInt8.ofNat (qL + 6) = b := ⟨_, rfl⟩
  obtain ⟨b5, hb5⟩ : ∃ b, UInt8.ofNat (qL + 6 + 43 + 4) = b := ⟨_, rfl⟩
  obtain ⟨b6, hb6⟩ : ∃ b, UInt8.ofNat (qL + 6 + 43) = b := ⟨_, rfl⟩
  obtain ⟨eN, heN⟩ : ∃ e, qL + 6 = e := ⟨_, rfl⟩
  obtain ⟨yN, hyN⟩ : ∃ e, eN + 43 = e := ⟨_, rfl⟩
  have hw2 : IntKind.u8.wrap ((qL : Int) + 2) = (b2.toNat : Int) := by rw [← hb2]; exact len_u8 _
  have hw2' : ((qL : Int) + 2) % 256 = (b2.toNat : Int) := by rw [← hw2, IntKind.wrap_u8]
  have hw3 : IntKind.u8.wrap (qL : Int) = (b3.toNat : Int) := by rw [← hb3]; exact len_u8 _
  have hw3' : (qL : Int) % 256 = (b3.toNat : Int) := by rw [← hw3, IntKind.wrap_u8]
  have hw4 : IntKind.u8.wrap (eN : Int) = (b4.toNat : Int) := by rw [← hb4, ← heN]; exact len_u8 _
  have hw4' : (eN : Int) % 256 = (b4.toNat : Int) := by rw [← hw4, IntKind.wrap_u8]
  have hw5 : IntKind.u8.wrap ((yN : Int) + 4) = (b5.toNat : Int) := by rw [← hb5, ← hyN, ← heN]; exact len_u8 _
  have hw5' : ((yN : Int) + 4) % 256 = (b5.toNat : Int) := by rw [← hw5, IntKind.wrap_u8]
  have hw6 : IntKind.u8.wrap (yN : Int) = (b6.toNat : Int) := by rw [← hb6, ← hyN, ← heN]; exact len_u8 _
  have hw6' : (yN : Int) % 256 = (b6.toNat : Int) := by rw [← hw6, IntKind.wrap_u8]
  have heb : eN ≤ 66 := by omega
  have hyb : yN ≤ 109 := by omega
  have HqL := Lib.hid hqL
  have hqb2 : qL ≤ 60 := hqb
  have HE := Lib.hid heN
  have HY := Lib.hid hyN
  have HF2 := Lib.hid hb2
  have HF3 := Lib.hid hb3
  have HF4 := Lib.hid hb4
  have HF5 := Lib.hid hb5
  have HF6 := Lib.hid hb6
  clear hb2 hb3 hb4 hb5 hb6 heN hyN hqL
  go_wp2_with (first
    | (refine wpB_app (w0 := w4) w4.heap.size _ _ rfl rfl rfl rfl HR6.out HN6.out HB46.out HB46.out.size LL qL HLL.out HQL.out (by omega) ?_
       intro A7 c7 w7 hr hb _ _
       have HRX := Lib.hid (RwB.rdV hr)
       have HB7 := Lib.hid (HB4.out.trans (hb.mono HB4.out.size))
       clear hr hb)
    | (refine wpB_lit (w0 := w7) w7.heap.size 6 _ rfl rfl [0, 0, 0, b2, 0, b3] 6 rfl (by kernel_rfl) (Below.refl _ _) (Nat.le_refl _) (by simp) ?_
       intro A20 c20 w20 hr hb hn
       have HR20 := Lib.hid hr
       have HB20 := Lib.hid hb
       have HRL := Lib.hid (HRX.out.below hn)
       clear hr hb hn)
    | (refine wpB_app (w0 := w7) w7.heap.size _ _ rfl rfl rfl rfl HR20.out HRL.out HB20.out HB20.out.size (extN (LL)) eN (by show [0, 0, 0, b2, 0, b3] ++ LL = _; rw [← HF2.out, ← HF3.out, ← HqL.out]; rfl) (by have := HqL.out; have := HE.out; simp only [extN, List.length_append, List.length_cons, List.length_nil]; omega) (by omega) ?_
       intro A21 c21 w21 hr hb _ _
       have HR21 := Lib.hid (RwB.rdV hr)
       have HB21 := Lib.hid (HB7.out.trans (hb.mono HB7.out.size))
       clear hr hb)
    | (refine wpB_lit (w0 := w21) w21.heap.size 2 _ rfl rfl [3, 3] 2 rfl (by kernel_rfl) (Below.refl _ _) (Nat.le_refl _) (by simp) ?_
       intro A22 c22 w22 hr hb _
       have HR22 := Lib.hid hr
       have HB22 := Lib.hid hb
       clear hr hb)
    | (refine wpB_zero (w0 := w21) w21.heap.size _ 33 rfl rfl rfl HR22.out HB22.out HB22.out.size ([3, 3] ++ List.replicate 33 0) 35 rfl rfl (by decide) ?_
       intro A23 c23 w23 hr hb _
       have HR23 := Lib.hid hr
       have HB23 := Lib.hid hb
       clear hr hb)
    | (refine wpB_lit (w0 := w21) w21.heap.size 8 _ rfl rfl [0, 2, 19, 1, 1, 0, 0, b4] 8 rfl (by kernel_rfl) HB23.out HB23.out.size (by simp) ?_
       intro A24 c24 w24 hr hb hn
       have HR24 := Lib.hid (RwB.rdV hr)
       have HB24 := Lib.hid hb
       have HR23b := Lib.hid (HR23.out.below hn)
       clear hr hb hn)
    | (refine wpB_app (w0 := w21) w21.heap.size _ _ rfl rfl rfl rfl HR23b.out HR24.out HB24.out HB24.out.size (body8 (LL)) 43 (by rw [← HF4.out]; unfold body8; congr 3; simp only [extN, List.length_append, List.length_cons, List.length_nil]; rw [HqL.out, Nat.add_comm]) rfl (by decide) ?_
       intro A25 c25 w25 hr hb _ _
       have HR25 := Lib.hid hr
       have HB25 := Lib.hid hb
       have HR21b := Lib.hid (HR21.out.below hb)
       clear hr hb)
    | (refine wpB_app (w0 := w21) w21.heap.size _ _ rfl rfl rfl rfl HR25.out HR21b.out HB25.out HB25.out.size (bodyN (LL)) yN rfl (by have := HqL.out; have := HE.out; have := HY.out; simp only [bodyN, body8, extN, List.length_append, List.length_cons, List.length_nil, List.length_replicate]; omega) (by omega) ?_
       intro A26 c26 w26 hr hb _ _
       have HR26 := Lib.hid (RwB.rdV hr)
       have HB26 := Lib.hid (HB21.out.trans (hb.mono HB21.out.size))
       clear hr hb)
    | (refine wpB_lit (w0 := w26) w26.heap.size 9 _ rfl rfl [22, 3, 1, 0, b5, 1, 0, 0, b6] 9 rfl (by kernel_rfl) (Below.refl _ _) (Nat.le_refl _) (by simp) ?_
       intro A27 c27 w27 hr hb hn
       have HR27 := Lib.hid hr
       have HB27 := Lib.hid hb
       have HR26b := Lib.hid (HR26.out.below hn)
       clear hr hb hn)
    | (refine wpB_app (w0 := w26) w26.heap.size _ _ rfl rfl rfl rfl HR27.out HR26b.out HB27.out HB27.out.size (namesB (LL)) (yN + 9) (by have e1 : (bodyN (LL)).length = qL + 6 + 43 := (by have := HqL.out; simp only [bodyN, body8, extN, List.length_append, List.length_cons, List.length_nil, List.length_replicate]; omega); unfold namesB; rw [e1, HF5.out, HF6.out]) (by have := HqL.out; have := HE.out; have := HY.out; simp only [namesB, bodyN, body8, extN, List.length_append, List.length_cons, List.length_nil, List.length_replicate]; omega) (by omega) ?_
       intro A28 c28 w28 hr hb _ _
       have HR28 := Lib.hid (RwB.rdV hr)
       have HB28 := Lib.hid (HB26.out.trans (hb.mono HB26.out.size))
       clear hr hb))
  refine (sni_rd HR28.out ⟨#[]⟩ 70 (LW.below HL.out HB28.out) (noB_ok (by rw [← HLL.out]; exact List.all_eq_true.1 no1 h HM.out))).mono ?_
  rintro e w29 ⟨rfl, hb29⟩
  have HB29 := Lib.hid (HB28.out.trans (hb29.mono HB28.out.size))
  clear hb29
  go_wp2_with fail
  refine (works_calls _ (LW.below HL.out HB29.out)).mono ?_
  rintro e w30 ⟨rfl, hb30⟩
  have HB30 := Lib.hid (HB29.out.trans (hb30.mono HB29.out.size))
  clear hb30
  go_wp2_with fail
  go_ret
  exact ⟨rfl, HB30.out⟩
set_option maxHeartbeats 8000000 in
set_option maxRecDepth 100000 in
theorem names_2 (which how kind : Int) (w : World) (hL : LW w) (r3 : Nat) (hr3 : chinoiserieref00_Bring.f kind 255 = some (r3 : Int)) (hr3l : r3 < 255) (r1 : Nat) (hr1 : chinoiserieref00_Bring.f which 5 = some (r1 : Int)) (hr1l : r1 < 5) (hr2 : chinoiserieref00_Bring.f how 5 = some 2) : Calls Tryd.prog 3 #[.int .i64 which, .int .i64 how, .int .i64 kind] w fun e w' => e = .returned (.bool true) ∧ Below w.heap.size w w' := by
  have HL := Lib.hid hL
  have HC8 := Lib.hid (chinoiserielaw07_hosts.calls hostsL w hosts_ok)
  have HBr := Lib.hid (fun w => bring_calls which 5 r1 w hr1)
  have HBr2 := Lib.hid (fun w => bring_calls how 5 2 w hr2)
  have HBr3 := Lib.hid (fun w => bring_calls kind 255 r3 w hr3)
  clear hr3
  clear hL hr1 hr2
  go_enter Tryd.func3, Tryd.ntmps3
  go_wp2_with fail
  refine HC8.out.mono ?_
  rintro e w1 ⟨v1, rfl, hv1, hb1⟩
  obtain ⟨A1, c1, rfl, hc1, hC1⟩ := Kd.R_reads hv1
  clear HC8 hv1
  go_wp2_with fail
  refine (HBr.out _).mono ?_
  rintro e w2 ⟨rfl, hb2⟩
  have HB2 := Lib.hid (hb1.trans (hb2.mono hb1.size))
  obtain ⟨ad, rfl, hcell⟩ := Kd.at_string (Kd.C_below hC1 hb2) (r1 : Int) (by omega) (by show (r1 : Int) < 5; omega)
  have hmem : rdOf ByteArray.empty hostsL (r1 : Int) ∈ hostsL := by
    have h5 : hostsL.length = 5 := rfl
    rw [rdOf, Int.toNat_natCast, List.getD_eq_getElem?_getD, List.getElem?_eq_getElem (by omega)]
    exact List.getElem_mem _
  obtain ⟨h, hh⟩ : ∃ h, rdOf ByteArray.empty hostsL (r1 : Int) = h := ⟨_, rfl⟩
  rw [hh, Int.toNat_natCast] at hcell
  rw [hh] at hmem
  have hsz := hosts_size h hmem
  have HM := Lib.hid hmem
  have hr1i : (r1 : Int) < 5 := by omega
  have h5 : hostsL.length = 5 := rfl
  rw [h5] at hc1 ⊢
  obtain ⟨n8, hn8⟩ : ∃ n8, UInt8.ofNat h.size = n8 := ⟨_, rfl⟩
  have hw8 : IntKind.u8.wrap (h.size : Int) = (n8.toNat : Int) := by rw [← hn8]; exact len_u8 _
  have hw8' : (h.size : Int) % 256 = (n8.toNat : Int) := by rw [← hw8, IntKind.wrap_u8]
  have HN8 := Lib.hid hn8
  have HSz := Lib.hid hsz
  have hcv := fun (w : World) => Lib.run_convert_string_bytes (P := Tryd.prog) w 9 25 5 h Tryd.underlying9 Tryd.underlying25 Tryd.underlying5
  have hml := hh
  clear hb1 hb2 hC1 hh hmem hn8 hml
  go_wp2_with (first
    | (refine wpB_lit (w0 := w2) w2.heap.size 3 _ rfl rfl [0, 0, n8] 3 rfl (by kernel_rfl) (Below.refl _ _) (Nat.le_refl _) (by simp) ?_
       intro A3 c3 w3 hr3 hb3 _
       have hbc := conv_below w3 h
       have HR3 := Lib.hid (hr3.below hbc)
       have HB3 := Lib.hid (hb3.trans (hbc.mono hb3.size))
       have HRc := Lib.hid (conv_rd w3 h (by omega))
       clear hr3 hb3 hbc)
    | (refine wpB_app (w0 := w2) w2.heap.size _ _ rfl rfl rfl rfl HR3.out HRc.out HB3.out HB3.out.size (nameL h) (h.size + 3) (by rw [← HN8.out]; rfl) (by simp only [nameL, List.length_append, List.length_cons, List.length_nil, Array.length_toList]; show 3 + h.size = _; omega) (by omega) ?_
       intro A4 c4 w4 hr4 hb4 _ _
       obtain ⟨nN, hnN⟩ : ∃ nN, h.size + 3 = nN := ⟨_, rfl⟩
       rw [hnN] at hr4 ⊢
       have HNn := Lib.hid hnN
       have HR4 := Lib.hid hr4
       have HB4 := Lib.hid (HB2.out.trans (hb4.mono HB2.out.size))
       clear hr4 hb4 hnN))
  refine (copy_calls (RwB.rdV HR4.out) (by have := HNn.out; omega)).mono ?_
  rintro e w5 ⟨A5, c5, rfl, hr5, hb5⟩
  have HR5 := Lib.hid hr5
  have HN5 := Lib.hid ((RwB.rdV HR4.out).below hb5)
  have HB5 := Lib.hid (HB4.out.trans (hb5.mono HB4.out.size))
  have HR5b := hb5.size
  have HB45 := hb5
  clear hr5
  go_wp2_with fail
  refine (HBr2.out _).mono ?_
  rintro e w6 ⟨rfl, hb6⟩
  have HR6 := Lib.hid (HR5.out.below hb6)
  have HN6 := Lib.hid (HN5.out.below hb6)
  have HB6 := Lib.hid (HB5.out.trans (hb6.mono HB5.out.size))
  have HB46 := Lib.hid (HB45.trans (hb6.mono HB45.size))
  have HS5 : Hid (w4.heap.size ≤ w6.heap.size) := Lib.hid (Nat.le_trans HR5b (Nat.le_trans (Nat.le_refl _) hb6.size))
  clear hb6
  obtain ⟨qL, hq0⟩ : ∃ q, nN = q := ⟨_, rfl⟩
  obtain ⟨bk, hbk⟩ : ∃ b, UInt8.ofNat (1 + r3) = b := ⟨_, rfl⟩
  have hnm : (nameL h).length = nN := by rw [← HNn.out]; simp only [nameL, List.length_append, List.length_cons, List.length_nil, Array.length_toList]; show 3 + h.size = _; omega
  subst hq0
  obtain ⟨qL, hqE⟩ : ∃ q, q = nN := ⟨_, rfl⟩
  subst hqE
  obtain ⟨LL, hLL⟩ : ∃ LL, (nameL h).set 0 bk = LL := ⟨_, rfl⟩
  have hqL : LL.length = qL := by rw [← hLL, List.length_set, hnm]
  have HLL := Lib.hid hLL
  clear hLL
  have hqb : qL ≤ 60 := by have := HNn.out; have := HSz.out; omega
  have HNm := Lib.hid hnm
  have HBk := Lib.hid hbk
  have hwk : IntKind.u8.wrap (1 + (r3 : Int)) = (bk.toNat : Int) := by rw [← hbk, ← len_u8]; rw [Int.natCast_add]; rfl
  have hwk' : (1 + (r3 : Int)) % 256 = (bk.toNat : Int) := by rw [← hwk, IntKind.wrap_u8]
  have hpos : (0 : Int) < (qL : Int) := by have := HNn.out; omega
  have hpos' : 0 < qL := by omega
  obtain ⟨g5, rfl, hg5, hg5'⟩ := HR6.out.open2 (by omega)
  clear hnm hbk hg5 hg5'
  obtain ⟨b2, hb2⟩ : ∃ b, UInt8.ofNat (qL + 2) = b := ⟨_, rfl⟩
  obtain ⟨b3, hb3⟩ : ∃ b, UInt8.ofNat qL = b := ⟨_, rfl⟩
  obtain ⟨b4, hb4⟩ : ∃ b, UInt8.ofNat (qL + 6) = b := ⟨_, rfl⟩
  obtain ⟨b5, hb5⟩ : ∃ b, UInt8.ofNat (qL + 6 + 43 + 4) = b := ⟨_, rfl⟩
  obtain ⟨b6, hb6⟩ : ∃ b, UInt8.ofNat (qL + 6 + 43) = b := ⟨_, rfl⟩
  obtain ⟨eN, heN⟩ : ∃ e, qL + 6 = e := ⟨_, rfl⟩
  obtain ⟨yN, hyN⟩ : ∃ e, eN + 43 = e := ⟨_, rfl⟩
  have hw2 : IntKind.u8.wrap ((qL : Int) + 2) = (b2.toNat : Int) := by rw [← hb2]; exact len_u8 _
  have hw2' : ((qL : Int) + 2) % 256 = (b2.toNat : Int) := by rw [← hw2, IntKind.wrap_u8]
  have hw3 : IntKind.u8.wrap (qL : Int) = (b3.toNat : Int) := by rw [← hb3]; exact len_u8 _
  have hw3' : (qL : Int) % 256 = (b3.toNat : Int) := by rw [← hw3, IntKind.wrap_u8]
  have hw4 : IntKind.u8.wrap (eN : Int) = (b4.toNat : Int) := by rw [← hb4, ← heN]; exact len_u8 _
  have hw4' : (eN : Int) % 256 = (b4.toNat : Int) := by rw [← hw4, IntKind.wrap_u8]
  have hw5 : IntKind.u8.wrap ((yN : Int) + 4) = (b5.toNat : Int) := by rw [← hb5, ← hyN, ← heN]; exact len_u8 _
  have hw5' : ((yN : Int) + 4) % 256 = (b5.toNat : Int) := by rw [← hw5, IntKind.wrap_u8]
  have hw6 : IntKind.u8.wrap (yN : Int) = (b6.toNat : Int) := by rw [← hb6, ← hyN, ← heN]; exact len_u8 _
  have hw6' : (yN : Int) % 256 = (b6.toNat : Int) := by rw [← hw6, IntKind.wrap_u8]
  have heb : eN ≤ 66 := by omega
  have hyb : yN ≤ 109 := by omega
  have HqL := Lib.hid hqL
  have hqb2 : qL ≤ 60 := hqb
  have HE := Lib.hid heN
  have HY := Lib.hid hyN
  have HF2 := Lib.hid hb2
  have HF3 := Lib.hid hb3
  have HF4 := Lib.hid hb4
  have HF5 := Lib.hid hb5
  have HF6 := Lib.hid hb6
  clear hb2 hb3 hb4 hb5 hb6 heN hyN hqL
  go_wp2_with (first
    | (go_at_call 9; refine (HBr3.out _).mono ?_; rintro e w6b ⟨rfl, hb⟩
       have HR6b := Lib.hid (HR6.out.below hb)
       have HB46b := Lib.hid (HB46.out.trans (hb.mono HB46.out.size))
       clear hb)
    | (refine wpB_setq (w0 := w4) w4.heap.size g5 c5 0 qL HNm.out rfl rfl _ _ rfl rfl bk rfl HR6b.out hpos' HB46b.out ?_
       intro w7 hr hb _
       rw [HLL.out] at hr
       have HRX := Lib.hid (RwB.rdV hr)
       have HB7 := Lib.hid (HB4.out.trans (hb.mono HB4.out.size))
       clear hr hb)
    | (refine wpB_lit (w0 := w7) w7.heap.size 6 _ rfl rfl [0, 0, 0, b2, 0, b3] 6 rfl (by kernel_rfl) (Below.refl _ _) (Nat.le_refl _) (by simp) ?_
       intro A20 c20 w20 hr hb hn
       have HR20 := Lib.hid hr
       have HB20 := Lib.hid hb
       have HRL := Lib.hid (HRX.out.below hn)
       clear hr hb hn)
    | (refine wpB_app (w0 := w7) w7.heap.size _ _ rfl rfl rfl rfl HR20.out HRL.out HB20.out HB20.out.size (extN (LL)) eN (by show [0, 0, 0, b2, 0, b3] ++ LL = _; rw [← HF2.out, ← HF3.out, ← HqL.out]; rfl) (by have := HqL.out; have := HE.out; simp only [extN, List.length_append, List.length_cons, List.length_nil]; omega) (by omega) ?_
       intro A21 c21 w21 hr hb _ _
       have HR21 := Lib.hid (RwB.rdV hr)
       have HB21 := Lib.hid (HB7.out.trans (hb.mono HB7.out.size))
       clear hr hb)
    | (refine wpB_lit (w0 := w21) w21.heap.size 2 _ rfl rfl [3, 3] 2 rfl (by kernel_rfl) (Below.refl _ _) (Nat.le_refl _) (by simp) ?_
       intro A22 c22 w22 hr hb _
       have HR22 := Lib.hid hr
       have HB22 := Lib.hid hb
       clear hr hb)
    | (refine wpB_zero (w0 := w21) w21.heap.size _ 33 rfl rfl rfl HR22.out HB22.out HB22.out.size ([3, 3] ++ List.replicate 33 0) 35 rfl rfl (by decide) ?_
       intro A23 c23 w23 hr hb _
       have HR23 := Lib.hid hr
       have HB23 := Lib.hid hb
       clear hr hb)
    | (refine wpB_lit (w0 := w21) w21.heap.size 8 _ rfl rfl [0, 2, 19, 1, 1, 0, 0, b4] 8 rfl (by kernel_rfl) HB23.out HB23.out.size (by simp) ?_
       intro A24 c24 w24 hr hb hn
       have HR24 := Lib.hid (RwB.rdV hr)
       have HB24 := Lib.hid hb
       have HR23b := Lib.hid (HR23.out.below hn)
       clear hr hb hn)
    | (refine wpB_app (w0 := w21) w21.heap.size _ _ rfl rfl rfl rfl HR23b.out HR24.out HB24.out HB24.out.size (body8 (LL)) 43 (by rw [← HF4.out]; unfold body8; congr 3; simp only [extN, List.length_append, List.length_cons, List.length_nil]; rw [HqL.out, Nat.add_comm]) rfl (by decide) ?_
       intro A25 c25 w25 hr hb _ _
       have HR25 := Lib.hid hr
       have HB25 := Lib.hid hb
       have HR21b := Lib.hid (HR21.out.below hb)
       clear hr hb)
    | (refine wpB_app (w0 := w21) w21.heap.size _ _ rfl rfl rfl rfl HR25.out HR21b.out HB25.out HB25.out.size (bodyN (LL)) yN rfl (by have := HqL.out; have := HE.out; have := HY.out; simp only [bodyN, body8, extN, List.length_append, List.length_cons, List.length_nil, List.length_replicate]; omega) (by omega) ?_
       intro A26 c26 w26 hr hb _ _
       have HR26 := Lib.hid (RwB.rdV hr)
       have HB26 := Lib.hid (HB21.out.trans (hb.mono HB21.out.size))
       clear hr hb)
    | (refine wpB_lit (w0 := w26) w26.heap.size 9 _ rfl rfl [22, 3, 1, 0, b5, 1, 0, 0, b6] 9 rfl (by kernel_rfl) (Below.refl _ _) (Nat.le_refl _) (by simp) ?_
       intro A27 c27 w27 hr hb hn
       have HR27 := Lib.hid hr
       have HB27 := Lib.hid hb
       have HR26b := Lib.hid (HR26.out.below hn)
       clear hr hb hn)
    | (refine wpB_app (w0 := w26) w26.heap.size _ _ rfl rfl rfl rfl HR27.out HR26b.out HB27.out HB27.out.size (namesB (LL)) (yN + 9) (by have e1 : (bodyN (LL)).length = qL + 6 + 43 := (by have := HqL.out; simp only [bodyN, body8, extN, List.length_append, List.length_cons, List.length_nil, List.length_replicate]; omega); unfold namesB; rw [e1, HF5.out, HF6.out]) (by have := HqL.out; have := HE.out; have := HY.out; simp only [namesB, bodyN, body8, extN, List.length_append, List.length_cons, List.length_nil, List.length_replicate]; omega) (by omega) ?_
       intro A28 c28 w28 hr hb _ _
       have HR28 := Lib.hid (RwB.rdV hr)
       have HB28 := Lib.hid (HB26.out.trans (hb.mono HB26.out.size))
       clear hr hb))
  refine (sni_rd HR28.out ⟨#[]⟩ 70 (LW.below HL.out HB28.out) (noB_ok (by rw [← HLL.out, ← HBk.out]; exact List.all_eq_true.1 (List.all_eq_true.1 no2 h HM.out) r3 (List.mem_range.2 hr3l)))).mono ?_
  rintro e w29 ⟨rfl, hb29⟩
  have HB29 := Lib.hid (HB28.out.trans (hb29.mono HB28.out.size))
  clear hb29
  go_wp2_with fail
  refine (works_calls _ (LW.below HL.out HB29.out)).mono ?_
  rintro e w30 ⟨rfl, hb30⟩
  have HB30 := Lib.hid (HB29.out.trans (hb30.mono HB29.out.size))
  clear hb30
  go_wp2_with fail
  go_ret
  exact ⟨rfl, HB30.out⟩
set_option maxHeartbeats 8000000 in
set_option maxRecDepth 100000 in
theorem names_3 (which how kind : Int) (w : World) (hL : LW w) (r1 : Nat) (hr1 : chinoiserieref00_Bring.f which 5 = some (r1 : Int)) (hr1l : r1 < 5) (hr2 : chinoiserieref00_Bring.f how 5 = some 3) : Calls Tryd.prog 3 #[.int .i64 which, .int .i64 how, .int .i64 kind] w fun e w' => e = .returned (.bool true) ∧ Below w.heap.size w w' := by
  have HL := Lib.hid hL
  have HC8 := Lib.hid (chinoiserielaw07_hosts.calls hostsL w hosts_ok)
  have HBr := Lib.hid (fun w => bring_calls which 5 r1 w hr1)
  have HBr2 := Lib.hid (fun w => bring_calls how 5 3 w hr2)
  clear hL hr1 hr2
  go_enter Tryd.func3, Tryd.ntmps3
  go_wp2_with fail
  refine HC8.out.mono ?_
  rintro e w1 ⟨v1, rfl, hv1, hb1⟩
  obtain ⟨A1, c1, rfl, hc1, hC1⟩ := Kd.R_reads hv1
  clear HC8 hv1
  go_wp2_with fail
  refine (HBr.out _).mono ?_
  rintro e w2 ⟨rfl, hb2⟩
  have HB2 := Lib.hid (hb1.trans (hb2.mono hb1.size))
  obtain ⟨ad, rfl, hcell⟩ := Kd.at_string (Kd.C_below hC1 hb2) (r1 : Int) (by omega) (by show (r1 : Int) < 5; omega)
  have hmem : rdOf ByteArray.empty hostsL (r1 : Int) ∈ hostsL := by
    have h5 : hostsL.length = 5 := rfl
    rw [rdOf, Int.toNat_natCast, List.getD_eq_getElem?_getD, List.getElem?_eq_getElem (by omega)]
    exact List.getElem_mem _
  obtain ⟨h, hh⟩ : ∃ h, rdOf ByteArray.empty hostsL (r1 : Int) = h := ⟨_, rfl⟩
  rw [hh, Int.toNat_natCast] at hcell
  rw [hh] at hmem
  have hsz := hosts_size h hmem
  have HM := Lib.hid hmem
  have hr1i : (r1 : Int) < 5 := by omega
  have h5 : hostsL.length = 5 := rfl
  rw [h5] at hc1 ⊢
  obtain ⟨n8, hn8⟩ : ∃ n8, UInt8.ofNat h.size = n8 := ⟨_, rfl⟩
  have hw8 : IntKind.u8.wrap (h.size : Int) = (n8.toNat : Int) := by rw [← hn8]; exact len_u8 _
  have hw8' : (h.size : Int) % 256 = (n8.toNat : Int) := by rw [← hw8, IntKind.wrap_u8]
  have HN8 := Lib.hid hn8
  have HSz := Lib.hid hsz
  have hcv := fun (w : World) => Lib.run_convert_string_bytes (P := Tryd.prog) w 9 25 5 h Tryd.underlying9 Tryd.underlying25 Tryd.underlying5
  have hml := hh
  clear hb1 hb2 hC1 hh hmem hn8 hml
  go_wp2_with (first
    | (refine wpB_lit (w0 := w2) w2.heap.size 3 _ rfl rfl [0, 0, n8] 3 rfl (by kernel_rfl) (Below.refl _ _) (Nat.le_refl _) (by simp) ?_
       intro A3 c3 w3 hr3 hb3 _
       have hbc := conv_below w3 h
       have HR3 := Lib.hid (hr3.below hbc)
       have HB3 := Lib.hid (hb3.trans (hbc.mono hb3.size))
       have HRc := Lib.hid (conv_rd w3 h (by omega))
       clear hr3 hb3 hbc)
    | (refine wpB_app (w0 := w2) w2.heap.size _ _ rfl rfl rfl rfl HR3.out HRc.out HB3.out HB3.out.size (nameL h) (h.size + 3) (by rw [← HN8.out]; rfl) (by simp only [nameL, List.length_append, List.length_cons, List.length_nil, Array.length_toList]; show 3 + h.size = _; omega) (by omega) ?_
       intro A4 c4 w4 hr4 hb4 _ _
       obtain ⟨nN, hnN⟩ : ∃ nN, h.size + 3 = nN := ⟨_, rfl⟩
       rw [hnN] at hr4 ⊢
       have HNn := Lib.hid hnN
       have HR4 := Lib.hid hr4
       have HB4 := Lib.hid (HB2.out.trans (hb4.mono HB2.out.size))
       clear hr4 hb4 hnN))
  refine (copy_calls (RwB.rdV HR4.out) (by have := HNn.out; omega)).mono ?_
  rintro e w5 ⟨A5, c5, rfl, hr5, hb5⟩
  have HR5 := Lib.hid hr5
  have HN5 := Lib.hid ((RwB.rdV HR4.out).below hb5)
  have HB5 := Lib.hid (HB4.out.trans (hb5.mono HB4.out.size))
  have HR5b := hb5.size
  have HB45 := hb5
  clear hr5
  go_wp2_with fail
  refine (HBr2.out _).mono ?_
  rintro e w6 ⟨rfl, hb6⟩
  have HR6 := Lib.hid (HR5.out.below hb6)
  have HN6 := Lib.hid (HN5.out.below hb6)
  have HB6 := Lib.hid (HB5.out.trans (hb6.mono HB5.out.size))
  have HB46 := Lib.hid (HB45.trans (hb6.mono HB45.size))
  have HS5 : Hid (w4.heap.size ≤ w6.heap.size) := Lib.hid (Nat.le_trans HR5b (Nat.le_trans (Nat.le_refl _) hb6.size))
  clear hb6
  go_wp2_with (first
    | (refine wpB_lit (w0 := w6) w6.heap.size 3 _ rfl rfl [0, 0, 0] 3 rfl (by kernel_rfl) (Below.refl _ _) (Nat.le_refl _) (by simp) ?_
       intro A7 c7 w7 hr hb _
       have HRX := Lib.hid (RwB.rdV hr)
       have HB7 := Lib.hid (HB6.out.trans (hb.mono HB6.out.size))
       clear hr hb)
    | (refine wpB_lit (w0 := w7) w7.heap.size 6 _ rfl rfl [0, 0, 0, 5, 0, 3] 6 rfl (by kernel_rfl) (Below.refl _ _) (Nat.le_refl _) (by simp) ?_
       intro A20 c20 w20 hr hb hn
       have HR20 := Lib.hid hr
       have HB20 := Lib.hid hb
       have HRL := Lib.hid (HRX.out.below hn)
       clear hr hb hn)
    | (refine wpB_app (w0 := w7) w7.heap.size _ _ rfl rfl rfl rfl HR20.out HRL.out HB20.out HB20.out.size (extN ([0, 0, 0])) 9 rfl rfl (by omega) ?_
       intro A21 c21 w21 hr hb _ _
       have HR21 := Lib.hid (RwB.rdV hr)
       have HB21 := Lib.hid (HB7.out.trans (hb.mono HB7.out.size))
       clear hr hb)
    | (refine wpB_lit (w0 := w21) w21.heap.size 2 _ rfl rfl [3, 3] 2 rfl (by kernel_rfl) (Below.refl _ _) (Nat.le_refl _) (by simp) ?_
       intro A22 c22 w22 hr hb _
       have HR22 := Lib.hid hr
       have HB22 := Lib.hid hb
       clear hr hb)
    | (refine wpB_zero (w0 := w21) w21.heap.size _ 33 rfl rfl rfl HR22.out HB22.out HB22.out.size ([3, 3] ++ List.replicate 33 0) 35 rfl rfl (by decide) ?_
       intro A23 c23 w23 hr hb _
       have HR23 := Lib.hid hr
       have HB23 := Lib.hid hb
       clear hr hb)
    | (refine wpB_lit (w0 := w21) w21.heap.size 8 _ rfl rfl [0, 2, 19, 1, 1, 0, 0, 9] 8 rfl (by kernel_rfl) HB23.out HB23.out.size (by simp) ?_
       intro A24 c24 w24 hr hb hn
       have HR24 := Lib.hid (RwB.rdV hr)
       have HB24 := Lib.hid hb
       have HR23b := Lib.hid (HR23.out.below hn)
       clear hr hb hn)
    | (refine wpB_app (w0 := w21) w21.heap.size _ _ rfl rfl rfl rfl HR23b.out HR24.out HB24.out HB24.out.size (body8 ([0, 0, 0])) 43 rfl rfl (by decide) ?_
       intro A25 c25 w25 hr hb _ _
       have HR25 := Lib.hid hr
       have HB25 := Lib.hid hb
       have HR21b := Lib.hid (HR21.out.below hb)
       clear hr hb)
    | (refine wpB_app (w0 := w21) w21.heap.size _ _ rfl rfl rfl rfl HR25.out HR21b.out HB25.out HB25.out.size (bodyN ([0, 0, 0])) 52 rfl rfl (by omega) ?_
       intro A26 c26 w26 hr hb _ _
       have HR26 := Lib.hid (RwB.rdV hr)
       have HB26 := Lib.hid (HB21.out.trans (hb.mono HB21.out.size))
       clear hr hb)
    | (refine wpB_lit (w0 := w26) w26.heap.size 9 _ rfl rfl [22, 3, 1, 0, 56, 1, 0, 0, 52] 9 rfl (by kernel_rfl) (Below.refl _ _) (Nat.le_refl _) (by simp) ?_
       intro A27 c27 w27 hr hb hn
       have HR27 := Lib.hid hr
       have HB27 := Lib.hid hb
       have HR26b := Lib.hid (HR26.out.below hn)
       clear hr hb hn)
    | (refine wpB_app (w0 := w26) w26.heap.size _ _ rfl rfl rfl rfl HR27.out HR26b.out HB27.out HB27.out.size (namesB ([0, 0, 0])) 61 rfl rfl (by omega) ?_
       intro A28 c28 w28 hr hb _ _
       have HR28 := Lib.hid (RwB.rdV hr)
       have HB28 := Lib.hid (HB26.out.trans (hb.mono HB26.out.size))
       clear hr hb))
  refine (sni_rd HR28.out ⟨#[]⟩ 70 (LW.below HL.out HB28.out) (noB_ok no3)).mono ?_
  rintro e w29 ⟨rfl, hb29⟩
  have HB29 := Lib.hid (HB28.out.trans (hb29.mono HB28.out.size))
  clear hb29
  go_wp2_with fail
  refine (works_calls _ (LW.below HL.out HB29.out)).mono ?_
  rintro e w30 ⟨rfl, hb30⟩
  have HB30 := Lib.hid (HB29.out.trans (hb30.mono HB29.out.size))
  clear hb30
  go_wp2_with fail
  go_ret
  exact ⟨rfl, HB30.out⟩
set_option maxHeartbeats 8000000 in
set_option maxRecDepth 100000 in
theorem names_4 (which how kind : Int) (w : World) (hL : LW w) (r1 : Nat) (hr1 : chinoiserieref00_Bring.f which 5 = some (r1 : Int)) (hr1l : r1 < 5) (hr2 : chinoiserieref00_Bring.f how 5 = some 4) : Calls Tryd.prog 3 #[.int .i64 which, .int .i64 how, .int .i64 kind] w fun e w' => e = .returned (.bool true) ∧ Below w.heap.size w w' := by
  have HL := Lib.hid hL
  have HC8 := Lib.hid (chinoiserielaw07_hosts.calls hostsL w hosts_ok)
  have HBr := Lib.hid (fun w => bring_calls which 5 r1 w hr1)
  have HBr2 := Lib.hid (fun w => bring_calls how 5 4 w hr2)
  clear hL hr1 hr2
  go_enter Tryd.func3, Tryd.ntmps3
  go_wp2_with fail
  refine HC8.out.mono ?_
  rintro e w1 ⟨v1, rfl, hv1, hb1⟩
  obtain ⟨A1, c1, rfl, hc1, hC1⟩ := Kd.R_reads hv1
  clear HC8 hv1
  go_wp2_with fail
  refine (HBr.out _).mono ?_
  rintro e w2 ⟨rfl, hb2⟩
  have HB2 := Lib.hid (hb1.trans (hb2.mono hb1.size))
  obtain ⟨ad, rfl, hcell⟩ := Kd.at_string (Kd.C_below hC1 hb2) (r1 : Int) (by omega) (by show (r1 : Int) < 5; omega)
  have hmem : rdOf ByteArray.empty hostsL (r1 : Int) ∈ hostsL := by
    have h5 : hostsL.length = 5 := rfl
    rw [rdOf, Int.toNat_natCast, List.getD_eq_getElem?_getD, List.getElem?_eq_getElem (by omega)]
    exact List.getElem_mem _
  obtain ⟨h, hh⟩ : ∃ h, rdOf ByteArray.empty hostsL (r1 : Int) = h := ⟨_, rfl⟩
  rw [hh, Int.toNat_natCast] at hcell
  rw [hh] at hmem
  have hsz := hosts_size h hmem
  have HM := Lib.hid hmem
  have hr1i : (r1 : Int) < 5 := by omega
  have h5 : hostsL.length = 5 := rfl
  rw [h5] at hc1 ⊢
  obtain ⟨n8, hn8⟩ : ∃ n8, UInt8.ofNat h.size = n8 := ⟨_, rfl⟩
  have hw8 : IntKind.u8.wrap (h.size : Int) = (n8.toNat : Int) := by rw [← hn8]; exact len_u8 _
  have hw8' : (h.size : Int) % 256 = (n8.toNat : Int) := by rw [← hw8, IntKind.wrap_u8]
  have HN8 := Lib.hid hn8
  have HSz := Lib.hid hsz
  have hcv := fun (w : World) => Lib.run_convert_string_bytes (P := Tryd.prog) w 9 25 5 h Tryd.underlying9 Tryd.underlying25 Tryd.underlying5
  have hml := hh
  clear hb1 hb2 hC1 hh hmem hn8 hml
  go_wp2_with (first
    | (refine wpB_lit (w0 := w2) w2.heap.size 3 _ rfl rfl [0, 0, n8] 3 rfl (by kernel_rfl) (Below.refl _ _) (Nat.le_refl _) (by simp) ?_
       intro A3 c3 w3 hr3 hb3 _
       have hbc := conv_below w3 h
       have HR3 := Lib.hid (hr3.below hbc)
       have HB3 := Lib.hid (hb3.trans (hbc.mono hb3.size))
       have HRc := Lib.hid (conv_rd w3 h (by omega))
       clear hr3 hb3 hbc)
    | (refine wpB_app (w0 := w2) w2.heap.size _ _ rfl rfl rfl rfl HR3.out HRc.out HB3.out HB3.out.size (nameL h) (h.size + 3) (by rw [← HN8.out]; rfl) (by simp only [nameL, List.length_append, List.length_cons, List.length_nil, Array.length_toList]; show 3 + h.size = _; omega) (by omega) ?_
       intro A4 c4 w4 hr4 hb4 _ _
       obtain ⟨nN, hnN⟩ : ∃ nN, h.size + 3 = nN := ⟨_, rfl⟩
       rw [hnN] at hr4 ⊢
       have HNn := Lib.hid hnN
       have HR4 := Lib.hid hr4
       have HB4 := Lib.hid (HB2.out.trans (hb4.mono HB2.out.size))
       clear hr4 hb4 hnN))
  refine (copy_calls (RwB.rdV HR4.out) (by have := HNn.out; omega)).mono ?_
  rintro e w5 ⟨A5, c5, rfl, hr5, hb5⟩
  have HR5 := Lib.hid hr5
  have HN5 := Lib.hid ((RwB.rdV HR4.out).below hb5)
  have HB5 := Lib.hid (HB4.out.trans (hb5.mono HB4.out.size))
  have HR5b := hb5.size
  have HB45 := hb5
  clear hr5
  go_wp2_with fail
  refine (HBr2.out _).mono ?_
  rintro e w6 ⟨rfl, hb6⟩
  have HR6 := Lib.hid (HR5.out.below hb6)
  have HN6 := Lib.hid (HN5.out.below hb6)
  have HB6 := Lib.hid (HB5.out.trans (hb6.mono HB5.out.size))
  have HB46 := Lib.hid (HB45.trans (hb6.mono HB45.size))
  have HS5 : Hid (w4.heap.size ≤ w6.heap.size) := Lib.hid (Nat.le_trans HR5b (Nat.le_trans (Nat.le_refl _) hb6.size))
  clear hb6
  obtain ⟨bk, hbk⟩ : ∃ b, n8 - 1 = b := ⟨_, rfl⟩
  have hnm : (nameL h).length = nN := by rw [← HNn.out]; simp only [nameL, List.length_append, List.length_cons, List.length_nil, Array.length_toList]; show 3 + h.size = _; omega
  obtain ⟨qL, hqE⟩ : ∃ q, q = nN := ⟨_, rfl⟩
  subst hqE
  obtain ⟨LL, hLL⟩ : ∃ LL, (nameL h).set 2 bk = LL := ⟨_, rfl⟩
  have hqL : LL.length = qL := by rw [← hLL, List.length_set, hnm]
  have HLL := Lib.hid hLL
  clear hLL
  have hqb : qL ≤ 60 := by have := HNn.out; have := HSz.out; omega
  have HNm := Lib.hid hnm
  have HBk := Lib.hid hbk
  have hpos : (2 : Int) < (qL : Int) := by have := HNn.out; have := HSz.out; omega
  have hpos' : 2 < qL := by omega
  have h8 : 1 ≤ n8.toNat := by rw [← HN8.out]; have := HSz.out; simp; omega
  have hwk : IntKind.u8.wrap ((n8.toNat : Int) - 1) = (bk.toNat : Int) := by
    rw [← hbk, IntKind.wrap_u8]
    have h9 := n8.toNat_lt
    have : (n8 - 1).toNat = n8.toNat - 1 := by
      rw [UInt8.toNat_sub_of_le]
      · rfl
      · exact UInt8.le_iff_toNat_le.2 h8
    rw [this]
    omega
  have hwk' : ((n8.toNat : Int) - 1) % 256 = (bk.toNat : Int) := by rw [← hwk, IntKind.wrap_u8]
  obtain ⟨g5, rfl, hg5, hg5'⟩ := HR6.out.open2 (by omega)
  have hcell2 : w6.cell? ⟨g5, 2, none⟩ = some (.int .u8 (n8.toNat : Int)) := by
    have := HR6.out.cell 2 (by omega)
    rw [this]
    congr 3
    rw [← HN8.out]
    rfl
  clear hnm hbk hg5 hg5' h8
  obtain ⟨b2, hb2⟩ : ∃ b, UInt8.ofNat (qL + 2) = b := ⟨_, rfl⟩
  obtain ⟨b3, hb3⟩ : ∃ b, UInt8.ofNat qL = b := ⟨_, rfl⟩
  obtain ⟨b4, hb4⟩ : ∃ b, UInt8.ofNat (qL + 6) = b := ⟨_, rfl⟩
  obtain ⟨b5, hb5⟩ : ∃ b, UInt8.ofNat (qL + 6 + 43 + 4) = b := ⟨_, rfl⟩
  obtain ⟨b6, hb6⟩ : ∃ b, UInt8.ofNat (qL + 6 + 43) = b := ⟨_, rfl⟩
  obtain ⟨eN, heN⟩ : ∃ e, qL + 6 = e := ⟨_, rfl⟩
  obtain ⟨yN, hyN⟩ : ∃ e, eN + 43 = e := ⟨_, rfl⟩
  have hw2 : IntKind.u8.wrap ((qL : Int) + 2) = (b2.toNat : Int) := by rw [← hb2]; exact len_u8 _
  have hw2' : ((qL : Int) + 2) % 256 = (b2.toNat : Int) := by rw [← hw2, IntKind.wrap_u8]
  have hw3 : IntKind.u8.wrap (qL : Int) = (b3.toNat : Int) := by rw [← hb3]; exact len_u8 _
  have hw3' : (qL : Int) % 256 = (b3.toNat : Int) := by rw [← hw3, IntKind.wrap_u8]
  have hw4 : IntKind.u8.wrap (eN : Int) = (b4.toNat : Int) := by rw [← hb4, ← heN]; exact len_u8 _
  have hw4' : (eN : Int) % 256 = (b4.toNat : Int) := by rw [← hw4, IntKind.wrap_u8]
  have hw5 : IntKind.u8.wrap ((yN : Int) + 4) = (b5.toNat : Int) := by rw [← hb5, ← hyN, ← heN]; exact len_u8 _
  have hw5' : ((yN : Int) + 4) % 256 = (b5.toNat : Int) := by rw [← hw5, IntKind.wrap_u8]
  have hw6 : IntKind.u8.wrap (yN : Int) = (b6.toNat : Int) := by rw [← hb6, ← hyN, ← heN]; exact len_u8 _
  have hw6' : (yN : Int) % 256 = (b6.toNat : Int) := by rw [← hw6, IntKind.wrap_u8]
  have heb : eN ≤ 66 := by omega
  have hyb : yN ≤ 109 := by omega
  have HqL := Lib.hid hqL
  have hqb2 : qL ≤ 60 := hqb
  have HE := Lib.hid heN
  have HY := Lib.hid hyN
  have HF2 := Lib.hid hb2
  have HF3 := Lib.hid hb3
  have HF4 := Lib.hid hb4
  have HF5 := Lib.hid hb5
  have HF6 := Lib.hid hb6
  clear hb2 hb3 hb4 hb5 hb6 heN hyN hqL
  go_wp2_with (first
    | (refine wpB_setq (w0 := w4) w4.heap.size g5 c5 2 qL HNm.out rfl rfl _ _ rfl rfl bk rfl HR6.out hpos' HB46.out ?_
       intro w7 hr hb _
       rw [HLL.out] at hr
       have HRX := Lib.hid (RwB.rdV hr)
       have HB7 := Lib.hid (HB4.out.trans (hb.mono HB4.out.size))
       clear hr hb hcell2)
    | (refine wpB_lit (w0 := w7) w7.heap.size 6 _ rfl rfl [0, 0, 0, b2, 0, b3] 6 rfl (by kernel_rfl) (Below.refl _ _) (Nat.le_refl _) (by simp) ?_
       intro A20 c20 w20 hr hb hn
       have HR20 := Lib.hid hr
       have HB20 := Lib.hid hb
       have HRL := Lib.hid (HRX.out.below hn)
       clear hr hb hn)
    | (refine wpB_app (w0 := w7) w7.heap.size _ _ rfl rfl rfl rfl HR20.out HRL.out HB20.out HB20.out.size (extN (LL)) eN (by show [0, 0, 0, b2, 0, b3] ++ LL = _; rw [← HF2.out, ← HF3.out, ← HqL.out]; rfl) (by have := HqL.out; have := HE.out; simp only [extN, List.length_append, List.length_cons, List.length_nil]; omega) (by omega) ?_
       intro A21 c21 w21 hr hb _ _
       have HR21 := Lib.hid (RwB.rdV hr)
       have HB21 := Lib.hid (HB7.out.trans (hb.mono HB7.out.size))
       clear hr hb)
    | (refine wpB_lit (w0 := w21) w21.heap.size 2 _ rfl rfl [3, 3] 2 rfl (by kernel_rfl) (Below.refl _ _) (Nat.le_refl _) (by simp) ?_
       intro A22 c22 w22 hr hb _
       have HR22 := Lib.hid hr
       have HB22 := Lib.hid hb
       clear hr hb)
    | (refine wpB_zero (w0 := w21) w21.heap.size _ 33 rfl rfl rfl HR22.out HB22.out HB22.out.size ([3, 3] ++ List.replicate 33 0) 35 rfl rfl (by decide) ?_
       intro A23 c23 w23 hr hb _
       have HR23 := Lib.hid hr
       have HB23 := Lib.hid hb
       clear hr hb)
    | (refine wpB_lit (w0 := w21) w21.heap.size 8 _ rfl rfl [0, 2, 19, 1, 1, 0, 0, b4] 8 rfl (by kernel_rfl) HB23.out HB23.out.size (by simp) ?_
       intro A24 c24 w24 hr hb hn
       have HR24 := Lib.hid (RwB.rdV hr)
       have HB24 := Lib.hid hb
       have HR23b := Lib.hid (HR23.out.below hn)
       clear hr hb hn)
    | (refine wpB_app (w0 := w21) w21.heap.size _ _ rfl rfl rfl rfl HR23b.out HR24.out HB24.out HB24.out.size (body8 (LL)) 43 (by rw [← HF4.out]; unfold body8; congr 3; simp only [extN, List.length_append, List.length_cons, List.length_nil]; rw [HqL.out, Nat.add_comm]) rfl (by decide) ?_
       intro A25 c25 w25 hr hb _ _
       have HR25 := Lib.hid hr
       have HB25 := Lib.hid hb
       have HR21b := Lib.hid (HR21.out.below hb)
       clear hr hb)
    | (refine wpB_app (w0 := w21) w21.heap.size _ _ rfl rfl rfl rfl HR25.out HR21b.out HB25.out HB25.out.size (bodyN (LL)) yN rfl (by have := HqL.out; have := HE.out; have := HY.out; simp only [bodyN, body8, extN, List.length_append, List.length_cons, List.length_nil, List.length_replicate]; omega) (by omega) ?_
       intro A26 c26 w26 hr hb _ _
       have HR26 := Lib.hid (RwB.rdV hr)
       have HB26 := Lib.hid (HB21.out.trans (hb.mono HB21.out.size))
       clear hr hb)
    | (refine wpB_lit (w0 := w26) w26.heap.size 9 _ rfl rfl [22, 3, 1, 0, b5, 1, 0, 0, b6] 9 rfl (by kernel_rfl) (Below.refl _ _) (Nat.le_refl _) (by simp) ?_
       intro A27 c27 w27 hr hb hn
       have HR27 := Lib.hid hr
       have HB27 := Lib.hid hb
       have HR26b := Lib.hid (HR26.out.below hn)
       clear hr hb hn)
    | (refine wpB_app (w0 := w26) w26.heap.size _ _ rfl rfl rfl rfl HR27.out HR26b.out HB27.out HB27.out.size (namesB (LL)) (yN + 9) (by have e1 : (bodyN (LL)).length = qL + 6 + 43 := (by have := HqL.out; simp only [bodyN, body8, extN, List.length_append, List.length_cons, List.length_nil, List.length_replicate]; omega); unfold namesB; rw [e1, HF5.out, HF6.out]) (by have := HqL.out; have := HE.out; have := HY.out; simp only [namesB, bodyN, body8, extN, List.length_append, List.length_cons, List.length_nil, List.length_replicate]; omega) (by omega) ?_
       intro A28 c28 w28 hr hb _ _
       have HR28 := Lib.hid (RwB.rdV hr)
       have HB28 := Lib.hid (HB26.out.trans (hb.mono HB26.out.size))
       clear hr hb))
  refine (sni_rd HR28.out ⟨#[]⟩ 70 (LW.below HL.out HB28.out) (noB_ok (by rw [← HLL.out, ← HBk.out, ← HN8.out]; exact List.all_eq_true.1 no4 h HM.out))).mono ?_
  rintro e w29 ⟨rfl, hb29⟩
  have HB29 := Lib.hid (HB28.out.trans (hb29.mono HB28.out.size))
  clear hb29
  go_wp2_with fail
  refine (works_calls _ (LW.below HL.out HB29.out)).mono ?_
  rintro e w30 ⟨rfl, hb30⟩
  have HB30 := Lib.hid (HB29.out.trans (hb30.mono HB29.out.size))
  clear hb30
  go_wp2_with fail
  go_ret
  exact ⟨rfl, HB30.out⟩
theorem names_calls (which how kind : Int) (w : World) (hL : LW w) : Calls Tryd.prog 3 #[.int .i64 which, .int .i64 how, .int .i64 kind] w fun e w' => e = .returned (.bool true) ∧ Below w.heap.size w w' := by
  obtain ⟨r1, hr1, h1⟩ := bring_ok which 5 (by decide) (by decide)
  obtain ⟨r2, hr2, h2⟩ := bring_ok how 5 (by decide) (by decide)
  obtain ⟨r3, hr3, h3⟩ := bring_ok kind 255 (by decide) (by decide)
  rcases (by omega : r2 = 0 ∨ r2 = 1 ∨ r2 = 2 ∨ r2 = 3 ∨ r2 = 4) with rfl | rfl | rfl | rfl | rfl
  · exact names_0 which how kind w hL r1 hr1 h1 hr2
  · exact names_1 which how kind w hL r1 hr1 h1 hr2
  · exact names_2 which how kind w hL r3 hr3 h3 r1 hr1 h1 hr2
  · exact names_3 which how kind w hL r1 hr1 h1 hr2
  · exact names_4 which how kind w hL r1 hr1 h1 hr2
end Go.Proofs.YtjcocepmmjmckaaDoor.PHello
