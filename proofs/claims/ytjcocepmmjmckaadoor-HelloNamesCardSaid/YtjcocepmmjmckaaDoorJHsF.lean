/- host.Norm: an authority's host and port. -/
import Derived.Test.YtjcocepmmjmckaaDoorJHsA
import Derived.Test.YtjcocepmmjmckaaDoorJHsE
set_option linter.unusedVariables false
namespace Go.Proofs.YtjcocepmmjmckaaDoor.PHello
open Go.RowKit Go.Proofs.YtjcocepmmjmckaaDoorW.PrintWords Go.Proofs.YtjcocepmmjmckaaDoorW.PrintLast Go.Proofs.YtjcocepmmjmckaaDoorW.PrintMore

theorem cutB_len1 (l : List UInt8) (c : UInt8) : (cutB l c).1.length ≤ l.length := by
  induction l with
  | nil => simp [cutB]
  | cons x l ih =>
    unfold cutB
    by_cases h : x = c
    · simp [h]
    · simp [h]; omega
theorem cutB_len2 (l : List UInt8) (c : UInt8) : (cutB l c).2.1.length ≤ l.length := by
  induction l with
  | nil => simp [cutB]
  | cons x l ih =>
    unfold cutB
    by_cases h : x = c
    · simp [h]
    · simp [h]; omega
/-- What Norm answers, given what Cut does and whether the port is told. -/
def normOf (n : ByteArray) (p : Int) : Ending := .returned (.tuple (if p ≠ 0 ∧ plainB (lowS n) = true then #[.string (lowS n), .int .i64 p, .int .i64 0] else #[.string ⟨#[]⟩, .int .i64 0, .int .i64 60]))
theorem normOf_bad (n : ByteArray) : .returned (.tuple #[.string ⟨#[]⟩, .int .i64 0, .int .i64 60]) = normOf n 0 := by unfold normOf; rw [if_neg (fun h => h.1 rfl)]
theorem normOf_no (n : ByteArray) (p : Int) (h : plainB (lowS n) = false) : .returned (.tuple #[.string ⟨#[]⟩, .int .i64 0, .int .i64 60]) = normOf n p := by unfold normOf; rw [if_neg (fun e => by rw [h] at e; exact absurd e.2 (by decide))]
theorem normOf_neg (n : ByteArray) (p : Int) (h : ¬ (p ≠ 0 ∧ plainB (lowS n) = true)) : .returned (.tuple #[.string ⟨#[]⟩, .int .i64 0, .int .i64 60]) = normOf n p := by unfold normOf; rw [if_neg h]
theorem normOf_yes (n : ByteArray) (p : Int) (hp : p ≠ 0) (h : plainB (lowS n) = true) : .returned (.tuple #[.string (lowS n), .int .i64 p, .int .i64 0]) = normOf n p := by unfold normOf; rw [if_pos ⟨hp, h⟩]

set_option maxHeartbeats 4000000 in
set_option maxRecDepth 100000 in
theorem norm_in (a0 n d : ByteArray) (has : Bool) (w : World) (hL : LW w) (hn : n.size ≤ 140737488351232) (hd : d.size ≤ 140737488351232)
    (hcut : strings_Cut.f a0 ⟨#[58]⟩ = some (n, d, has)) :
    Calls Tryd.prog 55 #[.string a0] w fun e w' => e = normOf n (if has = true then portB d.data.toList else 80) ∧ Below w.heap.size w w' := by
  have hC := fun w => strings_Cut.calls a0 ⟨#[58]⟩ n d has w hcut
  have hQ := fun w => quiet29 n w hn
  have hls : (lowS n).size ≤ 140737488351232 := by
    have e : (lowS n).size = n.size := by
      show (lowS n).data.size = _
      rw [← Array.length_toList]; simp [lowS]
    omega
  have hP := fun w => plain_in (lowS n) w hls
  have HC := Lib.hid hC
  have HQ := Lib.hid hQ
  have HP := Lib.hid hP
  clear hC hQ hP hcut
  have HL := Lib.hid hL
  clear hL
  obtain ⟨pl, hpl⟩ : ∃ b, plainB (lowS n) = b := ⟨_, rfl⟩
  obtain ⟨ln, hln⟩ : ∃ s, lowS n = s := ⟨_, rfl⟩
  have HPL := Lib.hid hpl
  have HLN := Lib.hid hln
  rw [hpl] at HP
  rw [hln] at HQ HP
  clear hpl hls
  cases has with
  | false =>
    simp only [Bool.false_eq_true, if_false]
    cases pl with
    | false =>
      have HPf : ∀ w, Calls Tryd.prog 69 #[.string ln] w fun e w' => e = .returned (.int .i64 60) ∧ Below w.heap.size w w' := HP.out
      have HPF := Lib.hid HPf
      clear HPf HP hln
      go_enter Tryd.func55, Tryd.ntmps55
      go_wp2_with (first | (go_at_call 65; refine (HC.out _).mono ?_; rintro e w1 ⟨rfl, hb1⟩) | (go_at_call 68; refine (HQ.out _).mono ?_; rintro e w2 ⟨rfl, hb2⟩) | (go_at_call 69; refine (HPF.out _).mono ?_; rintro e w3 ⟨rfl, hb3⟩))
      go_ret3
      exact ⟨normOf_no n 80 HPL.out, (hb1.trans (hb2.mono hb1.size)).trans (hb3.mono (Nat.le_trans hb1.size hb2.size))⟩
    | true =>
      have HPf : ∀ w, Calls Tryd.prog 69 #[.string ln] w fun e w' => e = .returned (.int .i64 0) ∧ Below w.heap.size w w' := HP.out
      have HPF := Lib.hid HPf
      clear HPf HP hln
      go_enter Tryd.func55, Tryd.ntmps55
      go_wp2_with (first | (go_at_call 65; refine (HC.out _).mono ?_; rintro e w1 ⟨rfl, hb1⟩) | (go_at_call 68; refine (HQ.out _).mono ?_; rintro e w2 ⟨rfl, hb2⟩) | (go_at_call 69; refine (HPF.out _).mono ?_; rintro e w3 ⟨rfl, hb3⟩))
      go_ret3
      exact ⟨by rw [← HLN.out]; exact normOf_yes n 80 (by decide) HPL.out, (hb1.trans (hb2.mono hb1.size)).trans (hb3.mono (Nat.le_trans hb1.size hb2.size))⟩
  | true =>
    simp only [if_true]
    have hd2 : d.size ≤ 281474976710656 := by omega
    rcases hat : Lib.atoiAll d.data.toList with v | _ | _
    · skip
      have hvb := Lib.atoiAll_bounds hat
      have hA : ∀ w, Calls Tryd.prog 66 #[.string d] w fun e w' => e = .returned (.tuple #[.int .i64 v, .nilIface]) ∧ Below w.heap.size w w' := fun w => (Tryd.strconv_Atoi_ok d (by omega) v hat w).mono fun e w' ⟨h1, h2⟩ => ⟨h1, by
        rcases h2 with rfl | ⟨t, rfl⟩
        · exact Below.refl _ _
        · exact conv_below _ _⟩
      have HAt := Lib.hid hA
      have hI : ∀ w, LW w → Calls Tryd.prog 67 #[.int .i64 v] w fun e w' => e = .returned (.string ⟨(Lib.itoa v).toArray⟩) ∧ Below w.heap.size w w' := fun w hw => strconv_Itoa.calls v _ w (by unfold strconv_Itoa.f; rw [if_pos ⟨by omega, by omega⟩]) hw
      have HIt := Lib.hid hI
      have hport : portB d.data.toList = if 1 ≤ v ∧ v ≤ 65535 ∧ Lib.itoa v = d.data.toList then v else 0 := by unfold portB; rw [hat]
      rw [hport]
      clear hA hI hport hat
      have HVB := Lib.hid hvb
      clear hvb
      by_cases v1 : v < 1
      · have b1 : decide (v < 1) = true := decide_eq_true v1
        rw [if_neg (by omega)]
        clear hln
        go_enter Tryd.func55, Tryd.ntmps55
        go_wp2_with (first | (go_at_call 65; refine (HC.out _).mono ?_; rintro e w1 ⟨rfl, hb1⟩) | (go_at_call 66; refine (HAt.out _).mono ?_; rintro e w4 ⟨rfl, hb4⟩))
        go_ret3
        exact ⟨normOf_bad n, hb1.trans (hb4.mono hb1.size)⟩
      · have b1 : decide (v < 1) = false := decide_eq_false v1
        by_cases v2 : 65535 < v
        · have b2 : decide (65535 < v) = true := decide_eq_true v2
          rw [if_neg (by omega)]
          clear hln
          go_enter Tryd.func55, Tryd.ntmps55
          go_wp2_with (first | (go_at_call 65; refine (HC.out _).mono ?_; rintro e w1 ⟨rfl, hb1⟩) | (go_at_call 66; refine (HAt.out _).mono ?_; rintro e w4 ⟨rfl, hb4⟩))
          go_ret3
          exact ⟨normOf_bad n, hb1.trans (hb4.mono hb1.size)⟩
        · have b2 : decide (65535 < v) = false := decide_eq_false v2
          obtain ⟨it, hit⟩ : ∃ it, Lib.itoa v = it := ⟨_, rfl⟩
          rw [hit] at HIt ⊢
          clear hit
          by_cases v3 : it = d.data.toList
          · have b3 : (it == d.toList) = true := by rw [beq_iff_eq, Lib.toList_data]; exact v3
            rw [if_pos ⟨by omega, by omega, v3⟩]
            have HV1 := Lib.hid v1
            have HV3 := Lib.hid v3
            clear v3
            cases pl with
            | false =>
              have HPf : ∀ w, Calls Tryd.prog 69 #[.string ln] w fun e w' => e = .returned (.int .i64 60) ∧ Below w.heap.size w w' := HP.out
              have HPF := Lib.hid HPf
              clear HPf HP hln
              go_enter Tryd.func55, Tryd.ntmps55
              go_wp2_with (first | (go_at_call 65; refine (HC.out _).mono ?_; rintro e w1 ⟨rfl, hb1⟩) | (go_at_call 66; refine (HAt.out _).mono ?_; rintro e w4 ⟨rfl, hb4⟩) | (go_at_call 67; refine (HIt.out _ (HL.out.below (hb1.trans (hb4.mono hb1.size)))).mono ?_; rintro e w5 ⟨rfl, hb5⟩) | (go_at_call 68; refine (HQ.out _).mono ?_; rintro e w2 ⟨rfl, hb2⟩) | (go_at_call 69; refine (HPF.out _).mono ?_; rintro e w3 ⟨rfl, hb3⟩))
              go_ret3
              exact ⟨normOf_no n v HPL.out, ((hb1.trans ((hb4.mono hb1.size).trans (hb5.mono (Nat.le_trans hb1.size hb4.size)))).trans (hb2.mono (hb1.trans ((hb4.mono hb1.size).trans (hb5.mono (Nat.le_trans hb1.size hb4.size)))).size)).trans (hb3.mono (Nat.le_trans (hb1.trans ((hb4.mono hb1.size).trans (hb5.mono (Nat.le_trans hb1.size hb4.size)))).size hb2.size))⟩
            | true =>
              have HPf : ∀ w, Calls Tryd.prog 69 #[.string ln] w fun e w' => e = .returned (.int .i64 0) ∧ Below w.heap.size w w' := HP.out
              have HPF := Lib.hid HPf
              clear HPf HP hln
              go_enter Tryd.func55, Tryd.ntmps55
              go_wp2_with (first | (go_at_call 65; refine (HC.out _).mono ?_; rintro e w1 ⟨rfl, hb1⟩) | (go_at_call 66; refine (HAt.out _).mono ?_; rintro e w4 ⟨rfl, hb4⟩) | (go_at_call 67; refine (HIt.out _ (HL.out.below (hb1.trans (hb4.mono hb1.size)))).mono ?_; rintro e w5 ⟨rfl, hb5⟩) | (go_at_call 68; refine (HQ.out _).mono ?_; rintro e w2 ⟨rfl, hb2⟩) | (go_at_call 69; refine (HPF.out _).mono ?_; rintro e w3 ⟨rfl, hb3⟩))
              go_ret3
              exact ⟨by rw [← HLN.out]; exact normOf_yes n v (by have := HV1.out; omega) HPL.out, ((hb1.trans ((hb4.mono hb1.size).trans (hb5.mono (Nat.le_trans hb1.size hb4.size)))).trans (hb2.mono (hb1.trans ((hb4.mono hb1.size).trans (hb5.mono (Nat.le_trans hb1.size hb4.size)))).size)).trans (hb3.mono (Nat.le_trans (hb1.trans ((hb4.mono hb1.size).trans (hb5.mono (Nat.le_trans hb1.size hb4.size)))).size hb2.size))⟩
          · have b3 : (it == d.toList) = false := by rw [beq_eq_false_iff_ne, Lib.toList_data]; exact v3
            rw [if_neg (fun h => v3 h.2.2)]
            clear hln
            go_enter Tryd.func55, Tryd.ntmps55
            go_wp2_with (first | (go_at_call 65; refine (HC.out _).mono ?_; rintro e w1 ⟨rfl, hb1⟩) | (go_at_call 66; refine (HAt.out _).mono ?_; rintro e w4 ⟨rfl, hb4⟩) | (go_at_call 67; refine (HIt.out _ (HL.out.below (hb1.trans (hb4.mono hb1.size)))).mono ?_; rintro e w5 ⟨rfl, hb5⟩))
            go_ret3
            exact ⟨normOf_bad n, hb1.trans ((hb4.mono hb1.size).trans (hb5.mono (Nat.le_trans hb1.size hb4.size)))⟩
    · skip
      have hA : ∀ w, LW w → Calls Tryd.prog 66 #[.string d] w fun e w' => ∃ N, e = .returned (.tuple #[.int .i64 0, .iface 122 (.pointer (some ⟨N, 0, none⟩))]) ∧ Below w.heap.size w w' := fun w hw => by
        obtain ⟨tp, p, hv⟩ := hw.2.1
        exact (Tryd.strconv_Atoi_syntax_var d hd2 hat tp p w hv).mono fun e w' ⟨N, h1, _, _, h2⟩ => ⟨N, h1, h2⟩
      have HAt := Lib.hid hA
      have hport : portB d.data.toList = 0 := by unfold portB; rw [hat]
      rw [hport]
      clear hA hport hat
      clear hln
      go_enter Tryd.func55, Tryd.ntmps55
      go_wp2_with (first | (go_at_call 65; refine (HC.out _).mono ?_; rintro e w1 ⟨rfl, hb1⟩) | (go_at_call 66; refine (HAt.out _ (HL.out.below hb1)).mono ?_; rintro e w4 ⟨N, rfl, hb4⟩))
      go_ret3
      exact ⟨normOf_bad n, hb1.trans (hb4.mono hb1.size)⟩
    · skip
      have hA : ∀ w, LW w → Calls Tryd.prog 66 #[.string d] w fun e w' => ∃ N, e = .returned (.tuple #[.int .i64 (Lib.atoiSat d.data.toList), .iface 122 (.pointer (some ⟨N, 0, none⟩))]) ∧ Below w.heap.size w w' := fun w hw => by
        obtain ⟨tp, p, hv⟩ := hw.2.2
        exact (Tryd.strconv_Atoi_range_var d hd2 hat tp p w hv).mono fun e w' ⟨N, h1, _, _, h2⟩ => ⟨N, h1, h2⟩
      obtain ⟨sat, hsat⟩ : ∃ q, Lib.atoiSat d.data.toList = q := ⟨_, rfl⟩
      rw [hsat] at hA
      clear hsat
      have HAt := Lib.hid hA
      have hport : portB d.data.toList = 0 := by unfold portB; rw [hat]
      rw [hport]
      clear hA hport hat
      clear hln
      go_enter Tryd.func55, Tryd.ntmps55
      go_wp2_with (first | (go_at_call 65; refine (HC.out _).mono ?_; rintro e w1 ⟨rfl, hb1⟩) | (go_at_call 66; refine (HAt.out _ (HL.out.below hb1)).mono ?_; rintro e w4 ⟨N, rfl, hb4⟩))
      go_ret3
      exact ⟨normOf_bad n, hb1.trans (hb4.mono hb1.size)⟩
theorem host_Norm.calls (a0 : ByteArray) (r1 : ByteArray) (r2 r3 : Int) (w : World) (h : host_Norm.f a0 = some (r1, r2, r3)) (hL : LW w := by first | exact hL | exact LW.below hL (by repeat (first | (with_reducible first | exact HB.out | apply below_alloc | apply pw_below_drewN | apply below_drew1) | exact HB.out))) :
    Calls Tryd.prog 55 #[.string a0] w fun e w' => e = .returned (.tuple #[.string r1, .int .i64 r2, .int .i64 r3]) ∧ Below w.heap.size w w' := by
  unfold host_Norm.f at h
  by_cases hz : a0.size ≤ 140737488351232
  · rw [if_pos hz] at h
    have hr := Option.some.inj h
    have h1 : (⟨(cutB a0.data.toList 58).1.toArray⟩ : ByteArray).size ≤ 140737488351232 := by
      have := cutB_len1 a0.data.toList 58
      rw [data_length] at this
      exact Nat.le_trans this hz
    have h2 : (⟨(cutB a0.data.toList 58).2.1.toArray⟩ : ByteArray).size ≤ 140737488351232 := by
      have := cutB_len2 a0.data.toList 58
      rw [data_length] at this
      exact Nat.le_trans this hz
    refine (norm_in a0 _ _ _ w hL h1 h2 (by unfold strings_Cut.f; rw [if_pos ⟨rfl, hz⟩]; rfl)).mono ?_
    rintro e w' ⟨rfl, hb⟩
    refine ⟨?_, hb⟩
    have e1 : normR a0 = (if normPort (cutB a0.data.toList 58) ≠ 0 ∧ plainB (lowS ⟨(cutB a0.data.toList 58).1.toArray⟩) = true then (lowS ⟨(cutB a0.data.toList 58).1.toArray⟩, normPort (cutB a0.data.toList 58), 0) else (⟨#[]⟩, 0, 60)) := rfl
    rw [e1] at hr
    by_cases g : normPort (cutB a0.data.toList 58) ≠ 0 ∧ plainB (lowS ⟨(cutB a0.data.toList 58).1.toArray⟩) = true
    · rw [if_pos g] at hr
      simp only [Prod.mk.injEq] at hr
      obtain ⟨rfl, rfl, rfl⟩ := hr
      exact (normOf_yes _ _ g.1 g.2).symm
    · rw [if_neg g] at hr
      simp only [Prod.mk.injEq] at hr
      obtain ⟨rfl, rfl, rfl⟩ := hr
      exact (normOf_neg _ _ g).symm
  · rw [if_neg hz] at h; cases h
end Go.Proofs.YtjcocepmmjmckaaDoor.PHello
