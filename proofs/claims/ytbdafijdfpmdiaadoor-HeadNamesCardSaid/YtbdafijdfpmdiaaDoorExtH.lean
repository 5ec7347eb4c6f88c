/- head.Check: may heads be? -/
import Derived.Test.YtbdafijdfpmdiaaDoorExtD
import Derived.Test.YtbdafijdfpmdiaaDoorPHeadx4
import Derived.Lib.Hide
import Derived.Outline
set_option linter.unusedVariables false
namespace Go.Proofs.YtbdafijdfpmdiaaDoor.PHead
open Go.RowKit Go.Proofs.YtbdafijdfpmdiaaDoorW.PrintWords Go.Proofs.YtbdafijdfpmdiaaDoorW.PrintLast Go.Proofs.YtbdafijdfpmdiaaDoorW.PrintMore

theorem may_f (x : S28) : head_may.f x.f0 x.f1 = some (mayH x) := by
  unfold head_may.f head_folded.f head_value.f mayH
  by_cases h : isNam x.f0 = true
  · simp [h]
  · simp [h]

set_option maxHeartbeats 1000000 in
set_option maxRecDepth 100000 in
theorem notMay43 (x : S28) (w : World) :
    Calls Tryd.prog 43 #[.agg #[.string x.f0, .string x.f1]] w fun e w' => e = .returned (.bool (!mayH x)) ∧ Below w.heap.size w w' := by
  have hm := fun w => head_may.calls x.f0 x.f1 (mayH x) w (may_f x)
  have HM := Lib.hid hm
  have hu28 := Tryd.underlying28
  clear hm
  obtain ⟨b, hb⟩ : ∃ b, mayH x = b := ⟨_, rfl⟩
  rw [hb] at HM ⊢
  clear hb
  go_enter Tryd.func43, Tryd.ntmps43
  go_wp2_with (go_at_call 44; refine (HM.out _).mono ?_; rintro e w1 ⟨rfl, hb⟩)
  go_ret
  exact ⟨rfl, (below_alloc (Below.refl _ w) _).trans (hb.mono (by simp))⟩

/-- Where the first head lies that may not be; -1. -/
def badAt : List S28 → Nat → Int
  | [], _ => -1
  | x :: l, i => if mayH x then badAt l (i + 1) else (i : Int)
theorem badAt_sign (l : List S28) (i : Nat) : (0 ≤ badAt l i ↔ l.all mayH = false) := by
  induction l generalizing i with
  | nil => simp [badAt]
  | cons x l ih =>
    unfold badAt
    by_cases h : mayH x = true
    · rw [if_pos h, List.all_cons, h, Bool.true_and]
      exact ih (i + 1)
    · rw [if_neg h, List.all_cons, show mayH x = false from by simpa using h]
      simp

set_option maxHeartbeats 2000000 in
set_option maxRecDepth 100000 in
theorem indexFunc57 (A0 : Option Addr) (c0 : Nat) (l0 : List S28) (w : World) (hr0 : Kd.C k28 w A0 l0.length l0) :
    Calls Tryd.prog 57 #[.slice A0 l0.length c0, .func (.func 43) #[] #[]] w fun e w' => e = .returned (.int .i64 (badAt l0 0)) ∧ Below w.heap.size w w' := by
  have HR := Lib.hid hr0
  have hm := fun (x : S28) w => notMay43 x w
  have HM := Lib.hid hm
  have hln := hr0.2.1
  have HLn := Lib.hid hln
  clear hr0 hm hln
  have hu28 := Tryd.underlying28
  go_enter Tryd.func57, Tryd.ntmps57
  go_wp2
  go_loopw [8] (fun v8 wr => ∃ (j : Nat), v8 = .int .i64 j ∧ j ≤ l0.length ∧ badAt l0 0 = badAt (l0.drop j) j ∧ Below w.heap.size w wr) (fun i _ => l0.length - (intOf i).toNat)
  case atStart => exact ⟨0, rfl, Nat.zero_le _, rfl, Below.refl _ _⟩
  case round =>
    obtain ⟨j, rfl, hj, hb, hbel⟩ := hrel
    by_cases hlt : j < l0.length
    · have hread := Kd.C_below HR.out hbel
      obtain ⟨ad, eA, hc0, hc1⟩ := at_T28 hread (j : Int) (by omega) (by omega)
      have hget : rd_T28 l0 (j : Int) = l0[j] := by simp [rd_T28, List.getD, hlt]
      rw [hget] at hc0 hc1
      rw [List.drop_eq_getElem_cons hlt] at hb
      obtain ⟨x, hxe⟩ : ∃ x, l0[j] = x := ⟨_, rfl⟩
      rw [hxe] at hc0 hc1 hb
      rw [Int.toNat_natCast] at hc0 hc1
      have hji : (j : Int) < (l0.length : Int) := by omega
      have hl2 : (l0.length : Int) ≤ 9223372036854775807 := by have := HLn.out; omega
      have HB := Lib.hid hb
      have HBel := Lib.hid hbel
      clear hb hbel hread hget hxe
      subst eA
      by_cases hmx : mayH x = true
      · have HMX := Lib.hid hmx
        clear hmx
        go_wp2_with (go_at_call 43; refine (HM.out x _).mono ?_; rintro e w1 ⟨rfl, hb1⟩; rw [HMX.out])
        go_roundw
        case rel =>
          refine ⟨j + 1, by go_num, by omega, ?_, HBel.out.trans (hb1.mono HBel.out.size)⟩
          rw [HB.out, badAt, if_pos HMX.out]
        case measure => simp [intOf]; omega
      · have hmx' : mayH x = false := by simpa using hmx
        have HMX := Lib.hid hmx'
        have hfin : badAt l0 0 = (j : Int) := by rw [HB.out, badAt, if_neg hmx]
        have HF := Lib.hid hfin
        clear hfin
        clear hmx hmx'
        go_wp2_with (go_at_call 43; refine (HM.out x _).mono ?_; rintro e w1 ⟨rfl, hb1⟩; rw [HMX.out])
        go_ret
        exact ⟨by rw [HF.out]; rfl, HBel.out.trans (hb1.mono HBel.out.size)⟩
    · obtain rfl : j = l0.length := by omega
      rw [List.drop_length] at hb
      go_wp2
      go_ret
      exact ⟨by rw [hb]; rfl, hbel⟩

set_option maxHeartbeats 1000000 in
set_option maxRecDepth 100000 in
theorem containsFunc42 (A0 : Option Addr) (c0 : Nat) (l0 : List S28) (w : World) (hr0 : Kd.C k28 w A0 l0.length l0) :
    Calls Tryd.prog 42 #[.slice A0 l0.length c0, .func (.func 43) #[] #[]] w fun e w' => e = .returned (.bool (!l0.all mayH)) ∧ Below w.heap.size w w' := by
  have h57 := indexFunc57 A0 c0 l0 w hr0
  have hs := badAt_sign l0 0
  obtain ⟨r, hr⟩ : ∃ r, badAt l0 0 = r := ⟨_, rfl⟩
  rw [hr] at h57 hs
  have H := Lib.hid h57
  clear h57 hr hr0
  obtain ⟨b, hb⟩ : ∃ b, l0.all mayH = b := ⟨_, rfl⟩
  rw [hb] at hs ⊢
  clear hb
  cases b with
  | true =>
    have hneg : ¬ 0 ≤ r := fun h => by have := hs.1 h; cases this
    have hd : decide (0 ≤ r) = false := decide_eq_false hneg
    clear hs
    go_enter Tryd.func42, Tryd.ntmps42
    go_wp2_with (go_at_call 57; refine (H.out).mono ?_; rintro e w1 ⟨rfl, hb1⟩)
    go_ret
    exact ⟨rfl, hb1⟩
  | false =>
    have hpos : 0 ≤ r := hs.2 rfl
    clear hs
    go_enter Tryd.func42, Tryd.ntmps42
    go_wp2_with (go_at_call 57; refine (H.out).mono ?_; rintro e w1 ⟨rfl, hb1⟩)
    go_ret
    exact ⟨rfl, hb1⟩

set_option maxHeartbeats 1000000 in
set_option maxRecDepth 100000 in
theorem head_Check.calls (A0 : Option Addr) (c0 : Nat) (l0 : List S28) (r : Int) (w : World) (hr0 : Kd.C k28 w A0 l0.length l0) (hc0 : l0.length ≤ c0) (h : head_Check.f l0 = some r) :
    Calls Tryd.prog 14 #[.slice A0 l0.length c0] w fun e w' => e = .returned (.int .i64 r) ∧ Below w.heap.size w w' := by
  obtain rfl := Option.some.inj h
  clear h hc0
  by_cases hl : l0.length > 16
  · rw [if_pos hl]
    have hli : 16 < (l0.length : Int) := by omega
    clear hr0
    go_enter Tryd.func14, Tryd.ntmps14
    go_wp2
    go_ret
    exact ⟨rfl, Below.refl _ _⟩
  · rw [if_neg hl]
    have hli : ¬ 16 < (l0.length : Int) := by omega
    have hc := containsFunc42 A0 c0 l0 w hr0
    clear hr0
    obtain ⟨b, hb⟩ : ∃ b, l0.all mayH = b := ⟨_, rfl⟩
    rw [hb] at hc ⊢
    have H := Lib.hid hc
    clear hb hc hl
    cases b with
    | true =>
      go_enter Tryd.func14, Tryd.ntmps14
      go_wp2_with (go_at_call 42; refine (H.out).mono ?_; rintro e w1 ⟨rfl, hb1⟩)
      go_ret
      exact ⟨rfl, hb1⟩
    | false =>
      go_enter Tryd.func14, Tryd.ntmps14
      go_wp2_with (go_at_call 42; refine (H.out).mono ?_; rintro e w1 ⟨rfl, hb1⟩)
      go_ret
      exact ⟨rfl, hb1⟩
end Go.Proofs.YtbdafijdfpmdiaaDoor.PHead
