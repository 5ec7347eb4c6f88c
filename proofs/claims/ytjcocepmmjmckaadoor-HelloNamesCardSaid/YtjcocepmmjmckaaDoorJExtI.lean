/- slices.Index and Contains of bytes; slices.IndexFunc and ContainsFunc of numbers that may not be. -/
import Derived.Test.YtjcocepmmjmckaaDoorJExtG
set_option linter.unusedVariables false
set_option linter.unusedSimpArgs false
namespace Go.Proofs.YtjcocepmmjmckaaDoor.PHello
open Go.RowKit Go.Proofs.YtjcocepmmjmckaaDoorW.PrintWords Go.Proofs.YtjcocepmmjmckaaDoorW.PrintLast Go.Proofs.YtjcocepmmjmckaaDoorW.PrintMore

theorem rd_get (l : List Int) (j : Nat) (h : j < l.length) : rd l (j : Int) = l[j] := by simp [rd, List.getD, h]
set_option maxHeartbeats 4000000 in
set_option maxRecDepth 100000 in
theorem indexB_calls (A : Option Addr) (c : Nat) (l : List Int) (v : Int) (w : World) (hr : Kd.C (Kd.int .u8) w A l.length l) :
    Calls Tryd.prog 64 #[.slice A l.length c, .int .u8 v] w fun e w' => ∃ r : Int, e = .returned (.int .i64 r) ∧ decide (0 ≤ r) = l.contains v ∧ w' = w := by
  have HR := Lib.hid hr
  have hm : l.length ≤ 9223372036854775807 := hr.2.1
  clear hr
  go_enter Tryd.func64, Tryd.ntmps64
  go_wp2
  go_loopw [8, 5] (fun v8 v5 wr => ∃ j : Nat, v8 = .int .i64 j ∧ j ≤ l.length ∧ (l.take j).contains v = false ∧ wr = w) (fun i _ _ => l.length - (intOf i).toNat)
  case atStart => exact ⟨0, rfl, Nat.zero_le _, rfl, rfl⟩
  case round =>
    obtain ⟨j, rfl, hj, hno, rfl⟩ := hrel
    by_cases hlt : j < l.length
    · obtain ⟨ad, eA, hcell⟩ := Kd.at_int HR.out (j : Int) (by omega) (by omega)
      rw [rd_get l j hlt, Int.toNat_natCast] at hcell
      have hji : (j : Int) < (l.length : Int) := by omega
      have htk : l.take (j + 1) = l.take j ++ [l[j]] := List.take_succ_eq_append_getElem hlt
      have hmem : l[j] ∈ l := List.getElem_mem hlt
      obtain ⟨x, hx⟩ : ∃ x, l[j] = x := ⟨_, rfl⟩
      rw [hx] at hcell htk hmem
      have HT := Lib.hid htk
      have HM := Lib.hid hmem
      have HN := Lib.hid hno
      clear hx htk hmem hno
      subst eA
      by_cases hv : v = x
      · have hb : (v == x) = true := beq_iff_eq.mpr hv
        go_wp2
        go_ret
        refine ⟨_, rfl, ?_, rfl⟩
        rw [decide_eq_true (by omega)]
        symm
        rw [List.contains_iff_mem]
        rw [hv]; exact HM.out
      · have hb : (v == x) = false := beq_eq_false_iff_ne.mpr hv
        go_wp2
        refine ⟨⟨j + 1, by go_num, by omega, ?_, trivial⟩, by simp [intOf]; omega⟩
        have h1 := HN.out
        rw [HT.out]
        simp only [List.contains_eq_mem, List.mem_append, List.mem_singleton, decide_eq_false_iff_not] at h1 ⊢
        rintro (h | h)
        · exact h1 h
        · exact hv h
    · obtain rfl : j = l.length := by omega
      rw [List.take_length] at hno
      have HN := Lib.hid hno
      clear hno
      go_wp2
      go_ret
      exact ⟨_, rfl, by rw [HN.out]; rfl, rfl⟩
theorem containsB_calls (A : Option Addr) (c : Nat) (l : List Int) (v : Int) (w : World) (hr : Kd.C (Kd.int .u8) w A l.length l) :
    Calls Tryd.prog 51 #[.slice A l.length c, .int .u8 v] w fun e w' => e = .returned (.bool (l.contains v)) ∧ w' = w := by
  have HI := Lib.hid (indexB_calls A c l v w hr)
  clear hr
  go_enter Tryd.func51, Tryd.ntmps51
  go_wp2_with (go_at_call 64; refine (HI.out).mono ?_; rintro e w1 ⟨r, rfl, hd, rfl⟩; have HD := Lib.hid hd; clear hd)
  go_ret
  exact ⟨by rw [← HD.out]; rfl, rfl⟩
/-- What may not be a suite. -/
def oddI (n : Int) : Bool := decide (n < 0) || decide (n > 65535)
set_option maxHeartbeats 4000000 in
set_option maxRecDepth 100000 in
theorem indexF_calls (A : Option Addr) (c : Nat) (l : List Int) (w : World) (hr : Kd.C (Kd.int .i64) w A l.length l) :
    Calls Tryd.prog 63 #[.slice A l.length c, .func (.func 50) #[] #[]] w fun e w' => ∃ r : Int, e = .returned (.int .i64 r) ∧ decide (0 ≤ r) = l.any oddI ∧ w' = w := by
  have HR := Lib.hid hr
  have hm : l.length ≤ 9223372036854775807 := hr.2.1
  clear hr
  go_enter Tryd.func63, Tryd.ntmps63
  go_wp2
  go_loopw [8, 5] (fun v8 v5 wr => ∃ j : Nat, v8 = .int .i64 j ∧ j ≤ l.length ∧ (l.take j).any oddI = false ∧ wr = w) (fun i _ _ => l.length - (intOf i).toNat)
  case atStart => exact ⟨0, rfl, Nat.zero_le _, rfl, rfl⟩
  case round =>
    obtain ⟨j, rfl, hj, hno, rfl⟩ := hrel
    by_cases hlt : j < l.length
    · obtain ⟨ad, eA, hcell⟩ := Kd.at_int HR.out (j : Int) (by omega) (by omega)
      rw [rd_get l j hlt, Int.toNat_natCast] at hcell
      have hji : (j : Int) < (l.length : Int) := by omega
      have htk : l.take (j + 1) = l.take j ++ [l[j]] := List.take_succ_eq_append_getElem hlt
      have hmem : l[j] ∈ l := List.getElem_mem hlt
      obtain ⟨x, hx⟩ : ∃ x, l[j] = x := ⟨_, rfl⟩
      rw [hx] at hcell htk hmem
      have HT := Lib.hid htk
      have HM := Lib.hid hmem
      have HN := Lib.hid hno
      clear hx htk hmem hno
      subst eA
      have found : oddI x = true → decide (0 ≤ (j : Int)) = l.any oddI := fun ho => by
        rw [decide_eq_true (by omega)]
        symm
        rw [List.any_eq_true]
        exact ⟨x, HM.out, ho⟩
      by_cases h0 : x < 0
      · have hb0 : decide (x < 0) = true := decide_eq_true h0
        have HF := Lib.hid (found (by unfold oddI; rw [hb0]; rfl))
        clear found
        go_wp2
        go_ret
        exact ⟨_, rfl, HF.out, rfl⟩
      · have hb0 : decide (x < 0) = false := decide_eq_false h0
        by_cases h1 : x > 65535
        · have hb1 : decide (65535 < x) = true := decide_eq_true h1
          have HF := Lib.hid (found (by unfold oddI; rw [hb0]; simpa using h1))
          clear found
          go_wp2
          go_ret
          exact ⟨_, rfl, HF.out, rfl⟩
        · have hb1 : decide (65535 < x) = false := decide_eq_false h1
          clear found
          go_wp2
          refine ⟨⟨j + 1, by go_num, by omega, ?_, trivial⟩, by simp [intOf]; omega⟩
          rw [HT.out, List.any_append, HN.out]
          have e1 : decide (x > 65535) = false := decide_eq_false h1
          simp [oddI, hb0, e1]
    · obtain rfl : j = l.length := by omega
      rw [List.take_length] at hno
      have HN := Lib.hid hno
      clear hno
      go_wp2
      go_ret
      exact ⟨_, rfl, by rw [HN.out]; rfl, rfl⟩
theorem containsF_calls (A : Option Addr) (c : Nat) (l : List Int) (w : World) (hr : Kd.C (Kd.int .i64) w A l.length l) :
    Calls Tryd.prog 49 #[.slice A l.length c, .func (.func 50) #[] #[]] w fun e w' => e = .returned (.bool (l.any oddI)) ∧ w' = w := by
  have HI := Lib.hid (indexF_calls A c l w hr)
  clear hr
  go_enter Tryd.func49, Tryd.ntmps49
  go_wp2_with (go_at_call 63; refine (HI.out).mono ?_; rintro e w1 ⟨r, rfl, hd, rfl⟩; have HD := Lib.hid hd; clear hd)
  go_ret
  exact ⟨by rw [← HD.out]; rfl, rfl⟩
end Go.Proofs.YtjcocepmmjmckaaDoor.PHello
