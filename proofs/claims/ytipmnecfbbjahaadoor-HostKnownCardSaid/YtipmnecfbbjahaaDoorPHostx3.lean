-- Printed by a program of this session (wip/tools/xprint.py) out of the translation. Not trusted: Lean checks it.
import Derived.Test.YtipmnecfbbjahaaDoorPHostx0
import Derived.Test.YtipmnecfbbjahaaDoorPHostx1
import Derived.Test.YtipmnecfbbjahaaDoorPHostx2
import Derived.Test.YtipmnecfbbjahaaDoorExt0
import Derived.Test.YtipmnecfbbjahaaDoorExtD
namespace Go.Proofs.YtipmnecfbbjahaaDoor.PHost
open Go.RowKit Go.Proofs.YtipmnecfbbjahaaDoorW.PrintWords Go.Proofs.YtipmnecfbbjahaaDoorW.PrintLast Go.Proofs.YtipmnecfbbjahaaDoorW.PrintMore
attribute [local go_sem] max2_int min2_int max_two min_two max_three min_three max_four min_four   -- for this text's walks alone
set_option linter.unusedVariables false
set_option linter.unusedSimpArgs false

/-! ### chinoiserieref06_Pattern: function 16 -/
def chinoiserieref06_Pattern.j0 : Nat → ByteArray → Bool → Option (Int)
  | 0, _, _ => none
  | k + 1, x0, x13 => if x13 = true then (if 2 ≤ (x0.size : Int) then ((chinoiserieref06_Plain.f k (x0.extract 2 x0.size)).bind fun t110 => (some t110)) else (none)) else ((chinoiserieref06_Plain.f k x0).bind fun t111 => (some t111))
def chinoiserieref06_Pattern.f (k : Nat) (a0 : ByteArray) : Option (Int) := if (a0.size : Int) > 60 then (some 60) else (if (a0.size : Int) > 2 then (if 0 ≤ 2 then (if 2 ≤ (a0.size : Int) then (chinoiserieref06_Pattern.j0 k a0 ((a0.extract 0 2).toList == ([42, 46] : List UInt8))) else (none)) else (none)) else (chinoiserieref06_Pattern.j0 k a0 false))
theorem chinoiserieref06_Pattern.mono_l : ∀ k, (∀ y0 y1, LeO (chinoiserieref06_Pattern.j0 k y0 y1) (chinoiserieref06_Pattern.j0 (k + 1) y0 y1))
  | 0 => fun _ _ r h => by simp [chinoiserieref06_Pattern.j0] at h
  | k + 1 => by
    have ih0 := chinoiserieref06_Pattern.mono_l k
    · intro y0 y1
      unfold chinoiserieref06_Pattern.j0
      repeat' first
      | (with_reducible exact ih0 _ _)
      | (with_reducible exact chinoiserieref06_Plain.mono _ _)
      | (with_reducible exact LeO.refl _)
      | (with_reducible exact LeO.none _)
      | (with_reducible refine LeO.ite ?_ ?_)
      | (with_reducible refine LeO.bind ?_ (fun _ => ?_))
      | exact ih0 _ _
      | exact chinoiserieref06_Plain.mono _ _
      | exact LeO.none _
      | refine LeO.ite ?_ ?_
      | refine LeO.bind ?_ (fun _ => ?_)
theorem chinoiserieref06_Pattern.mono : ∀ a0 k, LeO (chinoiserieref06_Pattern.f k a0) (chinoiserieref06_Pattern.f (k + 1) a0) := by
  intro a0 k
  have ih0 := chinoiserieref06_Pattern.mono_l k
  unfold chinoiserieref06_Pattern.f
  repeat' first
      | (with_reducible exact ih0 _ _)
      | (with_reducible exact chinoiserieref06_Plain.mono _ _)
      | (with_reducible exact LeO.refl _)
      | (with_reducible exact LeO.none _)
      | (with_reducible refine LeO.ite ?_ ?_)
      | (with_reducible refine LeO.bind ?_ (fun _ => ?_))
      | exact ih0 _ _
      | exact chinoiserieref06_Plain.mono _ _
      | exact LeO.none _
      | refine LeO.ite ?_ ?_
      | refine LeO.bind ?_ (fun _ => ?_)
set_option maxHeartbeats 8000000 in
set_option maxRecDepth 100000 in
theorem chinoiserieref06_Pattern.calls (k : Nat) (a0 : ByteArray) (r : Int) (w : World) (h : chinoiserieref06_Pattern.f k a0 = some r) :
    Calls Tryd.prog 16 #[.string a0] w fun e w' => e = .returned (.int .i64 r) ∧ Drawn0 w w' := by
  have H : (if (a0.size : Int) > 60 then (some 60) else (if (a0.size : Int) > 2 then (if 0 ≤ 2 then (if 2 ≤ (a0.size : Int) then (chinoiserieref06_Pattern.j0 k a0 ((a0.extract 0 2).toList == ([42, 46] : List UInt8))) else (none)) else (none)) else (chinoiserieref06_Pattern.j0 k a0 false))) = some r := h
  clear h
  by_cases c2 : (a0.size : Int) > 60
  · rw [if_pos c2] at H
    have c2b0 : decide (60 < (a0.size : Int)) = true := decide_eq_true c2
    have c2b1 : decide (60 < a0.size) = true := decide_eq_true (by omega)
    clear c2
    obtain rfl := Option.some.inj H
    go_enter Tryd.func16, Tryd.ntmps16
    go_wp2
    go_ret
    exact ⟨by first | rfl | (simp; done) | (simp [*]; done), by repeat (first | exact Drawn0.refl _ | apply Drawn0.step)⟩
  · rw [if_neg c2] at H
    have c2b0 : decide (60 < (a0.size : Int)) = false := decide_eq_false c2
    have c2b1 : decide (60 < a0.size) = false := decide_eq_false (by omega)
    clear c2
    have HC3 := Aside0.mk H
    clear H
    go_enter Tryd.func16, Tryd.ntmps16
    go_upto_region 3 with (fail)
    go_cut [13] (fun v13 wc => ∃ (kq : Nat) (x13_2 : Bool), v13 = .bool x13_2 ∧ Aside0 (chinoiserieref06_Pattern.j0 kq a0 x13_2 = some r) ∧ Aside0 (kq ≤ k) ∧ Drawn0 w wc)
    case first =>
      have H := HC3.out
      clear HC3
      by_cases c4 : (a0.size : Int) > 2
      · rw [if_pos c4] at H
        have c4b0 : decide (2 < (a0.size : Int)) = true := decide_eq_true c4
        have c4b1 : decide (2 < a0.size) = true := decide_eq_true (by omega)
        clear c4
        (first | rw [c4b0] | (simp only [i64_w, i32_w]; rw [c4b0]) | skip)
        by_cases c5 : 0 ≤ 2
        · rw [if_pos c5] at H
          have c5b0 := eq_true c5
          have c5b1 : decide (0 ≤ 2) = true := decide_eq_true c5
          clear c5
          by_cases c6 : 2 ≤ (a0.size : Int)
          · rw [if_pos c6] at H
            have c6b0 := eq_true c6
            have c6b1 : decide (2 ≤ (a0.size : Int)) = true := decide_eq_true c6
            clear c6
            have H' := Aside0.mk H
            clear H
            go_wp2
            go_meet
            case rel => exact ⟨_, (((a0.extract 0 2).toList == ([42, 46] : List UInt8))), (by first | rfl | (simp; done) | (simp [*]; done)), H', ⟨by first | omega | exact Nat.le_refl _⟩, by repeat (first | exact Drawn0.refl _ | apply Drawn0.step)⟩
          · rw [if_neg c6] at H
            exact absurd H (by simp)
        · rw [if_neg c5] at H
          exact absurd H (by simp)
      · rw [if_neg c4] at H
        have c4b0 : decide (2 < (a0.size : Int)) = false := decide_eq_false c4
        have c4b1 : decide (2 < a0.size) = false := decide_eq_false (by omega)
        clear c4
        (first | rw [c4b0] | (simp only [i64_w, i32_w]; rw [c4b0]) | skip)
        have H' := Aside0.mk H
        clear H
        go_wp2
        go_meet
        case rel => exact ⟨_, (false), (by first | rfl | (simp; done) | (simp [*]; done)), H', ⟨by first | omega | exact Nat.le_refl _⟩, by repeat (first | exact Drawn0.refl _ | apply Drawn0.step)⟩
    case rest =>
      clear HC3
      try clear c1
      try clear c2
      try clear c2b0
      try clear c2b1
      try clear p2
      try clear c4
      try clear c4b0
      try clear c4b1
      try clear c5
      try clear c5b0
      try clear c5b1
      try clear c6
      try clear c6b0
      try clear c6b1
      obtain ⟨kq, x13_2, rfl, HA, HJ2, ⟨mc2, rfl⟩⟩ := hcut
      cases kq with
      | zero => exact absurd HA.out (by simp [chinoiserieref06_Pattern.j0])
      | succ kj2 =>
        have H := HA.out
        clear HA
        simp only [chinoiserieref06_Pattern.j0] at H
        by_cases c7 : x13_2 = true
        · subst c7
          have H1 : (if 2 ≤ (a0.size : Int) then ((chinoiserieref06_Plain.f kj2 (a0.extract 2 a0.size)).bind fun t110 => (some t110)) else (none)) = some r := by rw [if_pos rfl] at H; exact H
          clear H
          have H := H1
          clear H1
          by_cases c8 : 2 ≤ (a0.size : Int)
          · rw [if_pos c8] at H
            have c8b0 := eq_true c8
            have c8b1 : decide (2 ≤ (a0.size : Int)) = true := decide_eq_true c8
            clear c8
            replace H := Option.bind_eq_some_iff.mp H
            obtain ⟨t110, A90, H⟩ := H
            replace H : (some t110) = some r := H
            have A9 := Aside0.mk A90
            clear A90
            obtain rfl := Option.some.inj H
            go_wp2_with (first | ((with_reducible refine gate_callee (f := 14) rfl ?_); refine goesL_ (some 16) rfl rfl Tryd.func14 (by kernel_rfl) rfl #[.string (a0.extract 2 a0.size)] rfl (by (try simp only [List.map_toArray, List.map_cons, List.map_nil]); first | done | rfl | (simp only [List.length_drop, List.length_take]; rfl)) ?_; (with_reducible refine (chinoiserieref06_Plain.calls kj2 (a0.extract 2 a0.size) t110 _ A9.out).mono ?_); rintro e w' ⟨rfl, ⟨nd, rfl⟩⟩; refine ⟨_, rfl, ?_⟩))
            go_ret
            exact ⟨by first | rfl | (simp; done) | (simp [*]; done), by repeat (first | exact Drawn0.refl _ | apply Drawn0.step)⟩
          · rw [if_neg c8] at H
            exact absurd H (by simp)
        · replace c7 := Bool.eq_false_iff.mpr c7
          subst c7
          have H1 : ((chinoiserieref06_Plain.f kj2 a0).bind fun t111 => (some t111)) = some r := by rw [if_neg (show ¬ (false = true) by decide)] at H; exact H
          clear H
          have H := H1
          clear H1
          replace H := Option.bind_eq_some_iff.mp H
          obtain ⟨t111, A100, H⟩ := H
          replace H : (some t111) = some r := H
          have A10 := Aside0.mk A100
          clear A100
          obtain rfl := Option.some.inj H
          go_wp2_with (first | ((with_reducible refine gate_callee (f := 14) rfl ?_); refine goesL_ (some 18) rfl rfl Tryd.func14 (by kernel_rfl) rfl #[.string a0] rfl (by (try simp only [List.map_toArray, List.map_cons, List.map_nil]); first | done | rfl | (simp only [List.length_drop, List.length_take]; rfl)) ?_; (with_reducible refine (chinoiserieref06_Plain.calls kj2 a0 t111 _ A10.out).mono ?_); rintro e w' ⟨rfl, ⟨nd, rfl⟩⟩; refine ⟨_, rfl, ?_⟩))
          go_ret
          exact ⟨by first | rfl | (simp; done) | (simp [*]; done), by repeat (first | exact Drawn0.refl _ | apply Drawn0.step)⟩

/-! ### host_Write: function 18 -/
def host_Write.j0 : Nat → ByteArray → Int → Bool → Option (ByteArray × Int)
  | 0, _, _, _ => none
  | k + 1, x0, x1, x6 => if x6 = true then (some ((⟨#[]⟩ : ByteArray), 60)) else (if x1 = 80 then (some (x0, 0)) else (if x0.size + 1 ≤ 9223372036854775807 then ((strconv_Itoa.f x1).bind fun t113 => (if (x0 ++ (⟨#[58]⟩ : ByteArray)).size + t113.size ≤ 9223372036854775807 then (some ((x0 ++ (⟨#[58]⟩ : ByteArray)) ++ t113, 0)) else (none))) else (none)))
def host_Write.f (k : Nat) (a0 : ByteArray) (a1 : Int) : Option (ByteArray × Int) := (host_Plain.f a0).bind fun t112 => (if t112 = 0 then (if a1 < 1 then (host_Write.j0 k a0 a1 (decide (a1 < 1))) else (host_Write.j0 k a0 a1 (decide (a1 > 65535)))) else (host_Write.j0 k a0 a1 (t112 != 0)))
theorem host_Write.mono_l : ∀ k, (∀ y0 y1 y2, LeO (host_Write.j0 k y0 y1 y2) (host_Write.j0 (k + 1) y0 y1 y2))
  | 0 => fun _ _ _ r h => by simp [host_Write.j0] at h
  | k + 1 => by
    have ih0 := host_Write.mono_l k
    · intro y0 y1 y2
      unfold host_Write.j0
      repeat' first
      | (with_reducible exact ih0 _ _ _)
      | (with_reducible exact LeO.refl _)
      | (with_reducible exact LeO.none _)
      | (with_reducible refine LeO.ite ?_ ?_)
      | (with_reducible refine LeO.bind ?_ (fun _ => ?_))
      | exact ih0 _ _ _
      | exact LeO.none _
      | refine LeO.ite ?_ ?_
      | refine LeO.bind ?_ (fun _ => ?_)
theorem host_Write.mono : ∀ a0 a1 k, LeO (host_Write.f k a0 a1) (host_Write.f (k + 1) a0 a1) := by
  intro a0 a1 k
  have ih0 := host_Write.mono_l k
  unfold host_Write.f
  repeat' first
      | (with_reducible exact ih0 _ _ _)
      | (with_reducible exact LeO.refl _)
      | (with_reducible exact LeO.none _)
      | (with_reducible refine LeO.ite ?_ ?_)
      | (with_reducible refine LeO.bind ?_ (fun _ => ?_))
      | exact ih0 _ _ _
      | exact LeO.none _
      | refine LeO.ite ?_ ?_
      | refine LeO.bind ?_ (fun _ => ?_)
set_option maxHeartbeats 8000000 in
set_option maxRecDepth 100000 in
theorem host_Write.calls (k : Nat) (a0 : ByteArray) (a1 : Int) (r1 : ByteArray) (r2 : Int) (w : World) (h : host_Write.f k a0 a1 = some (r1, r2)) (hL : LW w := by first | exact hL | exact LW.below hL (by repeat (first | (with_reducible first | exact HB.out | apply below_alloc | apply pw_below_drewN | apply below_drew1) | exact HB.out))) :
    Calls Tryd.prog 18 #[.string a0, .int .i64 a1] w fun e w' => e = .returned (.tuple #[.string r1, .int .i64 r2]) ∧ Below w.heap.size w w' := by
  have HB := Aside0.mk (Below.refl w.heap.size w)
  have H : ((host_Plain.f a0).bind fun t112 => (if t112 = 0 then (if a1 < 1 then (host_Write.j0 k a0 a1 (decide (a1 < 1))) else (host_Write.j0 k a0 a1 (decide (a1 > 65535)))) else (host_Write.j0 k a0 a1 (t112 != 0)))) = some (r1, r2) := h
  clear h
  replace H := Option.bind_eq_some_iff.mp H
  obtain ⟨t112, A30, H⟩ := H
  replace H : (if t112 = 0 then (if a1 < 1 then (host_Write.j0 k a0 a1 (decide (a1 < 1))) else (host_Write.j0 k a0 a1 (decide (a1 > 65535)))) else (host_Write.j0 k a0 a1 (t112 != 0))) = some (r1, r2) := H
  have A3 := Aside0.mk A30
  clear A30
  have HC4 := Aside0.mk H
  clear H
  go_enter Tryd.func18, Tryd.ntmps18
  go_upto_if 6 with (first | ((with_reducible refine gate_callee (f := 13) rfl ?_); refine goesL_ (some 8) rfl rfl Tryd.func13 (by kernel_rfl) rfl #[.string a0] rfl (by (try simp only [List.map_toArray, List.map_cons, List.map_nil]); first | done | rfl | (simp only [List.length_drop, List.length_take]; rfl)) ?_; (with_reducible refine (host_Plain.calls a0 t112 _ A3.out).mono ?_); rintro e w5 ⟨rfl, hb⟩; refine ⟨_, rfl, ?_⟩; have n0_ := Aside0.mk (below_step (by repeat (first | (with_reducible first | exact HB.out | apply below_alloc | apply pw_below_drewN | apply below_drew1) | exact HB.out)) hb); clear HB; have HB := n0_; clear n0_; (try clear hb); (try clear hb2); (try clear hk); (try clear hi)))
  (try simp only [Act.put, List.setIfInBounds_toArray, List.set_cons_zero, List.set_cons_succ])
  go_cut [6] (fun v6 wc => ∃ (kq : Nat) (x6_3 : Bool), v6 = .bool x6_3 ∧ Aside0 (host_Write.j0 kq a0 a1 x6_3 = some (r1, r2)) ∧ Aside0 (kq ≤ k) ∧ Aside0 (Below w.heap.size w wc))
  case first =>
    have H := HC4.out
    clear HC4
    by_cases c6 : t112 = 0
    · rw [if_pos c6] at H
      have c6b0 : (t112 == 0) = true := beq_iff_eq.mpr c6
      have c6b1 : (t112 != 0) = false := bne_eq_false_iff_eq.mpr c6
      clear c6
      (first | rw [c6b0] | (simp only [i64_w, i32_w]; rw [c6b0]) | skip)
      by_cases c7 : a1 < 1
      · rw [if_pos c7] at H
        have c7b0 : decide (a1 < 1) = true := decide_eq_true c7
        clear c7
        have H' := Aside0.mk H
        clear H
        go_wp2
        go_meet
        case rel => exact ⟨_, (decide (a1 < 1)), (by first | rfl | (simp; done) | (simp [*]; done)), H', ⟨by first | omega | exact Nat.le_refl _⟩, ⟨by repeat (first | (with_reducible first | exact HB.out | apply below_alloc | apply pw_below_drewN | apply below_drew1) | exact HB.out)⟩⟩
      · rw [if_neg c7] at H
        have c7b0 : decide (a1 < 1) = false := decide_eq_false c7
        clear c7
        have H' := Aside0.mk H
        clear H
        go_wp2
        go_meet
        case rel => exact ⟨_, (decide (a1 > 65535)), (by first | rfl | (simp; done) | (simp [*]; done)), H', ⟨by first | omega | exact Nat.le_refl _⟩, ⟨by repeat (first | (with_reducible first | exact HB.out | apply below_alloc | apply pw_below_drewN | apply below_drew1) | exact HB.out)⟩⟩
    · rw [if_neg c6] at H
      have c6b0 : (t112 == 0) = false := beq_eq_false_iff_ne.mpr c6
      have c6b1 : (t112 != 0) = true := bne_iff_ne.mpr c6
      (first | rw [c6b0] | (simp only [i64_w, i32_w]; rw [c6b0]) | skip)
      have H' := Aside0.mk H
      clear H
      go_wp2
      go_meet
      case rel => exact ⟨_, ((t112 != 0)), (by first | rfl | (simp; done) | (simp [*]; done)), H', ⟨by first | omega | exact Nat.le_refl _⟩, ⟨by repeat (first | (with_reducible first | exact HB.out | apply below_alloc | apply pw_below_drewN | apply below_drew1) | exact HB.out)⟩⟩
  case rest =>
    clear HC4
    try clear c1
    try clear p2
    try clear c6
    try clear c6b0
    try clear c6b1
    try clear c7
    try clear c7b0
    obtain ⟨kq, x6_3, rfl, HA, HJ3, HB⟩ := hcut
    cases kq with
    | zero => exact absurd HA.out (by simp [host_Write.j0])
    | succ kj3 =>
      have H := HA.out
      clear HA
      simp only [host_Write.j0] at H
      by_cases c8 : x6_3 = true
      · subst c8
        have H1 : (some ((⟨#[]⟩ : ByteArray), 60)) = some (r1, r2) := by rw [if_pos rfl] at H; exact H
        clear H
        have H := H1
        clear H1
        simp only [Option.some.injEq, Prod.mk.injEq] at H
        obtain ⟨rfl, rfl⟩ := H
        go_wp2
        go_ret2
        exact ⟨by first | rfl | (simp [errW_none, errW_some] <;> rfl) | (simp [*, errW_none, errW_some] <;> rfl), by repeat (first | (with_reducible first | exact HB.out | apply below_alloc | apply pw_below_drewN | apply below_drew1) | exact HB.out)⟩
      · replace c8 := Bool.eq_false_iff.mpr c8
        subst c8
        have H1 : (if a1 = 80 then (some (a0, 0)) else (if a0.size + 1 ≤ 9223372036854775807 then ((strconv_Itoa.f a1).bind fun t113 => (if (a0 ++ (⟨#[58]⟩ : ByteArray)).size + t113.size ≤ 9223372036854775807 then (some ((a0 ++ (⟨#[58]⟩ : ByteArray)) ++ t113, 0)) else (none))) else (none))) = some (r1, r2) := by rw [if_neg (show ¬ (false = true) by decide)] at H; exact H
        clear H
        have H := H1
        clear H1
        by_cases c9 : a1 = 80
        · rw [if_pos c9] at H
          have c9b0 : (a1 == 80) = true := beq_iff_eq.mpr c9
          have c9b1 : (a1 != 80) = false := bne_eq_false_iff_eq.mpr c9
          clear c9
          simp only [Option.some.injEq, Prod.mk.injEq] at H
          obtain ⟨rfl, rfl⟩ := H
          go_wp2
          go_ret2
          exact ⟨by first | rfl | (simp [errW_none, errW_some] <;> rfl) | (simp [*, errW_none, errW_some] <;> rfl), by repeat (first | (with_reducible first | exact HB.out | apply below_alloc | apply pw_below_drewN | apply below_drew1) | exact HB.out)⟩
        · rw [if_neg c9] at H
          have c9b0 : (a1 == 80) = false := beq_eq_false_iff_ne.mpr c9
          have c9b1 : (a1 != 80) = true := bne_iff_ne.mpr c9
          by_cases c10 : a0.size + 1 ≤ 9223372036854775807
          · rw [if_pos c10] at H
            have c10b0 := eq_true c10
            have c10b1 : decide (a0.size + 1 ≤ 9223372036854775807) = true := decide_eq_true c10
            try have c10b2 : (9223372036854775807 < a0.size + 1) = False := eq_false (Nat.not_lt.2 c10)
            replace H := Option.bind_eq_some_iff.mp H
            obtain ⟨t113, A110, H⟩ := H
            replace H : (if (a0 ++ (⟨#[58]⟩ : ByteArray)).size + t113.size ≤ 9223372036854775807 then (some ((a0 ++ (⟨#[58]⟩ : ByteArray)) ++ t113, 0)) else (none)) = some (r1, r2) := H
            have A11 := Aside0.mk A110
            clear A110
            by_cases c12 : (a0 ++ (⟨#[58]⟩ : ByteArray)).size + t113.size ≤ 9223372036854775807
            · rw [if_pos c12] at H
              have c12b0 := eq_true c12
              have c12b1 : decide ((a0 ++ (⟨#[58]⟩ : ByteArray)).size + t113.size ≤ 9223372036854775807) = true := decide_eq_true c12
              try have c12b2 : (9223372036854775807 < (a0 ++ (⟨#[58]⟩ : ByteArray)).size + t113.size) = False := eq_false (Nat.not_lt.2 c12)
              try have c12b3 : (9223372036854775807 < (a0).size + 1 + (t113).size) = False := eq_false (fun h_ => absurd c12 (by simp only [ByteArray.size_append]; exact Nat.not_le.2 h_))
              simp only [Option.some.injEq, Prod.mk.injEq] at H
              obtain ⟨rfl, rfl⟩ := H
              go_wp2_with (first | ((with_reducible refine gate_callee (f := 28) rfl ?_); refine goesL_ (some 21) rfl rfl Tryd.func28 (by kernel_rfl) rfl #[.int .i64 a1] rfl (by (try simp only [List.map_toArray, List.map_cons, List.map_nil]); first | done | rfl | (simp only [List.length_drop, List.length_take]; rfl)) ?_; (with_reducible refine (strconv_Itoa.calls a1 t113 _ A11.out).mono ?_); rintro e w13 ⟨rfl, hb⟩; refine ⟨_, rfl, ?_⟩; have n0_ := Aside0.mk (below_step (by repeat (first | (with_reducible first | exact HB.out | apply below_alloc | apply pw_below_drewN | apply below_drew1) | exact HB.out)) hb); clear HB; have HB := n0_; clear n0_; (try clear hb); (try clear hb2); (try clear hk); (try clear hi)))
              go_ret2
              exact ⟨by first | rfl | (simp [errW_none, errW_some] <;> rfl) | (simp [*, errW_none, errW_some] <;> rfl), by repeat (first | (with_reducible first | exact HB.out | apply below_alloc | apply pw_below_drewN | apply below_drew1) | exact HB.out)⟩
            · rw [if_neg c12] at H
              exact absurd H (by simp)
          · rw [if_neg c10] at H
            exact absurd H (by simp)

/-! ### host_Match: function 20 -/
def host_Match.f (a0 : ByteArray) (a1 : ByteArray) : Option (Bool) := (host_Pattern.f a0).bind fun t114 => (if t114 = 0 then ((host_Plain.f a1).bind fun t115 => (if t115 = 0 then ((strings_Cut.f a1 (⟨#[46]⟩ : ByteArray)).bind fun bt116 => (if a0.toList = a1.toList then (some true) else (if bt116.2.2 = true then (if 2 + bt116.2.1.size ≤ 9223372036854775807 then (some (a0.toList == ((⟨#[42, 46]⟩ : ByteArray) ++ bt116.2.1).toList)) else (none)) else (some false)))) else (some false))) else (some false))
set_option maxHeartbeats 8000000 in
set_option maxRecDepth 100000 in
theorem host_Match.calls (a0 : ByteArray) (a1 : ByteArray) (r : Bool) (w : World) (h : host_Match.f a0 a1 = some r) (hL : LW w := by first | exact hL | exact LW.below hL (by repeat (first | (with_reducible first | exact HB.out | apply below_alloc | apply pw_below_drewN | apply below_drew1) | exact HB.out))) :
    Calls Tryd.prog 20 #[.string a0, .string a1] w fun e w' => e = .returned (.bool r) ∧ Below w.heap.size w w' := by
  have HB := Aside0.mk (Below.refl w.heap.size w)
  have H : ((host_Pattern.f a0).bind fun t114 => (if t114 = 0 then ((host_Plain.f a1).bind fun t115 => (if t115 = 0 then ((strings_Cut.f a1 (⟨#[46]⟩ : ByteArray)).bind fun bt116 => (if a0.toList = a1.toList then (some true) else (if bt116.2.2 = true then (if 2 + bt116.2.1.size ≤ 9223372036854775807 then (some (a0.toList == ((⟨#[42, 46]⟩ : ByteArray) ++ bt116.2.1).toList)) else (none)) else (some false)))) else (some false))) else (some false))) = some r := h
  clear h
  replace H := Option.bind_eq_some_iff.mp H
  obtain ⟨t114, A30, H⟩ := H
  replace H : (if t114 = 0 then ((host_Plain.f a1).bind fun t115 => (if t115 = 0 then ((strings_Cut.f a1 (⟨#[46]⟩ : ByteArray)).bind fun bt116 => (if a0.toList = a1.toList then (some true) else (if bt116.2.2 = true then (if 2 + bt116.2.1.size ≤ 9223372036854775807 then (some (a0.toList == ((⟨#[42, 46]⟩ : ByteArray) ++ bt116.2.1).toList)) else (none)) else (some false)))) else (some false))) else (some false)) = some r := H
  have A3 := Aside0.mk A30
  clear A30
  by_cases c4 : t114 = 0
  · rw [if_pos c4] at H
    have c4b0 : (t114 == 0) = true := beq_iff_eq.mpr c4
    have c4b1 : (t114 != 0) = false := bne_eq_false_iff_eq.mpr c4
    clear c4
    replace H := Option.bind_eq_some_iff.mp H
    obtain ⟨t115, A50, H⟩ := H
    replace H : (if t115 = 0 then ((strings_Cut.f a1 (⟨#[46]⟩ : ByteArray)).bind fun bt116 => (if a0.toList = a1.toList then (some true) else (if bt116.2.2 = true then (if 2 + bt116.2.1.size ≤ 9223372036854775807 then (some (a0.toList == ((⟨#[42, 46]⟩ : ByteArray) ++ bt116.2.1).toList)) else (none)) else (some false)))) else (some false)) = some r := H
    have A5 := Aside0.mk A50
    clear A50
    by_cases c6 : t115 = 0
    · rw [if_pos c6] at H
      have c6b0 : (t115 == 0) = true := beq_iff_eq.mpr c6
      have c6b1 : (t115 != 0) = false := bne_eq_false_iff_eq.mpr c6
      clear c6
      replace H := Option.bind_eq_some_iff.mp H
      obtain ⟨⟨t116, t117, t118⟩, A70, H⟩ := H
      replace H : (if a0.toList = a1.toList then (some true) else (if t118 = true then (if 2 + t117.size ≤ 9223372036854775807 then (some (a0.toList == ((⟨#[42, 46]⟩ : ByteArray) ++ t117).toList)) else (none)) else (some false))) = some r := H
      have A7 := Aside0.mk A70
      clear A70
      by_cases c8 : a0.toList = a1.toList
      · rw [if_pos c8] at H
        have c8b0 : (a0.toList == a1.toList) = true := beq_iff_eq.mpr c8
        have c8b1 : (a0.toList != a1.toList) = false := bne_eq_false_iff_eq.mpr c8
        clear c8
        obtain rfl := Option.some.inj H
        go_enter Tryd.func20, Tryd.ntmps20
        go_wp2_with (first | ((with_reducible refine gate_callee (f := 15) rfl ?_); refine goesL_ (some 9) rfl rfl Tryd.func15 (by kernel_rfl) rfl #[.string a0] rfl (by (try simp only [List.map_toArray, List.map_cons, List.map_nil]); first | done | rfl | (simp only [List.length_drop, List.length_take]; rfl)) ?_; (with_reducible refine (host_Pattern.calls a0 t114 _ A3.out).mono ?_); rintro e w9 ⟨rfl, hb⟩; refine ⟨_, rfl, ?_⟩; have n0_ := Aside0.mk (below_step (by repeat (first | (with_reducible first | exact HB.out | apply below_alloc | apply pw_below_drewN | apply below_drew1) | exact HB.out)) hb); clear HB; have HB := n0_; clear n0_; (try clear hb); (try clear hb2); (try clear hk); (try clear hi)) | (go_at_call 13; (with_reducible refine (host_Plain.calls a1 t115 _ A5.out).mono ?_); rintro e w10 ⟨rfl, hb⟩; have n0_ := Aside0.mk (below_step (by repeat (first | (with_reducible first | exact HB.out | apply below_alloc | apply pw_below_drewN | apply below_drew1) | exact HB.out)) hb); clear HB; have HB := n0_; clear n0_; (try clear hb); (try clear hb2); (try clear hk); (try clear hi)) | ((with_reducible refine gate_callee (f := 26) rfl ?_); refine goesL_ (some 18) rfl rfl Tryd.func26 (by kernel_rfl) rfl #[.string a1, .string (⟨#[46]⟩ : ByteArray)] rfl (by (try simp only [List.map_toArray, List.map_cons, List.map_nil]); first | done | rfl | (simp only [List.length_drop, List.length_take]; rfl)) ?_; (with_reducible refine (strings_Cut.calls a1 (⟨#[46]⟩ : ByteArray) t116 t117 t118 _ A7.out).mono ?_); rintro e w11 ⟨rfl, hb⟩; refine ⟨_, rfl, ?_⟩; have n0_ := Aside0.mk (below_step (by repeat (first | (with_reducible first | exact HB.out | apply below_alloc | apply pw_below_drewN | apply below_drew1) | exact HB.out)) hb); clear HB; have HB := n0_; clear n0_; (try clear hb); (try clear hb2); (try clear hk); (try clear hi)))
        go_ret
        exact ⟨by first | rfl | (simp [errW_none, errW_some] <;> rfl) | (simp [*, errW_none, errW_some] <;> rfl), by repeat (first | (with_reducible first | exact HB.out | apply below_alloc | apply pw_below_drewN | apply below_drew1) | exact HB.out)⟩
      · rw [if_neg c8] at H
        have c8b0 : (a0.toList == a1.toList) = false := beq_eq_false_iff_ne.mpr c8
        have c8b1 : (a0.toList != a1.toList) = true := bne_iff_ne.mpr c8
        by_cases c12 : t118 = true
        · subst c12
          have H1 : (if 2 + t117.size ≤ 9223372036854775807 then (some (a0.toList == ((⟨#[42, 46]⟩ : ByteArray) ++ t117).toList)) else (none)) = some r := by rw [if_pos rfl] at H; exact H
          clear H
          have H := H1
          clear H1
          by_cases c13 : 2 + t117.size ≤ 9223372036854775807
          · rw [if_pos c13] at H
            have c13b0 := eq_true c13
            have c13b1 : decide (2 + t117.size ≤ 9223372036854775807) = true := decide_eq_true c13
            try have c13b2 : (9223372036854775807 < 2 + t117.size) = False := eq_false (Nat.not_lt.2 c13)
            obtain rfl := Option.some.inj H
            go_enter Tryd.func20, Tryd.ntmps20
            go_wp2_with (first | ((with_reducible refine gate_callee (f := 15) rfl ?_); refine goesL_ (some 9) rfl rfl Tryd.func15 (by kernel_rfl) rfl #[.string a0] rfl (by (try simp only [List.map_toArray, List.map_cons, List.map_nil]); first | done | rfl | (simp only [List.length_drop, List.length_take]; rfl)) ?_; (with_reducible refine (host_Pattern.calls a0 t114 _ A3.out).mono ?_); rintro e w14 ⟨rfl, hb⟩; refine ⟨_, rfl, ?_⟩; have n0_ := Aside0.mk (below_step (by repeat (first | (with_reducible first | exact HB.out | apply below_alloc | apply pw_below_drewN | apply below_drew1) | exact HB.out)) hb); clear HB; have HB := n0_; clear n0_; (try clear hb); (try clear hb2); (try clear hk); (try clear hi)) | (go_at_call 13; (with_reducible refine (host_Plain.calls a1 t115 _ A5.out).mono ?_); rintro e w15 ⟨rfl, hb⟩; have n0_ := Aside0.mk (below_step (by repeat (first | (with_reducible first | exact HB.out | apply below_alloc | apply pw_below_drewN | apply below_drew1) | exact HB.out)) hb); clear HB; have HB := n0_; clear n0_; (try clear hb); (try clear hb2); (try clear hk); (try clear hi)) | ((with_reducible refine gate_callee (f := 26) rfl ?_); refine goesL_ (some 18) rfl rfl Tryd.func26 (by kernel_rfl) rfl #[.string a1, .string (⟨#[46]⟩ : ByteArray)] rfl (by (try simp only [List.map_toArray, List.map_cons, List.map_nil]); first | done | rfl | (simp only [List.length_drop, List.length_take]; rfl)) ?_; (with_reducible refine (strings_Cut.calls a1 (⟨#[46]⟩ : ByteArray) t116 t117 true _ A7.out).mono ?_); rintro e w16 ⟨rfl, hb⟩; refine ⟨_, rfl, ?_⟩; have n0_ := Aside0.mk (below_step (by repeat (first | (with_reducible first | exact HB.out | apply below_alloc | apply pw_below_drewN | apply below_drew1) | exact HB.out)) hb); clear HB; have HB := n0_; clear n0_; (try clear hb); (try clear hb2); (try clear hk); (try clear hi)))
            go_ret
            exact ⟨by first | rfl | (simp [errW_none, errW_some] <;> rfl) | (simp [*, errW_none, errW_some] <;> rfl), by repeat (first | (with_reducible first | exact HB.out | apply below_alloc | apply pw_below_drewN | apply below_drew1) | exact HB.out)⟩
          · rw [if_neg c13] at H
            exact absurd H (by simp)
        · replace c12 := Bool.eq_false_iff.mpr c12
          subst c12
          have H1 : (some false) = some r := by rw [if_neg (show ¬ (false = true) by decide)] at H; exact H
          clear H
          have H := H1
          clear H1
          obtain rfl := Option.some.inj H
          go_enter Tryd.func20, Tryd.ntmps20
          go_wp2_with (first | ((with_reducible refine gate_callee (f := 15) rfl ?_); refine goesL_ (some 9) rfl rfl Tryd.func15 (by kernel_rfl) rfl #[.string a0] rfl (by (try simp only [List.map_toArray, List.map_cons, List.map_nil]); first | done | rfl | (simp only [List.length_drop, List.length_take]; rfl)) ?_; (with_reducible refine (host_Pattern.calls a0 t114 _ A3.out).mono ?_); rintro e w17 ⟨rfl, hb⟩; refine ⟨_, rfl, ?_⟩; have n0_ := Aside0.mk (below_step (by repeat (first | (with_reducible first | exact HB.out | apply below_alloc | apply pw_below_drewN | apply below_drew1) | exact HB.out)) hb); clear HB; have HB := n0_; clear n0_; (try clear hb); (try clear hb2); (try clear hk); (try clear hi)) | (go_at_call 13; (with_reducible refine (host_Plain.calls a1 t115 _ A5.out).mono ?_); rintro e w18 ⟨rfl, hb⟩; have n0_ := Aside0.mk (below_step (by repeat (first | (with_reducible first | exact HB.out | apply below_alloc | apply pw_below_drewN | apply below_drew1) | exact HB.out)) hb); clear HB; have HB := n0_; clear n0_; (try clear hb); (try clear hb2); (try clear hk); (try clear hi)) | ((with_reducible refine gate_callee (f := 26) rfl ?_); refine goesL_ (some 18) rfl rfl Tryd.func26 (by kernel_rfl) rfl #[.string a1, .string (⟨#[46]⟩ : ByteArray)] rfl (by (try simp only [List.map_toArray, List.map_cons, List.map_nil]); first | done | rfl | (simp only [List.length_drop, List.length_take]; rfl)) ?_; (with_reducible refine (strings_Cut.calls a1 (⟨#[46]⟩ : ByteArray) t116 t117 false _ A7.out).mono ?_); rintro e w19 ⟨rfl, hb⟩; refine ⟨_, rfl, ?_⟩; have n0_ := Aside0.mk (below_step (by repeat (first | (with_reducible first | exact HB.out | apply below_alloc | apply pw_below_drewN | apply below_drew1) | exact HB.out)) hb); clear HB; have HB := n0_; clear n0_; (try clear hb); (try clear hb2); (try clear hk); (try clear hi)))
          go_ret
          exact ⟨by first | rfl | (simp [errW_none, errW_some] <;> rfl) | (simp [*, errW_none, errW_some] <;> rfl), by repeat (first | (with_reducible first | exact HB.out | apply below_alloc | apply pw_below_drewN | apply below_drew1) | exact HB.out)⟩
    · rw [if_neg c6] at H
      have c6b0 : (t115 == 0) = false := beq_eq_false_iff_ne.mpr c6
      have c6b1 : (t115 != 0) = true := bne_iff_ne.mpr c6
      obtain rfl := Option.some.inj H
      go_enter Tryd.func20, Tryd.ntmps20
      go_wp2_with (first | ((with_reducible refine gate_callee (f := 15) rfl ?_); refine goesL_ (some 9) rfl rfl Tryd.func15 (by kernel_rfl) rfl #[.string a0] rfl (by (try simp only [List.map_toArray, List.map_cons, List.map_nil]); first | done | rfl | (simp only [List.length_drop, List.length_take]; rfl)) ?_; (with_reducible refine (host_Pattern.calls a0 t114 _ A3.out).mono ?_); rintro e w20 ⟨rfl, hb⟩; refine ⟨_, rfl, ?_⟩; have n0_ := Aside0.mk (below_step (by repeat (first | (with_reducible first | exact HB.out | apply below_alloc | apply pw_below_drewN | apply below_drew1) | exact HB.out)) hb); clear HB; have HB := n0_; clear n0_; (try clear hb); (try clear hb2); (try clear hk); (try clear hi)) | (go_at_call 13; (with_reducible refine (host_Plain.calls a1 t115 _ A5.out).mono ?_); rintro e w21 ⟨rfl, hb⟩; have n0_ := Aside0.mk (below_step (by repeat (first | (with_reducible first | exact HB.out | apply below_alloc | apply pw_below_drewN | apply below_drew1) | exact HB.out)) hb); clear HB; have HB := n0_; clear n0_; (try clear hb); (try clear hb2); (try clear hk); (try clear hi)))
      go_ret
      exact ⟨by first | rfl | (simp [errW_none, errW_some] <;> rfl) | (simp [*, errW_none, errW_some] <;> rfl), by repeat (first | (with_reducible first | exact HB.out | apply below_alloc | apply pw_below_drewN | apply below_drew1) | exact HB.out)⟩
  · rw [if_neg c4] at H
    have c4b0 : (t114 == 0) = false := beq_eq_false_iff_ne.mpr c4
    have c4b1 : (t114 != 0) = true := bne_iff_ne.mpr c4
    obtain rfl := Option.some.inj H
    go_enter Tryd.func20, Tryd.ntmps20
    go_wp2_with (first | ((with_reducible refine gate_callee (f := 15) rfl ?_); refine goesL_ (some 9) rfl rfl Tryd.func15 (by kernel_rfl) rfl #[.string a0] rfl (by (try simp only [List.map_toArray, List.map_cons, List.map_nil]); first | done | rfl | (simp only [List.length_drop, List.length_take]; rfl)) ?_; (with_reducible refine (host_Pattern.calls a0 t114 _ A3.out).mono ?_); rintro e w22 ⟨rfl, hb⟩; refine ⟨_, rfl, ?_⟩; have n0_ := Aside0.mk (below_step (by repeat (first | (with_reducible first | exact HB.out | apply below_alloc | apply pw_below_drewN | apply below_drew1) | exact HB.out)) hb); clear HB; have HB := n0_; clear n0_; (try clear hb); (try clear hb2); (try clear hk); (try clear hi)))
    go_ret
    exact ⟨by first | rfl | (simp [errW_none, errW_some] <;> rfl) | (simp [*, errW_none, errW_some] <;> rfl), by repeat (first | (with_reducible first | exact HB.out | apply below_alloc | apply pw_below_drewN | apply below_drew1) | exact HB.out)⟩

/-! ### chinoiserielaw06_norms: function 35 -/
def chinoiserielaw06_norms.f (a0 : ByteArray) (a1 : ByteArray) (a2 : Int) : Option (Bool) := (host_Norm.f a0).bind fun bt119 => (if a2 = 0 then (if bt119.1.toList = ([] : List UInt8) then (if bt119.2.1 = 0 then (some (bt119.2.2 == 60)) else (some false)) else (some false)) else (if bt119.1.toList = a1.toList then (if bt119.2.1 = a2 then (some (bt119.2.2 == 0)) else (some false)) else (some false)))
set_option maxHeartbeats 8000000 in
set_option maxRecDepth 100000 in
theorem chinoiserielaw06_norms.calls (a0 : ByteArray) (a1 : ByteArray) (a2 : Int) (r : Bool) (w : World) (h : chinoiserielaw06_norms.f a0 a1 a2 = some r) (hL : LW w := by first | exact hL | exact LW.below hL (by repeat (first | (with_reducible first | exact HB.out | apply below_alloc | apply pw_below_drewN | apply below_drew1) | exact HB.out))) :
    Calls Tryd.prog 35 #[.string a0, .string a1, .int .i64 a2] w fun e w' => e = .returned (.bool r) ∧ Below w.heap.size w w' := by
  have HB := Aside0.mk (Below.refl w.heap.size w)
  have H : ((host_Norm.f a0).bind fun bt119 => (if a2 = 0 then (if bt119.1.toList = ([] : List UInt8) then (if bt119.2.1 = 0 then (some (bt119.2.2 == 60)) else (some false)) else (some false)) else (if bt119.1.toList = a1.toList then (if bt119.2.1 = a2 then (some (bt119.2.2 == 0)) else (some false)) else (some false)))) = some r := h
  clear h
  replace H := Option.bind_eq_some_iff.mp H
  obtain ⟨⟨t119, t120, t121⟩, A40, H⟩ := H
  replace H : (if a2 = 0 then (if t119.toList = ([] : List UInt8) then (if t120 = 0 then (some (t121 == 60)) else (some false)) else (some false)) else (if t119.toList = a1.toList then (if t120 = a2 then (some (t121 == 0)) else (some false)) else (some false))) = some r := H
  have A4 := Aside0.mk A40
  clear A40
  by_cases c5 : a2 = 0
  · rw [if_pos c5] at H
    have c5b0 : (a2 == 0) = true := beq_iff_eq.mpr c5
    have c5b1 : (a2 != 0) = false := bne_eq_false_iff_eq.mpr c5
    clear c5
    by_cases c6 : t119.toList = ([] : List UInt8)
    · rw [if_pos c6] at H
      have c6b0 : (t119.toList == ([] : List UInt8)) = true := beq_iff_eq.mpr c6
      have c6b1 : (t119.toList != ([] : List UInt8)) = false := bne_eq_false_iff_eq.mpr c6
      clear c6
      by_cases c7 : t120 = 0
      · rw [if_pos c7] at H
        have c7b0 : (t120 == 0) = true := beq_iff_eq.mpr c7
        have c7b1 : (t120 != 0) = false := bne_eq_false_iff_eq.mpr c7
        clear c7
        obtain rfl := Option.some.inj H
        go_enter Tryd.func35, Tryd.ntmps35
        go_wp2_with (first | ((with_reducible refine gate_callee (f := 11) rfl ?_); refine goesL_ (some 12) rfl rfl Tryd.func11 (by kernel_rfl) rfl #[.string a0] rfl (by (try simp only [List.map_toArray, List.map_cons, List.map_nil]); first | done | rfl | (simp only [List.length_drop, List.length_take]; rfl)) ?_; (with_reducible refine (host_Norm.calls a0 t119 t120 t121 _ A4.out).mono ?_); rintro e w8 ⟨rfl, hb⟩; refine ⟨_, rfl, ?_⟩; have n0_ := Aside0.mk (below_step (by repeat (first | (with_reducible first | exact HB.out | apply below_alloc | apply pw_below_drewN | apply below_drew1) | exact HB.out)) hb); clear HB; have HB := n0_; clear n0_; (try clear hb); (try clear hb2); (try clear hk); (try clear hi)))
        go_ret
        exact ⟨by first | rfl | (simp [errW_none, errW_some] <;> rfl) | (simp [*, errW_none, errW_some] <;> rfl), by repeat (first | (with_reducible first | exact HB.out | apply below_alloc | apply pw_below_drewN | apply below_drew1) | exact HB.out)⟩
      · rw [if_neg c7] at H
        have c7b0 : (t120 == 0) = false := beq_eq_false_iff_ne.mpr c7
        have c7b1 : (t120 != 0) = true := bne_iff_ne.mpr c7
        obtain rfl := Option.some.inj H
        go_enter Tryd.func35, Tryd.ntmps35
        go_wp2_with (first | ((with_reducible refine gate_callee (f := 11) rfl ?_); refine goesL_ (some 12) rfl rfl Tryd.func11 (by kernel_rfl) rfl #[.string a0] rfl (by (try simp only [List.map_toArray, List.map_cons, List.map_nil]); first | done | rfl | (simp only [List.length_drop, List.length_take]; rfl)) ?_; (with_reducible refine (host_Norm.calls a0 t119 t120 t121 _ A4.out).mono ?_); rintro e w9 ⟨rfl, hb⟩; refine ⟨_, rfl, ?_⟩; have n0_ := Aside0.mk (below_step (by repeat (first | (with_reducible first | exact HB.out | apply below_alloc | apply pw_below_drewN | apply below_drew1) | exact HB.out)) hb); clear HB; have HB := n0_; clear n0_; (try clear hb); (try clear hb2); (try clear hk); (try clear hi)))
        go_ret
        exact ⟨by first | rfl | (simp [errW_none, errW_some] <;> rfl) | (simp [*, errW_none, errW_some] <;> rfl), by repeat (first | (with_reducible first | exact HB.out | apply below_alloc | apply pw_below_drewN | apply below_drew1) | exact HB.out)⟩
    · rw [if_neg c6] at H
      have c6b0 : (t119.toList == ([] : List UInt8)) = false := beq_eq_false_iff_ne.mpr c6
      have c6b1 : (t119.toList != ([] : List UInt8)) = true := bne_iff_ne.mpr c6
      obtain rfl := Option.some.inj H
      go_enter Tryd.func35, Tryd.ntmps35
      go_wp2_with (first | ((with_reducible refine gate_callee (f := 11) rfl ?_); refine goesL_ (some 12) rfl rfl Tryd.func11 (by kernel_rfl) rfl #[.string a0] rfl (by (try simp only [List.map_toArray, List.map_cons, List.map_nil]); first | done | rfl | (simp only [List.length_drop, List.length_take]; rfl)) ?_; (with_reducible refine (host_Norm.calls a0 t119 t120 t121 _ A4.out).mono ?_); rintro e w10 ⟨rfl, hb⟩; refine ⟨_, rfl, ?_⟩; have n0_ := Aside0.mk (below_step (by repeat (first | (with_reducible first | exact HB.out | apply below_alloc | apply pw_below_drewN | apply below_drew1) | exact HB.out)) hb); clear HB; have HB := n0_; clear n0_; (try clear hb); (try clear hb2); (try clear hk); (try clear hi)))
      go_ret
      exact ⟨by first | rfl | (simp [errW_none, errW_some] <;> rfl) | (simp [*, errW_none, errW_some] <;> rfl), by repeat (first | (with_reducible first | exact HB.out | apply below_alloc | apply pw_below_drewN | apply below_drew1) | exact HB.out)⟩
  · rw [if_neg c5] at H
    have c5b0 : (a2 == 0) = false := beq_eq_false_iff_ne.mpr c5
    have c5b1 : (a2 != 0) = true := bne_iff_ne.mpr c5
    by_cases c11 : t119.toList = a1.toList
    · rw [if_pos c11] at H
      have c11b0 : (t119.toList == a1.toList) = true := beq_iff_eq.mpr c11
      have c11b1 : (t119.toList != a1.toList) = false := bne_eq_false_iff_eq.mpr c11
      clear c11
      by_cases c12 : t120 = a2
      · rw [if_pos c12] at H
        have c12b0 : (t120 == a2) = true := beq_iff_eq.mpr c12
        have c12b1 : (t120 != a2) = false := bne_eq_false_iff_eq.mpr c12
        clear c12
        obtain rfl := Option.some.inj H
        go_enter Tryd.func35, Tryd.ntmps35
        go_wp2_with (first | ((with_reducible refine gate_callee (f := 11) rfl ?_); refine goesL_ (some 12) rfl rfl Tryd.func11 (by kernel_rfl) rfl #[.string a0] rfl (by (try simp only [List.map_toArray, List.map_cons, List.map_nil]); first | done | rfl | (simp only [List.length_drop, List.length_take]; rfl)) ?_; (with_reducible refine (host_Norm.calls a0 t119 t120 t121 _ A4.out).mono ?_); rintro e w13 ⟨rfl, hb⟩; refine ⟨_, rfl, ?_⟩; have n0_ := Aside0.mk (below_step (by repeat (first | (with_reducible first | exact HB.out | apply below_alloc | apply pw_below_drewN | apply below_drew1) | exact HB.out)) hb); clear HB; have HB := n0_; clear n0_; (try clear hb); (try clear hb2); (try clear hk); (try clear hi)))
        go_ret
        exact ⟨by first | rfl | (simp [errW_none, errW_some] <;> rfl) | (simp [*, errW_none, errW_some] <;> rfl), by repeat (first | (with_reducible first | exact HB.out | apply below_alloc | apply pw_below_drewN | apply below_drew1) | exact HB.out)⟩
      · rw [if_neg c12] at H
        have c12b0 : (t120 == a2) = false := beq_eq_false_iff_ne.mpr c12
        have c12b1 : (t120 != a2) = true := bne_iff_ne.mpr c12
        obtain rfl := Option.some.inj H
        go_enter Tryd.func35, Tryd.ntmps35
        go_wp2_with (first | ((with_reducible refine gate_callee (f := 11) rfl ?_); refine goesL_ (some 12) rfl rfl Tryd.func11 (by kernel_rfl) rfl #[.string a0] rfl (by (try simp only [List.map_toArray, List.map_cons, List.map_nil]); first | done | rfl | (simp only [List.length_drop, List.length_take]; rfl)) ?_; (with_reducible refine (host_Norm.calls a0 t119 t120 t121 _ A4.out).mono ?_); rintro e w14 ⟨rfl, hb⟩; refine ⟨_, rfl, ?_⟩; have n0_ := Aside0.mk (below_step (by repeat (first | (with_reducible first | exact HB.out | apply below_alloc | apply pw_below_drewN | apply below_drew1) | exact HB.out)) hb); clear HB; have HB := n0_; clear n0_; (try clear hb); (try clear hb2); (try clear hk); (try clear hi)))
        go_ret
        exact ⟨by first | rfl | (simp [errW_none, errW_some] <;> rfl) | (simp [*, errW_none, errW_some] <;> rfl), by repeat (first | (with_reducible first | exact HB.out | apply below_alloc | apply pw_below_drewN | apply below_drew1) | exact HB.out)⟩
    · rw [if_neg c11] at H
      have c11b0 : (t119.toList == a1.toList) = false := beq_eq_false_iff_ne.mpr c11
      have c11b1 : (t119.toList != a1.toList) = true := bne_iff_ne.mpr c11
      obtain rfl := Option.some.inj H
      go_enter Tryd.func35, Tryd.ntmps35
      go_wp2_with (first | ((with_reducible refine gate_callee (f := 11) rfl ?_); refine goesL_ (some 12) rfl rfl Tryd.func11 (by kernel_rfl) rfl #[.string a0] rfl (by (try simp only [List.map_toArray, List.map_cons, List.map_nil]); first | done | rfl | (simp only [List.length_drop, List.length_take]; rfl)) ?_; (with_reducible refine (host_Norm.calls a0 t119 t120 t121 _ A4.out).mono ?_); rintro e w15 ⟨rfl, hb⟩; refine ⟨_, rfl, ?_⟩; have n0_ := Aside0.mk (below_step (by repeat (first | (with_reducible first | exact HB.out | apply below_alloc | apply pw_below_drewN | apply below_drew1) | exact HB.out)) hb); clear HB; have HB := n0_; clear n0_; (try clear hb); (try clear hb2); (try clear hk); (try clear hi)))
      go_ret
      exact ⟨by first | rfl | (simp [errW_none, errW_some] <;> rfl) | (simp [*, errW_none, errW_some] <;> rfl), by repeat (first | (with_reducible first | exact HB.out | apply below_alloc | apply pw_below_drewN | apply below_drew1) | exact HB.out)⟩

/-! ### chinoiserielaw06_works: function 17 -/
def chinoiserielaw06_works.f (k : Nat)  : Option (Bool) := (chinoiserielaw06_norms.f (⟨#[83, 104, 111, 112, 46, 69, 120, 97, 109, 112, 108, 101, 46, 111, 114, 103]⟩ : ByteArray) (⟨#[115, 104, 111, 112, 46, 101, 120, 97, 109, 112, 108, 101, 46, 111, 114, 103]⟩ : ByteArray) 80).bind fun t122 => (if t122 = true then ((chinoiserielaw06_norms.f (⟨#[97, 58, 56, 48, 56, 48]⟩ : ByteArray) (⟨#[97]⟩ : ByteArray) 8080).bind fun t123 => (if t123 = true then ((chinoiserielaw06_norms.f (⟨#[97, 58, 56, 48]⟩ : ByteArray) (⟨#[97]⟩ : ByteArray) 80).bind fun t124 => (if t124 = true then ((chinoiserielaw06_norms.f (⟨#[97, 58, 48]⟩ : ByteArray) (⟨#[]⟩ : ByteArray) 0).bind fun t125 => (if t125 = true then ((chinoiserielaw06_norms.f (⟨#[97, 58]⟩ : ByteArray) (⟨#[]⟩ : ByteArray) 0).bind fun t126 => (if t126 = true then ((chinoiserielaw06_norms.f (⟨#[45, 97]⟩ : ByteArray) (⟨#[]⟩ : ByteArray) 0).bind fun t127 => (if t127 = true then ((chinoiserielaw06_norms.f (⟨#[97, 46, 46, 98]⟩ : ByteArray) (⟨#[]⟩ : ByteArray) 0).bind fun t128 => (if t128 = true then ((chinoiserielaw06_norms.f (⟨#[]⟩ : ByteArray) (⟨#[]⟩ : ByteArray) 0).bind fun t129 => ((host_Write.f k (⟨#[97]⟩ : ByteArray) 80).bind fun bt130 => ((host_Write.f k (⟨#[97]⟩ : ByteArray) 443).bind fun bt132 => ((host_Write.f k (⟨#[65]⟩ : ByteArray) 80).bind fun bt134 => (if t129 = true then (if bt130.1.toList = ([97] : List UInt8) then (if bt130.2 = 0 then (if bt132.1.toList = ([97, 58, 52, 52, 51] : List UInt8) then (if bt132.2 = 0 then (if bt134.2 = 60 then ((host_Match.f (⟨#[42, 46, 98, 46, 99]⟩ : ByteArray) (⟨#[97, 46, 98, 46, 99]⟩ : ByteArray)).bind fun t136 => (if t136 = true then ((host_Match.f (⟨#[42, 46, 98, 46, 99]⟩ : ByteArray) (⟨#[98, 46, 99]⟩ : ByteArray)).bind fun t137 => (if t137 = true then (none) else ((host_Match.f (⟨#[42, 46, 98, 46, 99]⟩ : ByteArray) (⟨#[120, 46, 97, 46, 98, 46, 99]⟩ : ByteArray)).bind fun t138 => (if t138 = true then (none) else ((host_Match.f (⟨#[98, 46, 99]⟩ : ByteArray) (⟨#[98, 46, 99]⟩ : ByteArray)).bind fun t139 => (if t139 = true then ((host_Match.f (⟨#[42, 46, 99]⟩ : ByteArray) (⟨#[42, 46, 99]⟩ : ByteArray)).bind fun t140 => (some (!t140))) else (none))))))) else (none))) else (none)) else (none)) else (none)) else (none)) else (none)) else (none)))))) else (none))) else (none))) else (none))) else (none))) else (none))) else (none))) else (none))
theorem chinoiserielaw06_works.mono : ∀ k, LeO (chinoiserielaw06_works.f k ) (chinoiserielaw06_works.f (k + 1) ) := by
  intro  k
  unfold chinoiserielaw06_works.f
  repeat' first
      | (with_reducible exact host_Write.mono _ _ _)
      | (with_reducible exact LeO.refl _)
      | (with_reducible exact LeO.none _)
      | (with_reducible refine LeO.ite ?_ ?_)
      | (with_reducible refine LeO.bind ?_ (fun _ => ?_))
      | exact host_Write.mono _ _ _
      | exact LeO.none _
      | refine LeO.ite ?_ ?_
      | refine LeO.bind ?_ (fun _ => ?_)
set_option maxHeartbeats 8000000 in
set_option maxRecDepth 100000 in
theorem chinoiserielaw06_works.calls (k : Nat)  (r : Bool) (w : World) (h : chinoiserielaw06_works.f k  = some r) (hL : LW w := by first | exact hL | exact LW.below hL (by repeat (first | (with_reducible first | exact HB.out | apply below_alloc | apply pw_below_drewN | apply below_drew1) | exact HB.out))) :
    Calls Tryd.prog 17 #[] w fun e w' => e = .returned (.bool r) ∧ Below w.heap.size w w' := by
  have HB := Aside0.mk (Below.refl w.heap.size w)
  have H : ((chinoiserielaw06_norms.f (⟨#[83, 104, 111, 112, 46, 69, 120, 97, 109, 112, 108, 101, 46, 111, 114, 103]⟩ : ByteArray) (⟨#[115, 104, 111, 112, 46, 101, 120, 97, 109, 112, 108, 101, 46, 111, 114, 103]⟩ : ByteArray) 80).bind fun t122 => (if t122 = true then ((chinoiserielaw06_norms.f (⟨#[97, 58, 56, 48, 56, 48]⟩ : ByteArray) (⟨#[97]⟩ : ByteArray) 8080).bind fun t123 => (if t123 = true then ((chinoiserielaw06_norms.f (⟨#[97, 58, 56, 48]⟩ : ByteArray) (⟨#[97]⟩ : ByteArray) 80).bind fun t124 => (if t124 = true then ((chinoiserielaw06_norms.f (⟨#[97, 58, 48]⟩ : ByteArray) (⟨#[]⟩ : ByteArray) 0).bind fun t125 => (if t125 = true then ((chinoiserielaw06_norms.f (⟨#[97, 58]⟩ : ByteArray) (⟨#[]⟩ : ByteArray) 0).bind fun t126 => (if t126 = true then ((chinoiserielaw06_norms.f (⟨#[45, 97]⟩ : ByteArray) (⟨#[]⟩ : ByteArray) 0).bind fun t127 => (if t127 = true then ((chinoiserielaw06_norms.f (⟨#[97, 46, 46, 98]⟩ : ByteArray) (⟨#[]⟩ : ByteArray) 0).bind fun t128 => (if t128 = true then ((chinoiserielaw06_norms.f (⟨#[]⟩ : ByteArray) (⟨#[]⟩ : ByteArray) 0).bind fun t129 => ((host_Write.f k (⟨#[97]⟩ : ByteArray) 80).bind fun bt130 => ((host_Write.f k (⟨#[97]⟩ : ByteArray) 443).bind fun bt132 => ((host_Write.f k (⟨#[65]⟩ : ByteArray) 80).bind fun bt134 => (if t129 = true then (if bt130.1.toList = ([97] : List UInt8) then (if bt130.2 = 0 then (if bt132.1.toList = ([97, 58, 52, 52, 51] : List UInt8) then (if bt132.2 = 0 then (if bt134.2 = 60 then ((host_Match.f (⟨#[42, 46, 98, 46, 99]⟩ : ByteArray) (⟨#[97, 46, 98, 46, 99]⟩ : ByteArray)).bind fun t136 => (if t136 = true then ((host_Match.f (⟨#[42, 46, 98, 46, 99]⟩ : ByteArray) (⟨#[98, 46, 99]⟩ : ByteArray)).bind fun t137 => (if t137 = true then (none) else ((host_Match.f (⟨#[42, 46, 98, 46, 99]⟩ : ByteArray) (⟨#[120, 46, 97, 46, 98, 46, 99]⟩ : ByteArray)).bind fun t138 => (if t138 = true then (none) else ((host_Match.f (⟨#[98, 46, 99]⟩ : ByteArray) (⟨#[98, 46, 99]⟩ : ByteArray)).bind fun t139 => (if t139 = true then ((host_Match.f (⟨#[42, 46, 99]⟩ : ByteArray) (⟨#[42, 46, 99]⟩ : ByteArray)).bind fun t140 => (some (!t140))) else (none))))))) else (none))) else (none)) else (none)) else (none)) else (none)) else (none)) else (none)))))) else (none))) else (none))) else (none))) else (none))) else (none))) else (none))) else (none))) = some r := h
  clear h
  replace H := Option.bind_eq_some_iff.mp H
  obtain ⟨t122, A10, H⟩ := H
  replace H : (if t122 = true then ((chinoiserielaw06_norms.f (⟨#[97, 58, 56, 48, 56, 48]⟩ : ByteArray) (⟨#[97]⟩ : ByteArray) 8080).bind fun t123 => (if t123 = true then ((chinoiserielaw06_norms.f (⟨#[97, 58, 56, 48]⟩ : ByteArray) (⟨#[97]⟩ : ByteArray) 80).bind fun t124 => (if t124 = true then ((chinoiserielaw06_norms.f (⟨#[97, 58, 48]⟩ : ByteArray) (⟨#[]⟩ : ByteArray) 0).bind fun t125 => (if t125 = true then ((chinoiserielaw06_norms.f (⟨#[97, 58]⟩ : ByteArray) (⟨#[]⟩ : ByteArray) 0).bind fun t126 => (if t126 = true then ((chinoiserielaw06_norms.f (⟨#[45, 97]⟩ : ByteArray) (⟨#[]⟩ : ByteArray) 0).bind fun t127 => (if t127 = true then ((chinoiserielaw06_norms.f (⟨#[97, 46, 46, 98]⟩ : ByteArray) (⟨#[]⟩ : ByteArray) 0).bind fun t128 => (if t128 = true then ((chinoiserielaw06_norms.f (⟨#[]⟩ : ByteArray) (⟨#[]⟩ : ByteArray) 0).bind fun t129 => ((host_Write.f k (⟨#[97]⟩ : ByteArray) 80).bind fun bt130 => ((host_Write.f k (⟨#[97]⟩ : ByteArray) 443).bind fun bt132 => ((host_Write.f k (⟨#[65]⟩ : ByteArray) 80).bind fun bt134 => (if t129 = true then (if bt130.1.toList = ([97] : List UInt8) then (if bt130.2 = 0 then (if bt132.1.toList = ([97, 58, 52, 52, 51] : List UInt8) then (if bt132.2 = 0 then (if bt134.2 = 60 then ((host_Match.f (⟨#[42, 46, 98, 46, 99]⟩ : ByteArray) (⟨#[97, 46, 98, 46, 99]⟩ : ByteArray)).bind fun t136 => (if t136 = true then ((host_Match.f (⟨#[42, 46, 98, 46, 99]⟩ : ByteArray) (⟨#[98, 46, 99]⟩ : ByteArray)).bind fun t137 => (if t137 = true then (none) else ((host_Match.f (⟨#[42, 46, 98, 46, 99]⟩ : ByteArray) (⟨#[120, 46, 97, 46, 98, 46, 99]⟩ : ByteArray)).bind fun t138 => (if t138 = true then (none) else ((host_Match.f (⟨#[98, 46, 99]⟩ : ByteArray) (⟨#[98, 46, 99]⟩ : ByteArray)).bind fun t139 => (if t139 = true then ((host_Match.f (⟨#[42, 46, 99]⟩ : ByteArray) (⟨#[42, 46, 99]⟩ : ByteArray)).bind fun t140 => (some (!t140))) else (none))))))) else (none))) else (none)) else (none)) else (none)) else (none)) else (none)) else (none)))))) else (none))) else (none))) else (none))) else (none))) else (none))) else (none))) else (none)) = some r := H
  have A1 := Aside0.mk A10
  clear A10
  by_cases c2 : t122 = true
  · subst c2
    have H1 : ((chinoiserielaw06_norms.f (⟨#[97, 58, 56, 48, 56, 48]⟩ : ByteArray) (⟨#[97]⟩ : ByteArray) 8080).bind fun t123 => (if t123 = true then ((chinoiserielaw06_norms.f (⟨#[97, 58, 56, 48]⟩ : ByteArray) (⟨#[97]⟩ : ByteArray) 80).bind fun t124 => (if t124 = true then ((chinoiserielaw06_norms.f (⟨#[97, 58, 48]⟩ : ByteArray) (⟨#[]⟩ : ByteArray) 0).bind fun t125 => (if t125 = true then ((chinoiserielaw06_norms.f (⟨#[97, 58]⟩ : ByteArray) (⟨#[]⟩ : ByteArray) 0).bind fun t126 => (if t126 = true then ((chinoiserielaw06_norms.f (⟨#[45, 97]⟩ : ByteArray) (⟨#[]⟩ : ByteArray) 0).bind fun t127 => (if t127 = true then ((chinoiserielaw06_norms.f (⟨#[97, 46, 46, 98]⟩ : ByteArray) (⟨#[]⟩ : ByteArray) 0).bind fun t128 => (if t128 = true then ((chinoiserielaw06_norms.f (⟨#[]⟩ : ByteArray) (⟨#[]⟩ : ByteArray) 0).bind fun t129 => ((host_Write.f k (⟨#[97]⟩ : ByteArray) 80).bind fun bt130 => ((host_Write.f k (⟨#[97]⟩ : ByteArray) 443).bind fun bt132 => ((host_Write.f k (⟨#[65]⟩ : ByteArray) 80).bind fun bt134 => (if t129 = true then (if bt130.1.toList = ([97] : List UInt8) then (if bt130.2 = 0 then (if bt132.1.toList = ([97, 58, 52, 52, 51] : List UInt8) then (if bt132.2 = 0 then (if bt134.2 = 60 then ((host_Match.f (⟨#[42, 46, 98, 46, 99]⟩ : ByteArray) (⟨#[97, 46, 98, 46, 99]⟩ : ByteArray)).bind fun t136 => (if t136 = true then ((host_Match.f (⟨#[42, 46, 98, 46, 99]⟩ : ByteArray) (⟨#[98, 46, 99]⟩ : ByteArray)).bind fun t137 => (if t137 = true then (none) else ((host_Match.f (⟨#[42, 46, 98, 46, 99]⟩ : ByteArray) (⟨#[120, 46, 97, 46, 98, 46, 99]⟩ : ByteArray)).bind fun t138 => (if t138 = true then (none) else ((host_Match.f (⟨#[98, 46, 99]⟩ : ByteArray) (⟨#[98, 46, 99]⟩ : ByteArray)).bind fun t139 => (if t139 = true then ((host_Match.f (⟨#[42, 46, 99]⟩ : ByteArray) (⟨#[42, 46, 99]⟩ : ByteArray)).bind fun t140 => (some (!t140))) else (none))))))) else (none))) else (none)) else (none)) else (none)) else (none)) else (none)) else (none)))))) else (none))) else (none))) else (none))) else (none))) else (none))) else (none))) = some r := by rw [if_pos rfl] at H; exact H
    clear H
    have H := H1
    clear H1
    replace H := Option.bind_eq_some_iff.mp H
    obtain ⟨t123, A30, H⟩ := H
    replace H : (if t123 = true then ((chinoiserielaw06_norms.f (⟨#[97, 58, 56, 48]⟩ : ByteArray) (⟨#[97]⟩ : ByteArray) 80).bind fun t124 => (if t124 = true then ((chinoiserielaw06_norms.f (⟨#[97, 58, 48]⟩ : ByteArray) (⟨#[]⟩ : ByteArray) 0).bind fun t125 => (if t125 = true then ((chinoiserielaw06_norms.f (⟨#[97, 58]⟩ : ByteArray) (⟨#[]⟩ : ByteArray) 0).bind fun t126 => (if t126 = true then ((chinoiserielaw06_norms.f (⟨#[45, 97]⟩ : ByteArray) (⟨#[]⟩ : ByteArray) 0).bind fun t127 => (if t127 = true then ((chinoiserielaw06_norms.f (⟨#[97, 46, 46, 98]⟩ : ByteArray) (⟨#[]⟩ : ByteArray) 0).bind fun t128 => (if t128 = true then ((chinoiserielaw06_norms.f (⟨#[]⟩ : ByteArray) (⟨#[]⟩ : ByteArray) 0).bind fun t129 => ((host_Write.f k (⟨#[97]⟩ : ByteArray) 80).bind fun bt130 => ((host_Write.f k (⟨#[97]⟩ : ByteArray) 443).bind fun bt132 => ((host_Write.f k (⟨#[65]⟩ : ByteArray) 80).bind fun bt134 => (if t129 = true then (if bt130.1.toList = ([97] : List UInt8) then (if bt130.2 = 0 then (if bt132.1.toList = ([97, 58, 52, 52, 51] : List UInt8) then (if bt132.2 = 0 then (if bt134.2 = 60 then ((host_Match.f (⟨#[42, 46, 98, 46, 99]⟩ : ByteArray) (⟨#[97, 46, 98, 46, 99]⟩ : ByteArray)).bind fun t136 => (if t136 = true then ((host_Match.f (⟨#[42, 46, 98, 46, 99]⟩ : ByteArray) (⟨#[98, 46, 99]⟩ : ByteArray)).bind fun t137 => (if t137 = true then (none) else ((host_Match.f (⟨#[42, 46, 98, 46, 99]⟩ : ByteArray) (⟨#[120, 46, 97, 46, 98, 46, 99]⟩ : ByteArray)).bind fun t138 => (if t138 = true then (none) else ((host_Match.f (⟨#[98, 46, 99]⟩ : ByteArray) (⟨#[98, 46, 99]⟩ : ByteArray)).bind fun t139 => (if t139 = true then ((host_Match.f (⟨#[42, 46, 99]⟩ : ByteArray) (⟨#[42, 46, 99]⟩ : ByteArray)).bind fun t140 => (some (!t140))) else (none))))))) else (none))) else (none)) else (none)) else (none)) else (none)) else (none)) else (none)))))) else (none))) else (none))) else (none))) else (none))) else (none))) else (none)) = some r := H
    have A3 := Aside0.mk A30
    clear A30
    by_cases c4 : t123 = true
    · subst c4
      have H1 : ((chinoiserielaw06_norms.f (⟨#[97, 58, 56, 48]⟩ : ByteArray) (⟨#[97]⟩ : ByteArray) 80).bind fun t124 => (if t124 = true then ((chinoiserielaw06_norms.f (⟨#[97, 58, 48]⟩ : ByteArray) (⟨#[]⟩ : ByteArray) 0).bind fun t125 => (if t125 = true then ((chinoiserielaw06_norms.f (⟨#[97, 58]⟩ : ByteArray) (⟨#[]⟩ : ByteArray) 0).bind fun t126 => (if t126 = true then ((chinoiserielaw06_norms.f (⟨#[45, 97]⟩ : ByteArray) (⟨#[]⟩ : ByteArray) 0).bind fun t127 => (if t127 = true then ((chinoiserielaw06_norms.f (⟨#[97, 46, 46, 98]⟩ : ByteArray) (⟨#[]⟩ : ByteArray) 0).bind fun t128 => (if t128 = true then ((chinoiserielaw06_norms.f (⟨#[]⟩ : ByteArray) (⟨#[]⟩ : ByteArray) 0).bind fun t129 => ((host_Write.f k (⟨#[97]⟩ : ByteArray) 80).bind fun bt130 => ((host_Write.f k (⟨#[97]⟩ : ByteArray) 443).bind fun bt132 => ((host_Write.f k (⟨#[65]⟩ : ByteArray) 80).bind fun bt134 => (if t129 = true then (if bt130.1.toList = ([97] : List UInt8) then (if bt130.2 = 0 then (if bt132.1.toList = ([97, 58, 52, 52, 51] : List UInt8) then (if bt132.2 = 0 then (if bt134.2 = 60 then ((host_Match.f (⟨#[42, 46, 98, 46, 99]⟩ : ByteArray) (⟨#[97, 46, 98, 46, 99]⟩ : ByteArray)).bind fun t136 => (if t136 = true then ((host_Match.f (⟨#[42, 46, 98, 46, 99]⟩ : ByteArray) (⟨#[98, 46, 99]⟩ : ByteArray)).bind fun t137 => (if t137 = true then (none) else ((host_Match.f (⟨#[42, 46, 98, 46, 99]⟩ : ByteArray) (⟨#[120, 46, 97, 46, 98, 46, 99]⟩ : ByteArray)).bind fun t138 => (if t138 = true then (none) else ((host_Match.f (⟨#[98, 46, 99]⟩ : ByteArray) (⟨#[98, 46, 99]⟩ : ByteArray)).bind fun t139 => (if t139 = true then ((host_Match.f (⟨#[42, 46, 99]⟩ : ByteArray) (⟨#[42, 46, 99]⟩ : ByteArray)).bind fun t140 => (some (!t140))) else (none))))))) else (none))) else (none)) else (none)) else (none)) else (none)) else (none)) else (none)))))) else (none))) else (none))) else (none))) else (none))) else (none))) = some r := by rw [if_pos rfl] at H; exact H
      clear H
      have H := H1
      clear H1
      replace H := Option.bind_eq_some_iff.mp H
      obtain ⟨t124, A50, H⟩ := H
      replace H : (if t124 = true then ((chinoiserielaw06_norms.f (⟨#[97, 58, 48]⟩ : ByteArray) (⟨#[]⟩ : ByteArray) 0).bind fun t125 => (if t125 = true then ((chinoiserielaw06_norms.f (⟨#[97, 58]⟩ : ByteArray) (⟨#[]⟩ : ByteArray) 0).bind fun t126 => (if t126 = true then ((chinoiserielaw06_norms.f (⟨#[45, 97]⟩ : ByteArray) (⟨#[]⟩ : ByteArray) 0).bind fun t127 => (if t127 = true then ((chinoiserielaw06_norms.f (⟨#[97, 46, 46, 98]⟩ : ByteArray) (⟨#[]⟩ : ByteArray) 0).bind fun t128 => (if t128 = true then ((chinoiserielaw06_norms.f (⟨#[]⟩ : ByteArray) (⟨#[]⟩ : ByteArray) 0).bind fun t129 => ((host_Write.f k (⟨#[97]⟩ : ByteArray) 80).bind fun bt130 => ((host_Write.f k (⟨#[97]⟩ : ByteArray) 443).bind fun bt132 => ((host_Write.f k (⟨#[65]⟩ : ByteArray) 80).bind fun bt134 => (if t129 = true then (if bt130.1.toList = ([97] : List UInt8) then (if bt130.2 = 0 then (if bt132.1.toList = ([97, 58, 52, 52, 51] : List UInt8) then (if bt132.2 = 0 then (if bt134.2 = 60 then ((host_Match.f (⟨#[42, 46, 98, 46, 99]⟩ : ByteArray) (⟨#[97, 46, 98, 46, 99]⟩ : ByteArray)).bind fun t136 => (if t136 = true then ((host_Match.f (⟨#[42, 46, 98, 46, 99]⟩ : ByteArray) (⟨#[98, 46, 99]⟩ : ByteArray)).bind fun t137 => (if t137 = true then (none) else ((host_Match.f (⟨#[42, 46, 98, 46, 99]⟩ : ByteArray) (⟨#[120, 46, 97, 46, 98, 46, 99]⟩ : ByteArray)).bind fun t138 => (if t138 = true then (none) else ((host_Match.f (⟨#[98, 46, 99]⟩ : ByteArray) (⟨#[98, 46, 99]⟩ : ByteArray)).bind fun t139 => (if t139 = true then ((host_Match.f (⟨#[42, 46, 99]⟩ : ByteArray) (⟨#[42, 46, 99]⟩ : ByteArray)).bind fun t140 => (some (!t140))) else (none))))))) else (none))) else (none)) else (none)) else (none)) else (none)) else (none)) else (none)))))) else (none))) else (none))) else (none))) else (none))) else (none)) = some r := H
      have A5 := Aside0.mk A50
      clear A50
      by_cases c6 : t124 = true
      · subst c6
        have H1 : ((chinoiserielaw06_norms.f (⟨#[97, 58, 48]⟩ : ByteArray) (⟨#[]⟩ : ByteArray) 0).bind fun t125 => (if t125 = true then ((chinoiserielaw06_norms.f (⟨#[97, 58]⟩ : ByteArray) (⟨#[]⟩ : ByteArray) 0).bind fun t126 => (if t126 = true then ((chinoiserielaw06_norms.f (⟨#[45, 97]⟩ : ByteArray) (⟨#[]⟩ : ByteArray) 0).bind fun t127 => (if t127 = true then ((chinoiserielaw06_norms.f (⟨#[97, 46, 46, 98]⟩ : ByteArray) (⟨#[]⟩ : ByteArray) 0).bind fun t128 => (if t128 = true then ((chinoiserielaw06_norms.f (⟨#[]⟩ : ByteArray) (⟨#[]⟩ : ByteArray) 0).bind fun t129 => ((host_Write.f k (⟨#[97]⟩ : ByteArray) 80).bind fun bt130 => ((host_Write.f k (⟨#[97]⟩ : ByteArray) 443).bind fun bt132 => ((host_Write.f k (⟨#[65]⟩ : ByteArray) 80).bind fun bt134 => (if t129 = true then (if bt130.1.toList = ([97] : List UInt8) then (if bt130.2 = 0 then (if bt132.1.toList = ([97, 58, 52, 52, 51] : List UInt8) then (if bt132.2 = 0 then (if bt134.2 = 60 then ((host_Match.f (⟨#[42, 46, 98, 46, 99]⟩ : ByteArray) (⟨#[97, 46, 98, 46, 99]⟩ : ByteArray)).bind fun t136 => (if t136 = true then ((host_Match.f (⟨#[42, 46, 98, 46, 99]⟩ : ByteArray) (⟨#[98, 46, 99]⟩ : ByteArray)).bind fun t137 => (if t137 = true then (none) else ((host_Match.f (⟨#[42, 46, 98, 46, 99]⟩ : ByteArray) (⟨#[120, 46, 97, 46, 98, 46, 99]⟩ : ByteArray)).bind fun t138 => (if t138 = true then (none) else ((host_Match.f (⟨#[98, 46, 99]⟩ : ByteArray) (⟨#[98, 46, 99]⟩ : ByteArray)).bind fun t139 => (if t139 = true then ((host_Match.f (⟨#[42, 46, 99]⟩ : ByteArray) (⟨#[42, 46, 99]⟩ : ByteArray)).bind fun t140 => (some (!t140))) else (none))))))) else (none))) else (none)) else (none)) else (none)) else (none)) else (none)) else (none)))))) else (none))) else (none))) else (none))) else (none))) = some r := by rw [if_pos rfl] at H; exact H
        clear H
        have H := H1
        clear H1
        replace H := Option.bind_eq_some_iff.mp H
        obtain ⟨t125, A70, H⟩ := H
        replace H : (if t125 = true then ((chinoiserielaw06_norms.f (⟨#[97, 58]⟩ : ByteArray) (⟨#[]⟩ : ByteArray) 0).bind fun t126 => (if t126 = true then ((chinoiserielaw06_norms.f (⟨#[45, 97]⟩ : ByteArray) (⟨#[]⟩ : ByteArray) 0).bind fun t127 => (if t127 = true then ((chinoiserielaw06_norms.f (⟨#[97, 46, 46, 98]⟩ : ByteArray) (⟨#[]⟩ : ByteArray) 0).bind fun t128 => (if t128 = true then ((chinoiserielaw06_norms.f (⟨#[]⟩ : ByteArray) (⟨#[]⟩ : ByteArray) 0).bind fun t129 => ((host_Write.f k (⟨#[97]⟩ : ByteArray) 80).bind fun bt130 => ((host_Write.f k (⟨#[97]⟩ : ByteArray) 443).bind fun bt132 => ((host_Write.f k (⟨#[65]⟩ : ByteArray) 80).bind fun bt134 => (if t129 = true then (if bt130.1.toList = ([97] : List UInt8) then (if bt130.2 = 0 then (if bt132.1.toList = ([97, 58, 52, 52, 51] : List UInt8) then (if bt132.2 = 0 then (if bt134.2 = 60 then ((host_Match.f (⟨#[42, 46, 98, 46, 99]⟩ : ByteArray) (⟨#[97, 46, 98, 46, 99]⟩ : ByteArray)).bind fun t136 => (if t136 = true then ((host_Match.f (⟨#[42, 46, 98, 46, 99]⟩ : ByteArray) (⟨#[98, 46, 99]⟩ : ByteArray)).bind fun t137 => (if t137 = true then (none) else ((host_Match.f (⟨#[42, 46, 98, 46, 99]⟩ : ByteArray) (⟨#[120, 46, 97, 46, 98, 46, 99]⟩ : ByteArray)).bind fun t138 => (if t138 = true then (none) else ((host_Match.f (⟨#[98, 46, 99]⟩ : ByteArray) (⟨#[98, 46, 99]⟩ : ByteArray)).bind fun t139 => (if t139 = true then ((host_Match.f (⟨#[42, 46, 99]⟩ : ByteArray) (⟨#[42, 46, 99]⟩ : ByteArray)).bind fun t140 => (some (!t140))) else (none))))))) else (none))) else (none)) else (none)) else (none)) else (none)) else (none)) else (none)))))) else (none))) else (none))) else (none))) else (none)) = some r := H
        have A7 := Aside0.mk A70
        clear A70
        by_cases c8 : t125 = true
        · subst c8
          have H1 : ((chinoiserielaw06_norms.f (⟨#[97, 58]⟩ : ByteArray) (⟨#[]⟩ : ByteArray) 0).bind fun t126 => (if t126 = true then ((chinoiserielaw06_norms.f (⟨#[45, 97]⟩ : ByteArray) (⟨#[]⟩ : ByteArray) 0).bind fun t127 => (if t127 = true then ((chinoiserielaw06_norms.f (⟨#[97, 46, 46, 98]⟩ : ByteArray) (⟨#[]⟩ : ByteArray) 0).bind fun t128 => (if t128 = true then ((chinoiserielaw06_norms.f (⟨#[]⟩ : ByteArray) (⟨#[]⟩ : ByteArray) 0).bind fun t129 => ((host_Write.f k (⟨#[97]⟩ : ByteArray) 80).bind fun bt130 => ((host_Write.f k (⟨#[97]⟩ : ByteArray) 443).bind fun bt132 => ((host_Write.f k (⟨#[65]⟩ : ByteArray) 80).bind fun bt134 => (if t129 = true then (if bt130.1.toList = ([97] : List UInt8) then (if bt130.2 = 0 then (if bt132.1.toList = ([97, 58, 52, 52, 51] : List UInt8) then (if bt132.2 = 0 then (if bt134.2 = 60 then ((host_Match.f (⟨#[42, 46, 98, 46, 99]⟩ : ByteArray) (⟨#[97, 46, 98, 46, 99]⟩ : ByteArray)).bind fun t136 => (if t136 = true then ((host_Match.f (⟨#[42, 46, 98, 46, 99]⟩ : ByteArray) (⟨#[98, 46, 99]⟩ : ByteArray)).bind fun t137 => (if t137 = true then (none) else ((host_Match.f (⟨#[42, 46, 98, 46, 99]⟩ : ByteArray) (⟨#[120, 46, 97, 46, 98, 46, 99]⟩ : ByteArray)).bind fun t138 => (if t138 = true then (none) else ((host_Match.f (⟨#[98, 46, 99]⟩ : ByteArray) (⟨#[98, 46, 99]⟩ : ByteArray)).bind fun t139 => (if t139 = true then ((host_Match.f (⟨#[42, 46, 99]⟩ : ByteArray) (⟨#[42, 46, 99]⟩ : ByteArray)).bind fun t140 => (some (!t140))) else (none))))))) else (none))) else (none)) else (none)) else (none)) else (none)) else (none)) else (none)))))) else (none))) else (none))) else (none))) = some r := by rw [if_pos rfl] at H; exact H
          clear H
          have H := H1
          clear H1
          replace H := Option.bind_eq_some_iff.mp H
          obtain ⟨t126, A90, H⟩ := H
          replace H : (if t126 = true then ((chinoiserielaw06_norms.f (⟨#[45, 97]⟩ : ByteArray) (⟨#[]⟩ : ByteArray) 0).bind fun t127 => (if t127 = true then ((chinoiserielaw06_norms.f (⟨#[97, 46, 46, 98]⟩ : ByteArray) (⟨#[]⟩ : ByteArray) 0).bind fun t128 => (if t128 = true then ((chinoiserielaw06_norms.f (⟨#[]⟩ : ByteArray) (⟨#[]⟩ : ByteArray) 0).bind fun t129 => ((host_Write.f k (⟨#[97]⟩ : ByteArray) 80).bind fun bt130 => ((host_Write.f k (⟨#[97]⟩ : ByteArray) 443).bind fun bt132 => ((host_Write.f k (⟨#[65]⟩ : ByteArray) 80).bind fun bt134 => (if t129 = true then (if bt130.1.toList = ([97] : List UInt8) then (if bt130.2 = 0 then (if bt132.1.toList = ([97, 58, 52, 52, 51] : List UInt8) then (if bt132.2 = 0 then (if bt134.2 = 60 then ((host_Match.f (⟨#[42, 46, 98, 46, 99]⟩ : ByteArray) (⟨#[97, 46, 98, 46, 99]⟩ : ByteArray)).bind fun t136 => (if t136 = true then ((host_Match.f (⟨#[42, 46, 98, 46, 99]⟩ : ByteArray) (⟨#[98, 46, 99]⟩ : ByteArray)).bind fun t137 => (if t137 = true then (none) else ((host_Match.f (⟨#[42, 46, 98, 46, 99]⟩ : ByteArray) (⟨#[120, 46, 97, 46, 98, 46, 99]⟩ : ByteArray)).bind fun t138 => (if t138 = true then (none) else ((host_Match.f (⟨#[98, 46, 99]⟩ : ByteArray) (⟨#[98, 46, 99]⟩ : ByteArray)).bind fun t139 => (if t139 = true then ((host_Match.f (⟨#[42, 46, 99]⟩ : ByteArray) (⟨#[42, 46, 99]⟩ : ByteArray)).bind fun t140 => (some (!t140))) else (none))))))) else (none))) else (none)) else (none)) else (none)) else (none)) else (none)) else (none)))))) else (none))) else (none))) else (none)) = some r := H
          have A9 := Aside0.mk A90
          clear A90
          by_cases c10 : t126 = true
          · subst c10
            have H1 : ((chinoiserielaw06_norms.f (⟨#[45, 97]⟩ : ByteArray) (⟨#[]⟩ : ByteArray) 0).bind fun t127 => (if t127 = true then ((chinoiserielaw06_norms.f (⟨#[97, 46, 46, 98]⟩ : ByteArray) (⟨#[]⟩ : ByteArray) 0).bind fun t128 => (if t128 = true then ((chinoiserielaw06_norms.f (⟨#[]⟩ : ByteArray) (⟨#[]⟩ : ByteArray) 0).bind fun t129 => ((host_Write.f k (⟨#[97]⟩ : ByteArray) 80).bind fun bt130 => ((host_Write.f k (⟨#[97]⟩ : ByteArray) 443).bind fun bt132 => ((host_Write.f k (⟨#[65]⟩ : ByteArray) 80).bind fun bt134 => (if t129 = true then (if bt130.1.toList = ([97] : List UInt8) then (if bt130.2 = 0 then (if bt132.1.toList = ([97, 58, 52, 52, 51] : List UInt8) then (if bt132.2 = 0 then (if bt134.2 = 60 then ((host_Match.f (⟨#[42, 46, 98, 46, 99]⟩ : ByteArray) (⟨#[97, 46, 98, 46, 99]⟩ : ByteArray)).bind fun t136 => (if t136 = true then ((host_Match.f (⟨#[42, 46, 98, 46, 99]⟩ : ByteArray) (⟨#[98, 46, 99]⟩ : ByteArray)).bind fun t137 => (if t137 = true then (none) else ((host_Match.f (⟨#[42, 46, 98, 46, 99]⟩ : ByteArray) (⟨#[120, 46, 97, 46, 98, 46, 99]⟩ : ByteArray)).bind fun t138 => (if t138 = true then (none) else ((host_Match.f (⟨#[98, 46, 99]⟩ : ByteArray) (⟨#[98, 46, 99]⟩ : ByteArray)).bind fun t139 => (if t139 = true then ((host_Match.f (⟨#[42, 46, 99]⟩ : ByteArray) (⟨#[42, 46, 99]⟩ : ByteArray)).bind fun t140 => (some (!t140))) else (none))))))) else (none))) else (none)) else (none)) else (none)) else (none)) else (none)) else (none)))))) else (none))) else (none))) = some r := by rw [if_pos rfl] at H; exact H
            clear H
            have H := H1
            clear H1
            replace H := Option.bind_eq_some_iff.mp H
            obtain ⟨t127, A110, H⟩ := H
            replace H : (if t127 = true then ((chinoiserielaw06_norms.f (⟨#[97, 46, 46, 98]⟩ : ByteArray) (⟨#[]⟩ : ByteArray) 0).bind fun t128 => (if t128 = true then ((chinoiserielaw06_norms.f (⟨#[]⟩ : ByteArray) (⟨#[]⟩ : ByteArray) 0).bind fun t129 => ((host_Write.f k (⟨#[97]⟩ : ByteArray) 80).bind fun bt130 => ((host_Write.f k (⟨#[97]⟩ : ByteArray) 443).bind fun bt132 => ((host_Write.f k (⟨#[65]⟩ : ByteArray) 80).bind fun bt134 => (if t129 = true then (if bt130.1.toList = ([97] : List UInt8) then (if bt130.2 = 0 then (if bt132.1.toList = ([97, 58, 52, 52, 51] : List UInt8) then (if bt132.2 = 0 then (if bt134.2 = 60 then ((host_Match.f (⟨#[42, 46, 98, 46, 99]⟩ : ByteArray) (⟨#[97, 46, 98, 46, 99]⟩ : ByteArray)).bind fun t136 => (if t136 = true then ((host_Match.f (⟨#[42, 46, 98, 46, 99]⟩ : ByteArray) (⟨#[98, 46, 99]⟩ : ByteArray)).bind fun t137 => (if t137 = true then (none) else ((host_Match.f (⟨#[42, 46, 98, 46, 99]⟩ : ByteArray) (⟨#[120, 46, 97, 46, 98, 46, 99]⟩ : ByteArray)).bind fun t138 => (if t138 = true then (none) else ((host_Match.f (⟨#[98, 46, 99]⟩ : ByteArray) (⟨#[98, 46, 99]⟩ : ByteArray)).bind fun t139 => (if t139 = true then ((host_Match.f (⟨#[42, 46, 99]⟩ : ByteArray) (⟨#[42, 46, 99]⟩ : ByteArray)).bind fun t140 => (some (!t140))) else (none))))))) else (none))) else (none)) else (none)) else (none)) else (none)) else (none)) else (none)))))) else (none))) else (none)) = some r := H
            have A11 := Aside0.mk A110
            clear A110
            by_cases c12 : t127 = true
            · subst c12
              have H1 : ((chinoiserielaw06_norms.f (⟨#[97, 46, 46, 98]⟩ : ByteArray) (⟨#[]⟩ : ByteArray) 0).bind fun t128 => (if t128 = true then ((chinoiserielaw06_norms.f (⟨#[]⟩ : ByteArray) (⟨#[]⟩ : ByteArray) 0).bind fun t129 => ((host_Write.f k (⟨#[97]⟩ : ByteArray) 80).bind fun bt130 => ((host_Write.f k (⟨#[97]⟩ : ByteArray) 443).bind fun bt132 => ((host_Write.f k (⟨#[65]⟩ : ByteArray) 80).bind fun bt134 => (if t129 = true then (if bt130.1.toList = ([97] : List UInt8) then (if bt130.2 = 0 then (if bt132.1.toList = ([97, 58, 52, 52, 51] : List UInt8) then (if bt132.2 = 0 then (if bt134.2 = 60 then ((host_Match.f (⟨#[42, 46, 98, 46, 99]⟩ : ByteArray) (⟨#[97, 46, 98, 46, 99]⟩ : ByteArray)).bind fun t136 => (if t136 = true then ((host_Match.f (⟨#[42, 46, 98, 46, 99]⟩ : ByteArray) (⟨#[98, 46, 99]⟩ : ByteArray)).bind fun t137 => (if t137 = true then (none) else ((host_Match.f (⟨#[42, 46, 98, 46, 99]⟩ : ByteArray) (⟨#[120, 46, 97, 46, 98, 46, 99]⟩ : ByteArray)).bind fun t138 => (if t138 = true then (none) else ((host_Match.f (⟨#[98, 46, 99]⟩ : ByteArray) (⟨#[98, 46, 99]⟩ : ByteArray)).bind fun t139 => (if t139 = true then ((host_Match.f (⟨#[42, 46, 99]⟩ : ByteArray) (⟨#[42, 46, 99]⟩ : ByteArray)).bind fun t140 => (some (!t140))) else (none))))))) else (none))) else (none)) else (none)) else (none)) else (none)) else (none)) else (none)))))) else (none))) = some r := by rw [if_pos rfl] at H; exact H
              clear H
              have H := H1
              clear H1
              replace H := Option.bind_eq_some_iff.mp H
              obtain ⟨t128, A130, H⟩ := H
              replace H : (if t128 = true then ((chinoiserielaw06_norms.f (⟨#[]⟩ : ByteArray) (⟨#[]⟩ : ByteArray) 0).bind fun t129 => ((host_Write.f k (⟨#[97]⟩ : ByteArray) 80).bind fun bt130 => ((host_Write.f k (⟨#[97]⟩ : ByteArray) 443).bind fun bt132 => ((host_Write.f k (⟨#[65]⟩ : ByteArray) 80).bind fun bt134 => (if t129 = true then (if bt130.1.toList = ([97] : List UInt8) then (if bt130.2 = 0 then (if bt132.1.toList = ([97, 58, 52, 52, 51] : List UInt8) then (if bt132.2 = 0 then (if bt134.2 = 60 then ((host_Match.f (⟨#[42, 46, 98, 46, 99]⟩ : ByteArray) (⟨#[97, 46, 98, 46, 99]⟩ : ByteArray)).bind fun t136 => (if t136 = true then ((host_Match.f (⟨#[42, 46, 98, 46, 99]⟩ : ByteArray) (⟨#[98, 46, 99]⟩ : ByteArray)).bind fun t137 => (if t137 = true then (none) else ((host_Match.f (⟨#[42, 46, 98, 46, 99]⟩ : ByteArray) (⟨#[120, 46, 97, 46, 98, 46, 99]⟩ : ByteArray)).bind fun t138 => (if t138 = true then (none) else ((host_Match.f (⟨#[98, 46, 99]⟩ : ByteArray) (⟨#[98, 46, 99]⟩ : ByteArray)).bind fun t139 => (if t139 = true then ((host_Match.f (⟨#[42, 46, 99]⟩ : ByteArray) (⟨#[42, 46, 99]⟩ : ByteArray)).bind fun t140 => (some (!t140))) else (none))))))) else (none))) else (none)) else (none)) else (none)) else (none)) else (none)) else (none)))))) else (none)) = some r := H
              have A13 := Aside0.mk A130
              clear A130
              by_cases c14 : t128 = true
              · subst c14
                have H1 : ((chinoiserielaw06_norms.f (⟨#[]⟩ : ByteArray) (⟨#[]⟩ : ByteArray) 0).bind fun t129 => ((host_Write.f k (⟨#[97]⟩ : ByteArray) 80).bind fun bt130 => ((host_Write.f k (⟨#[97]⟩ : ByteArray) 443).bind fun bt132 => ((host_Write.f k (⟨#[65]⟩ : ByteArray) 80).bind fun bt134 => (if t129 = true then (if bt130.1.toList = ([97] : List UInt8) then (if bt130.2 = 0 then (if bt132.1.toList = ([97, 58, 52, 52, 51] : List UInt8) then (if bt132.2 = 0 then (if bt134.2 = 60 then ((host_Match.f (⟨#[42, 46, 98, 46, 99]⟩ : ByteArray) (⟨#[97, 46, 98, 46, 99]⟩ : ByteArray)).bind fun t136 => (if t136 = true then ((host_Match.f (⟨#[42, 46, 98, 46, 99]⟩ : ByteArray) (⟨#[98, 46, 99]⟩ : ByteArray)).bind fun t137 => (if t137 = true then (none) else ((host_Match.f (⟨#[42, 46, 98, 46, 99]⟩ : ByteArray) (⟨#[120, 46, 97, 46, 98, 46, 99]⟩ : ByteArray)).bind fun t138 => (if t138 = true then (none) else ((host_Match.f (⟨#[98, 46, 99]⟩ : ByteArray) (⟨#[98, 46, 99]⟩ : ByteArray)).bind fun t139 => (if t139 = true then ((host_Match.f (⟨#[42, 46, 99]⟩ : ByteArray) (⟨#[42, 46, 99]⟩ : ByteArray)).bind fun t140 => (some (!t140))) else (none))))))) else (none))) else (none)) else (none)) else (none)) else (none)) else (none)) else (none)))))) = some r := by rw [if_pos rfl] at H; exact H
                clear H
                have H := H1
                clear H1
                replace H := Option.bind_eq_some_iff.mp H
                obtain ⟨t129, A150, H⟩ := H
                replace H : ((host_Write.f k (⟨#[97]⟩ : ByteArray) 80).bind fun bt130 => ((host_Write.f k (⟨#[97]⟩ : ByteArray) 443).bind fun bt132 => ((host_Write.f k (⟨#[65]⟩ : ByteArray) 80).bind fun bt134 => (if t129 = true then (if bt130.1.toList = ([97] : List UInt8) then (if bt130.2 = 0 then (if bt132.1.toList = ([97, 58, 52, 52, 51] : List UInt8) then (if bt132.2 = 0 then (if bt134.2 = 60 then ((host_Match.f (⟨#[42, 46, 98, 46, 99]⟩ : ByteArray) (⟨#[97, 46, 98, 46, 99]⟩ : ByteArray)).bind fun t136 => (if t136 = true then ((host_Match.f (⟨#[42, 46, 98, 46, 99]⟩ : ByteArray) (⟨#[98, 46, 99]⟩ : ByteArray)).bind fun t137 => (if t137 = true then (none) else ((host_Match.f (⟨#[42, 46, 98, 46, 99]⟩ : ByteArray) (⟨#[120, 46, 97, 46, 98, 46, 99]⟩ : ByteArray)).bind fun t138 => (if t138 = true then (none) else ((host_Match.f (⟨#[98, 46, 99]⟩ : ByteArray) (⟨#[98, 46, 99]⟩ : ByteArray)).bind fun t139 => (if t139 = true then ((host_Match.f (⟨#[42, 46, 99]⟩ : ByteArray) (⟨#[42, 46, 99]⟩ : ByteArray)).bind fun t140 => (some (!t140))) else (none))))))) else (none))) else (none)) else (none)) else (none)) else (none)) else (none)) else (none))))) = some r := H
                have A15 := Aside0.mk A150
                clear A150
                replace H := Option.bind_eq_some_iff.mp H
                obtain ⟨⟨t130, t131⟩, A160, H⟩ := H
                replace H : ((host_Write.f k (⟨#[97]⟩ : ByteArray) 443).bind fun bt132 => ((host_Write.f k (⟨#[65]⟩ : ByteArray) 80).bind fun bt134 => (if t129 = true then (if t130.toList = ([97] : List UInt8) then (if t131 = 0 then (if bt132.1.toList = ([97, 58, 52, 52, 51] : List UInt8) then (if bt132.2 = 0 then (if bt134.2 = 60 then ((host_Match.f (⟨#[42, 46, 98, 46, 99]⟩ : ByteArray) (⟨#[97, 46, 98, 46, 99]⟩ : ByteArray)).bind fun t136 => (if t136 = true then ((host_Match.f (⟨#[42, 46, 98, 46, 99]⟩ : ByteArray) (⟨#[98, 46, 99]⟩ : ByteArray)).bind fun t137 => (if t137 = true then (none) else ((host_Match.f (⟨#[42, 46, 98, 46, 99]⟩ : ByteArray) (⟨#[120, 46, 97, 46, 98, 46, 99]⟩ : ByteArray)).bind fun t138 => (if t138 = true then (none) else ((host_Match.f (⟨#[98, 46, 99]⟩ : ByteArray) (⟨#[98, 46, 99]⟩ : ByteArray)).bind fun t139 => (if t139 = true then ((host_Match.f (⟨#[42, 46, 99]⟩ : ByteArray) (⟨#[42, 46, 99]⟩ : ByteArray)).bind fun t140 => (some (!t140))) else (none))))))) else (none))) else (none)) else (none)) else (none)) else (none)) else (none)) else (none)))) = some r := H
                have A16 := Aside0.mk A160
                clear A160
                replace H := Option.bind_eq_some_iff.mp H
                obtain ⟨⟨t132, t133⟩, A170, H⟩ := H
                replace H : ((host_Write.f k (⟨#[65]⟩ : ByteArray) 80).bind fun bt134 => (if t129 = true then (if t130.toList = ([97] : List UInt8) then (if t131 = 0 then (if t132.toList = ([97, 58, 52, 52, 51] : List UInt8) then (if t133 = 0 then (if bt134.2 = 60 then ((host_Match.f (⟨#[42, 46, 98, 46, 99]⟩ : ByteArray) (⟨#[97, 46, 98, 46, 99]⟩ : ByteArray)).bind fun t136 => (if t136 = true then ((host_Match.f (⟨#[42, 46, 98, 46, 99]⟩ : ByteArray) (⟨#[98, 46, 99]⟩ : ByteArray)).bind fun t137 => (if t137 = true then (none) else ((host_Match.f (⟨#[42, 46, 98, 46, 99]⟩ : ByteArray) (⟨#[120, 46, 97, 46, 98, 46, 99]⟩ : ByteArray)).bind fun t138 => (if t138 = true then (none) else ((host_Match.f (⟨#[98, 46, 99]⟩ : ByteArray) (⟨#[98, 46, 99]⟩ : ByteArray)).bind fun t139 => (if t139 = true then ((host_Match.f (⟨#[42, 46, 99]⟩ : ByteArray) (⟨#[42, 46, 99]⟩ : ByteArray)).bind fun t140 => (some (!t140))) else (none))))))) else (none))) else (none)) else (none)) else (none)) else (none)) else (none)) else (none))) = some r := H
                have A17 := Aside0.mk A170
                clear A170
                replace H := Option.bind_eq_some_iff.mp H
                obtain ⟨⟨t134, t135⟩, A180, H⟩ := H
                replace H : (if t129 = true then (if t130.toList = ([97] : List UInt8) then (if t131 = 0 then (if t132.toList = ([97, 58, 52, 52, 51] : List UInt8) then (if t133 = 0 then (if t135 = 60 then ((host_Match.f (⟨#[42, 46, 98, 46, 99]⟩ : ByteArray) (⟨#[97, 46, 98, 46, 99]⟩ : ByteArray)).bind fun t136 => (if t136 = true then ((host_Match.f (⟨#[42, 46, 98, 46, 99]⟩ : ByteArray) (⟨#[98, 46, 99]⟩ : ByteArray)).bind fun t137 => (if t137 = true then (none) else ((host_Match.f (⟨#[42, 46, 98, 46, 99]⟩ : ByteArray) (⟨#[120, 46, 97, 46, 98, 46, 99]⟩ : ByteArray)).bind fun t138 => (if t138 = true then (none) else ((host_Match.f (⟨#[98, 46, 99]⟩ : ByteArray) (⟨#[98, 46, 99]⟩ : ByteArray)).bind fun t139 => (if t139 = true then ((host_Match.f (⟨#[42, 46, 99]⟩ : ByteArray) (⟨#[42, 46, 99]⟩ : ByteArray)).bind fun t140 => (some (!t140))) else (none))))))) else (none))) else (none)) else (none)) else (none)) else (none)) else (none)) else (none)) = some r := H
                have A18 := Aside0.mk A180
                clear A180
                by_cases c19 : t129 = true
                · subst c19
                  have H1 : (if t130.toList = ([97] : List UInt8) then (if t131 = 0 then (if t132.toList = ([97, 58, 52, 52, 51] : List UInt8) then (if t133 = 0 then (if t135 = 60 then ((host_Match.f (⟨#[42, 46, 98, 46, 99]⟩ : ByteArray) (⟨#[97, 46, 98, 46, 99]⟩ : ByteArray)).bind fun t136 => (if t136 = true then ((host_Match.f (⟨#[42, 46, 98, 46, 99]⟩ : ByteArray) (⟨#[98, 46, 99]⟩ : ByteArray)).bind fun t137 => (if t137 = true then (none) else ((host_Match.f (⟨#[42, 46, 98, 46, 99]⟩ : ByteArray) (⟨#[120, 46, 97, 46, 98, 46, 99]⟩ : ByteArray)).bind fun t138 => (if t138 = true then (none) else ((host_Match.f (⟨#[98, 46, 99]⟩ : ByteArray) (⟨#[98, 46, 99]⟩ : ByteArray)).bind fun t139 => (if t139 = true then ((host_Match.f (⟨#[42, 46, 99]⟩ : ByteArray) (⟨#[42, 46, 99]⟩ : ByteArray)).bind fun t140 => (some (!t140))) else (none))))))) else (none))) else (none)) else (none)) else (none)) else (none)) else (none)) = some r := by rw [if_pos rfl] at H; exact H
                  clear H
                  have H := H1
                  clear H1
                  by_cases c20 : t130.toList = ([97] : List UInt8)
                  · rw [if_pos c20] at H
                    have c20b0 : (t130.toList == ([97] : List UInt8)) = true := beq_iff_eq.mpr c20
                    have c20b1 : (t130.toList != ([97] : List UInt8)) = false := bne_eq_false_iff_eq.mpr c20
                    clear c20
                    by_cases c21 : t131 = 0
                    · rw [if_pos c21] at H
                      have c21b0 : (t131 == 0) = true := beq_iff_eq.mpr c21
                      have c21b1 : (t131 != 0) = false := bne_eq_false_iff_eq.mpr c21
                      clear c21
                      by_cases c22 : t132.toList = ([97, 58, 52, 52, 51] : List UInt8)
                      · rw [if_pos c22] at H
                        have c22b0 : (t132.toList == ([97, 58, 52, 52, 51] : List UInt8)) = true := beq_iff_eq.mpr c22
                        have c22b1 : (t132.toList != ([97, 58, 52, 52, 51] : List UInt8)) = false := bne_eq_false_iff_eq.mpr c22
                        clear c22
                        by_cases c23 : t133 = 0
                        · rw [if_pos c23] at H
                          have c23b0 : (t133 == 0) = true := beq_iff_eq.mpr c23
                          have c23b1 : (t133 != 0) = false := bne_eq_false_iff_eq.mpr c23
                          clear c23
                          by_cases c24 : t135 = 60
                          · rw [if_pos c24] at H
                            have c24b0 : (t135 == 60) = true := beq_iff_eq.mpr c24
                            have c24b1 : (t135 != 60) = false := bne_eq_false_iff_eq.mpr c24
                            clear c24
                            replace H := Option.bind_eq_some_iff.mp H
                            obtain ⟨t136, A250, H⟩ := H
                            replace H : (if t136 = true then ((host_Match.f (⟨#[42, 46, 98, 46, 99]⟩ : ByteArray) (⟨#[98, 46, 99]⟩ : ByteArray)).bind fun t137 => (if t137 = true then (none) else ((host_Match.f (⟨#[42, 46, 98, 46, 99]⟩ : ByteArray) (⟨#[120, 46, 97, 46, 98, 46, 99]⟩ : ByteArray)).bind fun t138 => (if t138 = true then (none) else ((host_Match.f (⟨#[98, 46, 99]⟩ : ByteArray) (⟨#[98, 46, 99]⟩ : ByteArray)).bind fun t139 => (if t139 = true then ((host_Match.f (⟨#[42, 46, 99]⟩ : ByteArray) (⟨#[42, 46, 99]⟩ : ByteArray)).bind fun t140 => (some (!t140))) else (none))))))) else (none)) = some r := H
                            have A25 := Aside0.mk A250
                            clear A250
                            by_cases c26 : t136 = true
                            · subst c26
                              have H1 : ((host_Match.f (⟨#[42, 46, 98, 46, 99]⟩ : ByteArray) (⟨#[98, 46, 99]⟩ : ByteArray)).bind fun t137 => (if t137 = true then (none) else ((host_Match.f (⟨#[42, 46, 98, 46, 99]⟩ : ByteArray) (⟨#[120, 46, 97, 46, 98, 46, 99]⟩ : ByteArray)).bind fun t138 => (if t138 = true then (none) else ((host_Match.f (⟨#[98, 46, 99]⟩ : ByteArray) (⟨#[98, 46, 99]⟩ : ByteArray)).bind fun t139 => (if t139 = true then ((host_Match.f (⟨#[42, 46, 99]⟩ : ByteArray) (⟨#[42, 46, 99]⟩ : ByteArray)).bind fun t140 => (some (!t140))) else (none))))))) = some r := by rw [if_pos rfl] at H; exact H
                              clear H
                              have H := H1
                              clear H1
                              replace H := Option.bind_eq_some_iff.mp H
                              obtain ⟨t137, A270, H⟩ := H
                              replace H : (if t137 = true then (none) else ((host_Match.f (⟨#[42, 46, 98, 46, 99]⟩ : ByteArray) (⟨#[120, 46, 97, 46, 98, 46, 99]⟩ : ByteArray)).bind fun t138 => (if t138 = true then (none) else ((host_Match.f (⟨#[98, 46, 99]⟩ : ByteArray) (⟨#[98, 46, 99]⟩ : ByteArray)).bind fun t139 => (if t139 = true then ((host_Match.f (⟨#[42, 46, 99]⟩ : ByteArray) (⟨#[42, 46, 99]⟩ : ByteArray)).bind fun t140 => (some (!t140))) else (none)))))) = some r := H
                              have A27 := Aside0.mk A270
                              clear A270
                              by_cases c28 : t137 = true
                              · subst c28
                                have H1 : (none) = some r := by rw [if_pos rfl] at H; exact H
                                clear H
                                have H := H1
                                clear H1
                                exact absurd H (by simp)
                              · replace c28 := Bool.eq_false_iff.mpr c28
                                subst c28
                                have H1 : ((host_Match.f (⟨#[42, 46, 98, 46, 99]⟩ : ByteArray) (⟨#[120, 46, 97, 46, 98, 46, 99]⟩ : ByteArray)).bind fun t138 => (if t138 = true then (none) else ((host_Match.f (⟨#[98, 46, 99]⟩ : ByteArray) (⟨#[98, 46, 99]⟩ : ByteArray)).bind fun t139 => (if t139 = true then ((host_Match.f (⟨#[42, 46, 99]⟩ : ByteArray) (⟨#[42, 46, 99]⟩ : ByteArray)).bind fun t140 => (some (!t140))) else (none))))) = some r := by rw [if_neg (show ¬ (false = true) by decide)] at H; exact H
                                clear H
                                have H := H1
                                clear H1
                                replace H := Option.bind_eq_some_iff.mp H
                                obtain ⟨t138, A290, H⟩ := H
                                replace H : (if t138 = true then (none) else ((host_Match.f (⟨#[98, 46, 99]⟩ : ByteArray) (⟨#[98, 46, 99]⟩ : ByteArray)).bind fun t139 => (if t139 = true then ((host_Match.f (⟨#[42, 46, 99]⟩ : ByteArray) (⟨#[42, 46, 99]⟩ : ByteArray)).bind fun t140 => (some (!t140))) else (none)))) = some r := H
                                have A29 := Aside0.mk A290
                                clear A290
                                by_cases c30 : t138 = true
                                · subst c30
                                  have H1 : (none) = some r := by rw [if_pos rfl] at H; exact H
                                  clear H
                                  have H := H1
                                  clear H1
                                  exact absurd H (by simp)
                                · replace c30 := Bool.eq_false_iff.mpr c30
                                  subst c30
                                  have H1 : ((host_Match.f (⟨#[98, 46, 99]⟩ : ByteArray) (⟨#[98, 46, 99]⟩ : ByteArray)).bind fun t139 => (if t139 = true then ((host_Match.f (⟨#[42, 46, 99]⟩ : ByteArray) (⟨#[42, 46, 99]⟩ : ByteArray)).bind fun t140 => (some (!t140))) else (none))) = some r := by rw [if_neg (show ¬ (false = true) by decide)] at H; exact H
                                  clear H
                                  have H := H1
                                  clear H1
                                  replace H := Option.bind_eq_some_iff.mp H
                                  obtain ⟨t139, A310, H⟩ := H
                                  replace H : (if t139 = true then ((host_Match.f (⟨#[42, 46, 99]⟩ : ByteArray) (⟨#[42, 46, 99]⟩ : ByteArray)).bind fun t140 => (some (!t140))) else (none)) = some r := H
                                  have A31 := Aside0.mk A310
                                  clear A310
                                  by_cases c32 : t139 = true
                                  · subst c32
                                    have H1 : ((host_Match.f (⟨#[42, 46, 99]⟩ : ByteArray) (⟨#[42, 46, 99]⟩ : ByteArray)).bind fun t140 => (some (!t140))) = some r := by rw [if_pos rfl] at H; exact H
                                    clear H
                                    have H := H1
                                    clear H1
                                    replace H := Option.bind_eq_some_iff.mp H
                                    obtain ⟨t140, A330, H⟩ := H
                                    replace H : (some (!t140)) = some r := H
                                    have A33 := Aside0.mk A330
                                    clear A330
                                    obtain rfl := Option.some.inj H
                                    go_enter Tryd.func17, Tryd.ntmps17
                                    go_wp2_with (first | ((with_reducible refine gate_callee (f := 35) rfl ?_); refine goesL_ (some 8) rfl rfl Tryd.func35 (by kernel_rfl) rfl #[.string (⟨#[83, 104, 111, 112, 46, 69, 120, 97, 109, 112, 108, 101, 46, 111, 114, 103]⟩ : ByteArray), .string (⟨#[115, 104, 111, 112, 46, 101, 120, 97, 109, 112, 108, 101, 46, 111, 114, 103]⟩ : ByteArray), .int .i64 80] rfl (by (try simp only [List.map_toArray, List.map_cons, List.map_nil]); first | done | rfl | (simp only [List.length_drop, List.length_take]; rfl)) ?_; (with_reducible refine (chinoiserielaw06_norms.calls (⟨#[83, 104, 111, 112, 46, 69, 120, 97, 109, 112, 108, 101, 46, 111, 114, 103]⟩ : ByteArray) (⟨#[115, 104, 111, 112, 46, 101, 120, 97, 109, 112, 108, 101, 46, 111, 114, 103]⟩ : ByteArray) 80 true _ A1.out).mono ?_); rintro e w34 ⟨rfl, hb⟩; refine ⟨_, rfl, ?_⟩; have n0_ := Aside0.mk (below_step (by repeat (first | (with_reducible first | exact HB.out | apply below_alloc | apply pw_below_drewN | apply below_drew1) | exact HB.out)) hb); clear HB; have HB := n0_; clear n0_; (try clear hb); (try clear hb2); (try clear hk); (try clear hi)) | (go_at_call 35; (with_reducible refine (chinoiserielaw06_norms.calls (⟨#[97, 58, 56, 48, 56, 48]⟩ : ByteArray) (⟨#[97]⟩ : ByteArray) 8080 true _ A3.out).mono ?_); rintro e w35 ⟨rfl, hb⟩; have n0_ := Aside0.mk (below_step (by repeat (first | (with_reducible first | exact HB.out | apply below_alloc | apply pw_below_drewN | apply below_drew1) | exact HB.out)) hb); clear HB; have HB := n0_; clear n0_; (try clear hb); (try clear hb2); (try clear hk); (try clear hi)) | (go_at_call 35; (with_reducible refine (chinoiserielaw06_norms.calls (⟨#[97, 58, 56, 48]⟩ : ByteArray) (⟨#[97]⟩ : ByteArray) 80 true _ A5.out).mono ?_); rintro e w36 ⟨rfl, hb⟩; have n0_ := Aside0.mk (below_step (by repeat (first | (with_reducible first | exact HB.out | apply below_alloc | apply pw_below_drewN | apply below_drew1) | exact HB.out)) hb); clear HB; have HB := n0_; clear n0_; (try clear hb); (try clear hb2); (try clear hk); (try clear hi)) | (go_at_call 35; (with_reducible refine (chinoiserielaw06_norms.calls (⟨#[97, 58, 48]⟩ : ByteArray) (⟨#[]⟩ : ByteArray) 0 true _ A7.out).mono ?_); rintro e w37 ⟨rfl, hb⟩; have n0_ := Aside0.mk (below_step (by repeat (first | (with_reducible first | exact HB.out | apply below_alloc | apply pw_below_drewN | apply below_drew1) | exact HB.out)) hb); clear HB; have HB := n0_; clear n0_; (try clear hb); (try clear hb2); (try clear hk); (try clear hi)) | (go_at_call 35; (with_reducible refine (chinoiserielaw06_norms.calls (⟨#[97, 58]⟩ : ByteArray) (⟨#[]⟩ : ByteArray) 0 true _ A9.out).mono ?_); rintro e w38 ⟨rfl, hb⟩; have n0_ := Aside0.mk (below_step (by repeat (first | (with_reducible first | exact HB.out | apply below_alloc | apply pw_below_drewN | apply below_drew1) | exact HB.out)) hb); clear HB; have HB := n0_; clear n0_; (try clear hb); (try clear hb2); (try clear hk); (try clear hi)) | (go_at_call 35; (with_reducible refine (chinoiserielaw06_norms.calls (⟨#[45, 97]⟩ : ByteArray) (⟨#[]⟩ : ByteArray) 0 true _ A11.out).mono ?_); rintro e w39 ⟨rfl, hb⟩; have n0_ := Aside0.mk (below_step (by repeat (first | (with_reducible first | exact HB.out | apply below_alloc | apply pw_below_drewN | apply below_drew1) | exact HB.out)) hb); clear HB; have HB := n0_; clear n0_; (try clear hb); (try clear hb2); (try clear hk); (try clear hi)) | (go_at_call 35; (with_reducible refine (chinoiserielaw06_norms.calls (⟨#[97, 46, 46, 98]⟩ : ByteArray) (⟨#[]⟩ : ByteArray) 0 true _ A13.out).mono ?_); rintro e w40 ⟨rfl, hb⟩; have n0_ := Aside0.mk (below_step (by repeat (first | (with_reducible first | exact HB.out | apply below_alloc | apply pw_below_drewN | apply below_drew1) | exact HB.out)) hb); clear HB; have HB := n0_; clear n0_; (try clear hb); (try clear hb2); (try clear hk); (try clear hi)) | (go_at_call 35; (with_reducible refine (chinoiserielaw06_norms.calls (⟨#[]⟩ : ByteArray) (⟨#[]⟩ : ByteArray) 0 true _ A15.out).mono ?_); rintro e w41 ⟨rfl, hb⟩; have n0_ := Aside0.mk (below_step (by repeat (first | (with_reducible first | exact HB.out | apply below_alloc | apply pw_below_drewN | apply below_drew1) | exact HB.out)) hb); clear HB; have HB := n0_; clear n0_; (try clear hb); (try clear hb2); (try clear hk); (try clear hi)) | ((with_reducible refine gate_callee (f := 18) rfl ?_); refine goesL_ (some 31) rfl rfl Tryd.func18 (by kernel_rfl) rfl #[.string (⟨#[97]⟩ : ByteArray), .int .i64 80] rfl (by (try simp only [List.map_toArray, List.map_cons, List.map_nil]); first | done | rfl | (simp only [List.length_drop, List.length_take]; rfl)) ?_; (with_reducible refine (host_Write.calls k (⟨#[97]⟩ : ByteArray) 80 t130 t131 _ A16.out).mono ?_); rintro e w42 ⟨rfl, hb⟩; refine ⟨_, rfl, ?_⟩; have n0_ := Aside0.mk (below_step (by repeat (first | (with_reducible first | exact HB.out | apply below_alloc | apply pw_below_drewN | apply below_drew1) | exact HB.out)) hb); clear HB; have HB := n0_; clear n0_; (try clear hb); (try clear hb2); (try clear hk); (try clear hi)) | ((with_reducible refine gate_callee (f := 18) rfl ?_); refine goesL_ (some 35) rfl rfl Tryd.func18 (by kernel_rfl) rfl #[.string (⟨#[97]⟩ : ByteArray), .int .i64 443] rfl (by (try simp only [List.map_toArray, List.map_cons, List.map_nil]); first | done | rfl | (simp only [List.length_drop, List.length_take]; rfl)) ?_; (with_reducible refine (host_Write.calls k (⟨#[97]⟩ : ByteArray) 443 t132 t133 _ A17.out).mono ?_); rintro e w43 ⟨rfl, hb⟩; refine ⟨_, rfl, ?_⟩; have n0_ := Aside0.mk (below_step (by repeat (first | (with_reducible first | exact HB.out | apply below_alloc | apply pw_below_drewN | apply below_drew1) | exact HB.out)) hb); clear HB; have HB := n0_; clear n0_; (try clear hb); (try clear hb2); (try clear hk); (try clear hi)) | ((with_reducible refine gate_callee (f := 18) rfl ?_); refine goesL_ (some 39) rfl rfl Tryd.func18 (by kernel_rfl) rfl #[.string (⟨#[65]⟩ : ByteArray), .int .i64 80] rfl (by (try simp only [List.map_toArray, List.map_cons, List.map_nil]); first | done | rfl | (simp only [List.length_drop, List.length_take]; rfl)) ?_; (with_reducible refine (host_Write.calls k (⟨#[65]⟩ : ByteArray) 80 t134 t135 _ A18.out).mono ?_); rintro e w44 ⟨rfl, hb⟩; refine ⟨_, rfl, ?_⟩; have n0_ := Aside0.mk (below_step (by repeat (first | (with_reducible first | exact HB.out | apply below_alloc | apply pw_below_drewN | apply below_drew1) | exact HB.out)) hb); clear HB; have HB := n0_; clear n0_; (try clear hb); (try clear hb2); (try clear hk); (try clear hi)) | (go_at_call 20; (with_reducible refine (host_Match.calls (⟨#[42, 46, 98, 46, 99]⟩ : ByteArray) (⟨#[97, 46, 98, 46, 99]⟩ : ByteArray) true _ A25.out).mono ?_); rintro e w45 ⟨rfl, hb⟩; have n0_ := Aside0.mk (below_step (by repeat (first | (with_reducible first | exact HB.out | apply below_alloc | apply pw_below_drewN | apply below_drew1) | exact HB.out)) hb); clear HB; have HB := n0_; clear n0_; (try clear hb); (try clear hb2); (try clear hk); (try clear hi)) | (go_at_call 20; (with_reducible refine (host_Match.calls (⟨#[42, 46, 98, 46, 99]⟩ : ByteArray) (⟨#[98, 46, 99]⟩ : ByteArray) false _ A27.out).mono ?_); rintro e w46 ⟨rfl, hb⟩; have n0_ := Aside0.mk (below_step (by repeat (first | (with_reducible first | exact HB.out | apply below_alloc | apply pw_below_drewN | apply below_drew1) | exact HB.out)) hb); clear HB; have HB := n0_; clear n0_; (try clear hb); (try clear hb2); (try clear hk); (try clear hi)) | (go_at_call 20; (with_reducible refine (host_Match.calls (⟨#[42, 46, 98, 46, 99]⟩ : ByteArray) (⟨#[120, 46, 97, 46, 98, 46, 99]⟩ : ByteArray) false _ A29.out).mono ?_); rintro e w47 ⟨rfl, hb⟩; have n0_ := Aside0.mk (below_step (by repeat (first | (with_reducible first | exact HB.out | apply below_alloc | apply pw_below_drewN | apply below_drew1) | exact HB.out)) hb); clear HB; have HB := n0_; clear n0_; (try clear hb); (try clear hb2); (try clear hk); (try clear hi)) | (go_at_call 20; (with_reducible refine (host_Match.calls (⟨#[98, 46, 99]⟩ : ByteArray) (⟨#[98, 46, 99]⟩ : ByteArray) true _ A31.out).mono ?_); rintro e w48 ⟨rfl, hb⟩; have n0_ := Aside0.mk (below_step (by repeat (first | (with_reducible first | exact HB.out | apply below_alloc | apply pw_below_drewN | apply below_drew1) | exact HB.out)) hb); clear HB; have HB := n0_; clear n0_; (try clear hb); (try clear hb2); (try clear hk); (try clear hi)) | (go_at_call 20; (with_reducible refine (host_Match.calls (⟨#[42, 46, 99]⟩ : ByteArray) (⟨#[42, 46, 99]⟩ : ByteArray) t140 _ A33.out).mono ?_); rintro e w49 ⟨rfl, hb⟩; have n0_ := Aside0.mk (below_step (by repeat (first | (with_reducible first | exact HB.out | apply below_alloc | apply pw_below_drewN | apply below_drew1) | exact HB.out)) hb); clear HB; have HB := n0_; clear n0_; (try clear hb); (try clear hb2); (try clear hk); (try clear hi)))
                                    go_ret
                                    exact ⟨by first | rfl | (simp [errW_none, errW_some] <;> rfl) | (simp [*, errW_none, errW_some] <;> rfl), by repeat (first | (with_reducible first | exact HB.out | apply below_alloc | apply pw_below_drewN | apply below_drew1) | exact HB.out)⟩
                                  · replace c32 := Bool.eq_false_iff.mpr c32
                                    subst c32
                                    have H1 : (none) = some r := by rw [if_neg (show ¬ (false = true) by decide)] at H; exact H
                                    clear H
                                    have H := H1
                                    clear H1
                                    exact absurd H (by simp)
                            · replace c26 := Bool.eq_false_iff.mpr c26
                              subst c26
                              have H1 : (none) = some r := by rw [if_neg (show ¬ (false = true) by decide)] at H; exact H
                              clear H
                              have H := H1
                              clear H1
                              exact absurd H (by simp)
                          · rw [if_neg c24] at H
                            exact absurd H (by simp)
                        · rw [if_neg c23] at H
                          exact absurd H (by simp)
                      · rw [if_neg c22] at H
                        exact absurd H (by simp)
                    · rw [if_neg c21] at H
                      exact absurd H (by simp)
                  · rw [if_neg c20] at H
                    exact absurd H (by simp)
                · replace c19 := Bool.eq_false_iff.mpr c19
                  subst c19
                  have H1 : (none) = some r := by rw [if_neg (show ¬ (false = true) by decide)] at H; exact H
                  clear H
                  have H := H1
                  clear H1
                  exact absurd H (by simp)
              · replace c14 := Bool.eq_false_iff.mpr c14
                subst c14
                have H1 : (none) = some r := by rw [if_neg (show ¬ (false = true) by decide)] at H; exact H
                clear H
                have H := H1
                clear H1
                exact absurd H (by simp)
            · replace c12 := Bool.eq_false_iff.mpr c12
              subst c12
              have H1 : (none) = some r := by rw [if_neg (show ¬ (false = true) by decide)] at H; exact H
              clear H
              have H := H1
              clear H1
              exact absurd H (by simp)
          · replace c10 := Bool.eq_false_iff.mpr c10
            subst c10
            have H1 : (none) = some r := by rw [if_neg (show ¬ (false = true) by decide)] at H; exact H
            clear H
            have H := H1
            clear H1
            exact absurd H (by simp)
        · replace c8 := Bool.eq_false_iff.mpr c8
          subst c8
          have H1 : (none) = some r := by rw [if_neg (show ¬ (false = true) by decide)] at H; exact H
          clear H
          have H := H1
          clear H1
          exact absurd H (by simp)
      · replace c6 := Bool.eq_false_iff.mpr c6
        subst c6
        have H1 : (none) = some r := by rw [if_neg (show ¬ (false = true) by decide)] at H; exact H
        clear H
        have H := H1
        clear H1
        exact absurd H (by simp)
    · replace c4 := Bool.eq_false_iff.mpr c4
      subst c4
      have H1 : (none) = some r := by rw [if_neg (show ¬ (false = true) by decide)] at H; exact H
      clear H
      have H := H1
      clear H1
      exact absurd H (by simp)
  · replace c2 := Bool.eq_false_iff.mpr c2
    subst c2
    have H1 : (none) = some r := by rw [if_neg (show ¬ (false = true) by decide)] at H; exact H
    clear H
    have H := H1
    clear H1
    exact absurd H (by simp)

end Go.Proofs.YtipmnecfbbjahaaDoor.PHost
