-- Printed by a program of this session (wip/tools/xprint.py) out of the translation. Not trusted: Lean checks it.
import Derived.Test.YtipmnecfbbjahaaDoorPHostx0
import Derived.Test.YtipmnecfbbjahaaDoorPHostx2
import Derived.Test.YtipmnecfbbjahaaDoorPHostx3
import Derived.Test.YtipmnecfbbjahaaDoorPHostx5
import Derived.Test.YtipmnecfbbjahaaDoorExt0
import Derived.Test.YtipmnecfbbjahaaDoorExtD
namespace Go.Proofs.YtipmnecfbbjahaaDoor.PHost
open Go.RowKit Go.Proofs.YtipmnecfbbjahaaDoorW.PrintWords Go.Proofs.YtipmnecfbbjahaaDoorW.PrintLast Go.Proofs.YtipmnecfbbjahaaDoorW.PrintMore
attribute [local go_sem] max2_int min2_int max_two min_two max_three min_three max_four min_four   -- for this text's walks alone
set_option linter.unusedVariables false
set_option linter.unusedSimpArgs false

/-! ### chinoiserielaw06_HostWild: function 7 -/
mutual
def chinoiserielaw06_HostWild.j0 : Nat → Int → ByteArray → ByteArray → ByteArray → Bool → Option (Bool)
  | 0, _, _, _, _, _ => none
  | k + 1, x2, x7, x8, x9, x32 => if x32 = true then (if (x9.size : Int) > 60 then ((chinoiserielaw06_works.f k).bind fun t219 => (some t219)) else (some false)) else ((chinoiserielaw06_part.f x2).bind fun t220 => (if t220.size + 1 ≤ 9223372036854775807 then (if (t220 ++ (⟨#[46]⟩ : ByteArray)).size + x7.size ≤ 9223372036854775807 then (chinoiserielaw06_HostWild.l0 k x7 x8 x9 ((t220 ++ (⟨#[46]⟩ : ByteArray)) ++ x7) false 0) else (none)) else (none)))
def chinoiserielaw06_HostWild.j2 : Nat → ByteArray → ByteArray → ByteArray → ByteArray → Bool → Option (Bool)
  | 0, _, _, _, _, _ => none
  | k + 1, x7, x8, x9, x10, x11 => (host_Match.f x9 x10).bind fun t221 => (if (t221 == (decide ((x10.size : Int) ≤ 60))) = true then ((host_Match.f x9 x8).bind fun t222 => (if (t222 == x11) = true then ((host_Match.f x9 x7).bind fun t223 => (if t223 = true then (some false) else (if 2 + x10.size ≤ 9223372036854775807 then ((host_Match.f x9 ((⟨#[122, 46]⟩ : ByteArray) ++ x10)).bind fun t224 => (if t224 = true then (some false) else ((host_Match.f x7 x8).bind fun t225 => (if (t225 == (x7.toList == x8.toList)) = true then ((chinoiserielaw06_works.f k).bind fun t226 => (some t226)) else (some false))))) else (none)))) else (some false))) else (some false))
def chinoiserielaw06_HostWild.l0 : Nat → ByteArray → ByteArray → ByteArray → ByteArray → Bool → Int → Option (Bool)
  | 0, _, _, _, _, _, _ => none
  | k + 1, x7, x8, x9, x10, x11, x12 => if x12 < (x8.size : Int) then (if 0 ≤ x12 then (if (bt x8 x12) = 46 then (if 0 ≤ (wrap64 (x12 + 1)) then (if (wrap64 (x12 + 1)) ≤ (x8.size : Int) then (chinoiserielaw06_HostWild.j2 k x7 x8 x9 x10 ((x8.extract ((wrap64 (x12 + 1)) : Int).toNat x8.size).toList == x7.toList)) else (none)) else (none)) else (chinoiserielaw06_HostWild.l0 k x7 x8 x9 x10 x11 (wrap64 (x12 + 1)))) else (none)) else (chinoiserielaw06_HostWild.j2 k x7 x8 x9 x10 x11)
end
def chinoiserielaw06_HostWild.f (k : Nat) (l0 : List Int) (l1 : List Int) (a2 : Int) : Option (Bool) := (chinoiserielaw06_plain.f k l0).bind fun t215 => ((chinoiserielaw06_plain.f k l1).bind fun t216 => (if 2 + t215.size ≤ 9223372036854775807 then (if (((⟨#[42, 46]⟩ : ByteArray) ++ t215).size : Int) > 60 then (chinoiserielaw06_HostWild.j0 k a2 t215 t216 ((⟨#[42, 46]⟩ : ByteArray) ++ t215) true) else ((host_Pattern.f ((⟨#[42, 46]⟩ : ByteArray) ++ t215)).bind fun t217 => (if t217 = 0 then ((host_Plain.f ((⟨#[42, 46]⟩ : ByteArray) ++ t215)).bind fun t218 => (chinoiserielaw06_HostWild.j0 k a2 t215 t216 ((⟨#[42, 46]⟩ : ByteArray) ++ t215) (t218 != 60))) else (chinoiserielaw06_HostWild.j0 k a2 t215 t216 ((⟨#[42, 46]⟩ : ByteArray) ++ t215) true)))) else (none)))
theorem chinoiserielaw06_HostWild.mono_l : ∀ k, (∀ y0 y1 y2 y3 y4, LeO (chinoiserielaw06_HostWild.j0 k y0 y1 y2 y3 y4) (chinoiserielaw06_HostWild.j0 (k + 1) y0 y1 y2 y3 y4)) ∧ (∀ y0 y1 y2 y3 y4, LeO (chinoiserielaw06_HostWild.j2 k y0 y1 y2 y3 y4) (chinoiserielaw06_HostWild.j2 (k + 1) y0 y1 y2 y3 y4)) ∧ (∀ y0 y1 y2 y3 y4 y5, LeO (chinoiserielaw06_HostWild.l0 k y0 y1 y2 y3 y4 y5) (chinoiserielaw06_HostWild.l0 (k + 1) y0 y1 y2 y3 y4 y5))
  | 0 => ⟨fun _ _ _ _ _ r h => by simp [chinoiserielaw06_HostWild.j0] at h, fun _ _ _ _ _ r h => by simp [chinoiserielaw06_HostWild.j2] at h, fun _ _ _ _ _ _ r h => by simp [chinoiserielaw06_HostWild.l0] at h⟩
  | k + 1 => by
    obtain ⟨ih0, ih1, ih2⟩ := chinoiserielaw06_HostWild.mono_l k
    refine ⟨?_, ?_, ?_⟩
    · intro y0 y1 y2 y3 y4
      unfold chinoiserielaw06_HostWild.j0
      repeat' first
      | (with_reducible exact ih0 _ _ _ _ _)
      | (with_reducible exact ih1 _ _ _ _ _)
      | (with_reducible exact ih2 _ _ _ _ _ _)
      | (with_reducible exact chinoiserielaw06_plain.mono _ _)
      | (with_reducible exact chinoiserielaw06_works.mono _)
      | (with_reducible exact LeO.refl _)
      | (with_reducible exact LeO.none _)
      | (with_reducible refine LeO.ite ?_ ?_)
      | (with_reducible refine LeO.bind ?_ (fun _ => ?_))
      | exact ih0 _ _ _ _ _
      | exact ih1 _ _ _ _ _
      | exact ih2 _ _ _ _ _ _
      | exact chinoiserielaw06_plain.mono _ _
      | exact chinoiserielaw06_works.mono _
      | exact LeO.none _
      | refine LeO.ite ?_ ?_
      | refine LeO.bind ?_ (fun _ => ?_)
    · intro y0 y1 y2 y3 y4
      unfold chinoiserielaw06_HostWild.j2
      repeat' first
      | (with_reducible exact ih0 _ _ _ _ _)
      | (with_reducible exact ih1 _ _ _ _ _)
      | (with_reducible exact ih2 _ _ _ _ _ _)
      | (with_reducible exact chinoiserielaw06_plain.mono _ _)
      | (with_reducible exact chinoiserielaw06_works.mono _)
      | (with_reducible exact LeO.refl _)
      | (with_reducible exact LeO.none _)
      | (with_reducible refine LeO.ite ?_ ?_)
      | (with_reducible refine LeO.bind ?_ (fun _ => ?_))
      | exact ih0 _ _ _ _ _
      | exact ih1 _ _ _ _ _
      | exact ih2 _ _ _ _ _ _
      | exact chinoiserielaw06_plain.mono _ _
      | exact chinoiserielaw06_works.mono _
      | exact LeO.none _
      | refine LeO.ite ?_ ?_
      | refine LeO.bind ?_ (fun _ => ?_)
    · intro y0 y1 y2 y3 y4 y5
      unfold chinoiserielaw06_HostWild.l0
      repeat' first
      | (with_reducible exact ih0 _ _ _ _ _)
      | (with_reducible exact ih1 _ _ _ _ _)
      | (with_reducible exact ih2 _ _ _ _ _ _)
      | (with_reducible exact chinoiserielaw06_plain.mono _ _)
      | (with_reducible exact chinoiserielaw06_works.mono _)
      | (with_reducible exact LeO.refl _)
      | (with_reducible exact LeO.none _)
      | (with_reducible refine LeO.ite ?_ ?_)
      | (with_reducible refine LeO.bind ?_ (fun _ => ?_))
      | exact ih0 _ _ _ _ _
      | exact ih1 _ _ _ _ _
      | exact ih2 _ _ _ _ _ _
      | exact chinoiserielaw06_plain.mono _ _
      | exact chinoiserielaw06_works.mono _
      | exact LeO.none _
      | refine LeO.ite ?_ ?_
      | refine LeO.bind ?_ (fun _ => ?_)
theorem chinoiserielaw06_HostWild.mono : ∀ a0 a1 a2 k, LeO (chinoiserielaw06_HostWild.f k a0 a1 a2) (chinoiserielaw06_HostWild.f (k + 1) a0 a1 a2) := by
  intro a0 a1 a2 k
  obtain ⟨ih0, ih1, ih2⟩ := chinoiserielaw06_HostWild.mono_l k
  unfold chinoiserielaw06_HostWild.f
  repeat' first
      | (with_reducible exact ih0 _ _ _ _ _)
      | (with_reducible exact ih1 _ _ _ _ _)
      | (with_reducible exact ih2 _ _ _ _ _ _)
      | (with_reducible exact chinoiserielaw06_plain.mono _ _)
      | (with_reducible exact chinoiserielaw06_works.mono _)
      | (with_reducible exact LeO.refl _)
      | (with_reducible exact LeO.none _)
      | (with_reducible refine LeO.ite ?_ ?_)
      | (with_reducible refine LeO.bind ?_ (fun _ => ?_))
      | exact ih0 _ _ _ _ _
      | exact ih1 _ _ _ _ _
      | exact ih2 _ _ _ _ _ _
      | exact chinoiserielaw06_plain.mono _ _
      | exact chinoiserielaw06_works.mono _
      | exact LeO.none _
      | refine LeO.ite ?_ ?_
      | refine LeO.bind ?_ (fun _ => ?_)
set_option maxHeartbeats 8000000 in
set_option maxRecDepth 100000 in
theorem chinoiserielaw06_HostWild.calls (k : Nat) (A0 : Option Addr) (c0 : Nat) (l0 : List Int) (A1 : Option Addr) (c1 : Nat) (l1 : List Int) (a2 : Int) (r : Bool) (w : World) (hr0 : Kd.C (Kd.int .i64) w A0 l0.length l0) (hc0 : l0.length ≤ c0) (hr1 : Kd.C (Kd.int .i64) w A1 l1.length l1) (hc1 : l1.length ≤ c1) (h : chinoiserielaw06_HostWild.f k l0 l1 a2 = some r) (hL : LW w := by first | exact hL | exact LW.below hL (by repeat (first | (with_reducible first | exact HB.out | apply below_alloc | apply pw_below_drewN | apply below_drew1) | exact HB.out))) :
    Calls Tryd.prog 7 #[.slice A0 l0.length c0, .slice A1 l1.length c1, .int .i64 a2] w fun e w' => e = .returned (.bool r) ∧ Below w.heap.size w w' := by
  have HR0 := Aside0.mk hr0
  have HC0 := Aside0.mk hc0
  clear hr0 hc0
  have HR1 := Aside0.mk hr1
  have HC1 := Aside0.mk hc1
  clear hr1 hc1
  have HB := Aside0.mk (Below.refl w.heap.size w)
  have H : ((chinoiserielaw06_plain.f k l0).bind fun t215 => ((chinoiserielaw06_plain.f k l1).bind fun t216 => (if 2 + t215.size ≤ 9223372036854775807 then (if (((⟨#[42, 46]⟩ : ByteArray) ++ t215).size : Int) > 60 then (chinoiserielaw06_HostWild.j0 k a2 t215 t216 ((⟨#[42, 46]⟩ : ByteArray) ++ t215) true) else ((host_Pattern.f ((⟨#[42, 46]⟩ : ByteArray) ++ t215)).bind fun t217 => (if t217 = 0 then ((host_Plain.f ((⟨#[42, 46]⟩ : ByteArray) ++ t215)).bind fun t218 => (chinoiserielaw06_HostWild.j0 k a2 t215 t216 ((⟨#[42, 46]⟩ : ByteArray) ++ t215) (t218 != 60))) else (chinoiserielaw06_HostWild.j0 k a2 t215 t216 ((⟨#[42, 46]⟩ : ByteArray) ++ t215) true)))) else (none)))) = some r := h
  clear h
  replace H := Option.bind_eq_some_iff.mp H
  obtain ⟨t215, A40, H⟩ := H
  replace H : ((chinoiserielaw06_plain.f k l1).bind fun t216 => (if 2 + t215.size ≤ 9223372036854775807 then (if (((⟨#[42, 46]⟩ : ByteArray) ++ t215).size : Int) > 60 then (chinoiserielaw06_HostWild.j0 k a2 t215 t216 ((⟨#[42, 46]⟩ : ByteArray) ++ t215) true) else ((host_Pattern.f ((⟨#[42, 46]⟩ : ByteArray) ++ t215)).bind fun t217 => (if t217 = 0 then ((host_Plain.f ((⟨#[42, 46]⟩ : ByteArray) ++ t215)).bind fun t218 => (chinoiserielaw06_HostWild.j0 k a2 t215 t216 ((⟨#[42, 46]⟩ : ByteArray) ++ t215) (t218 != 60))) else (chinoiserielaw06_HostWild.j0 k a2 t215 t216 ((⟨#[42, 46]⟩ : ByteArray) ++ t215) true)))) else (none))) = some r := H
  have A4 := Aside0.mk A40
  clear A40
  replace H := Option.bind_eq_some_iff.mp H
  obtain ⟨t216, A50, H⟩ := H
  replace H : (if 2 + t215.size ≤ 9223372036854775807 then (if (((⟨#[42, 46]⟩ : ByteArray) ++ t215).size : Int) > 60 then (chinoiserielaw06_HostWild.j0 k a2 t215 t216 ((⟨#[42, 46]⟩ : ByteArray) ++ t215) true) else ((host_Pattern.f ((⟨#[42, 46]⟩ : ByteArray) ++ t215)).bind fun t217 => (if t217 = 0 then ((host_Plain.f ((⟨#[42, 46]⟩ : ByteArray) ++ t215)).bind fun t218 => (chinoiserielaw06_HostWild.j0 k a2 t215 t216 ((⟨#[42, 46]⟩ : ByteArray) ++ t215) (t218 != 60))) else (chinoiserielaw06_HostWild.j0 k a2 t215 t216 ((⟨#[42, 46]⟩ : ByteArray) ++ t215) true)))) else (none)) = some r := H
  have A5 := Aside0.mk A50
  clear A50
  by_cases c6 : 2 + t215.size ≤ 9223372036854775807
  · rw [if_pos c6] at H
    have c6b0 := eq_true c6
    have c6b1 : decide (2 + t215.size ≤ 9223372036854775807) = true := decide_eq_true c6
    try have c6b2 : (9223372036854775807 < 2 + t215.size) = False := eq_false (Nat.not_lt.2 c6)
    have HC7 := Aside0.mk H
    clear H
    go_enter Tryd.func7, Tryd.ntmps7
    go_upto_region 3 with (first | ((with_reducible refine gate_callee (f := 22) rfl ?_); refine goesL_ (some 15) rfl rfl Tryd.func22 (by kernel_rfl) rfl #[.slice A0 l0.length c0] rfl (by (try simp only [List.map_toArray, List.map_cons, List.map_nil]); first | done | rfl | (simp only [List.length_drop, List.length_take]; rfl)) ?_; (with_reducible refine (chinoiserielaw06_plain.calls k _ _ l0 t215 _ ?side1 ?side2 A4.out).mono ?_); (case side1 => repeat (first | exact HR0.out | (with_reducible refine Kd.C_alloc ?_ _) | (with_reducible refine Kd.C_drewN ?_ _) | (with_reducible refine Kd.C_drew ?_))); (case side2 => exact HC0.out); rintro e w8 ⟨rfl, hb⟩; refine ⟨_, rfl, ?_⟩; have n0_ := Aside0.mk (below_step (by repeat (first | (with_reducible first | exact HB.out | apply below_alloc | apply pw_below_drewN | apply below_drew1) | exact HB.out)) hb); clear HB; have HB := n0_; clear n0_; (try clear hb); (try clear hb2); (try clear hk); (try clear hi)) | ((with_reducible refine gate_callee (f := 22) rfl ?_); refine goesL_ (some 17) rfl rfl Tryd.func22 (by kernel_rfl) rfl #[.slice A1 l1.length c1] rfl (by (try simp only [List.map_toArray, List.map_cons, List.map_nil]); first | done | rfl | (simp only [List.length_drop, List.length_take]; rfl)) ?_; (with_reducible refine (chinoiserielaw06_plain.calls k _ _ l1 t216 _ ?side1 ?side2 A5.out).mono ?_); (case side1 => repeat (first | exact (Kd.C_below HR1.out HB.out) | (with_reducible refine Kd.C_alloc ?_ _) | (with_reducible refine Kd.C_drewN ?_ _) | (with_reducible refine Kd.C_drew ?_))); (case side2 => exact HC1.out); rintro e w9 ⟨rfl, hb⟩; refine ⟨_, rfl, ?_⟩; have n0_ := Aside0.mk (below_step (by repeat (first | (with_reducible first | exact HB.out | apply below_alloc | apply pw_below_drewN | apply below_drew1) | exact HB.out)) hb); clear HB; have HB := n0_; clear n0_; (try clear hb); (try clear hb2); (try clear hk); (try clear hi)))
    (try simp only [Act.put, List.setIfInBounds_toArray, List.set_cons_zero, List.set_cons_succ])
    go_cut [32] (fun v32 wc => ∃ (kq : Nat) (x32_6 : Bool), v32 = .bool x32_6 ∧ Aside0 (chinoiserielaw06_HostWild.j0 kq a2 t215 t216 ((⟨#[42, 46]⟩ : ByteArray) ++ t215) x32_6 = some r) ∧ Aside0 (kq ≤ k) ∧ Aside0 (Below w.heap.size w wc))
    case first =>
      have H := HC7.out
      clear HC7
      by_cases c10 : (((⟨#[42, 46]⟩ : ByteArray) ++ t215).size : Int) > 60
      · rw [if_pos c10] at H
        have c10b0 : decide (60 < (((⟨#[42, 46]⟩ : ByteArray) ++ t215).size : Int)) = true := decide_eq_true c10
        have c10b1 : decide (60 < ((⟨#[42, 46]⟩ : ByteArray) ++ t215).size) = true := decide_eq_true (by omega)
        clear c10
        (first | rw [c10b0] | (simp only [i64_w, i32_w]; rw [c10b0]) | skip)
        have H' := Aside0.mk H
        clear H
        go_wp2
        all_goals (try (exfalso; first | (simp only [ByteArray.size_append, ByteArray.size_extract, Nat.min_self, Nat.sub_zero, decide_eq_true_eq, decide_eq_false_iff_not, show (⟨#[42, 46]⟩ : ByteArray).size = 2 from rfl] at *; done) | (simp only [ByteArray.size_append, ByteArray.size_extract, Nat.min_self, Nat.sub_zero, decide_eq_true_eq, decide_eq_false_iff_not, show (⟨#[42, 46]⟩ : ByteArray).size = 2 from rfl] at *; omega) | contradiction))
        go_meet
        case rel => exact ⟨_, (true), (by first | rfl | (simp; done) | (simp [*]; done) | (simp; omega)), H', ⟨by first | omega | exact Nat.le_refl _⟩, ⟨by repeat (first | (with_reducible first | exact HB.out | apply below_alloc | apply pw_below_drewN | apply below_drew1) | exact HB.out)⟩⟩
      · rw [if_neg c10] at H
        have c10b0 : decide (60 < (((⟨#[42, 46]⟩ : ByteArray) ++ t215).size : Int)) = false := decide_eq_false c10
        have c10b1 : decide (60 < ((⟨#[42, 46]⟩ : ByteArray) ++ t215).size) = false := decide_eq_false (by omega)
        clear c10
        (first | rw [c10b0] | (simp only [i64_w, i32_w]; rw [c10b0]) | skip)
        replace H := Option.bind_eq_some_iff.mp H
        obtain ⟨t217, A110, H⟩ := H
        replace H : (if t217 = 0 then ((host_Plain.f ((⟨#[42, 46]⟩ : ByteArray) ++ t215)).bind fun t218 => (chinoiserielaw06_HostWild.j0 k a2 t215 t216 ((⟨#[42, 46]⟩ : ByteArray) ++ t215) (t218 != 60))) else (chinoiserielaw06_HostWild.j0 k a2 t215 t216 ((⟨#[42, 46]⟩ : ByteArray) ++ t215) true)) = some r := H
        have A11 := Aside0.mk A110
        clear A110
        by_cases c12 : t217 = 0
        · rw [if_pos c12] at H
          have c12b0 : (t217 == 0) = true := beq_iff_eq.mpr c12
          have c12b1 : (t217 != 0) = false := bne_eq_false_iff_eq.mpr c12
          clear c12
          replace H := Option.bind_eq_some_iff.mp H
          obtain ⟨t218, A130, H⟩ := H
          replace H : (chinoiserielaw06_HostWild.j0 k a2 t215 t216 ((⟨#[42, 46]⟩ : ByteArray) ++ t215) (t218 != 60)) = some r := H
          have A13 := Aside0.mk A130
          clear A130
          have H' := Aside0.mk H
          clear H
          go_wp2_with (first | (go_at_call 15; (with_reducible refine (host_Pattern.calls ((⟨#[42, 46]⟩ : ByteArray) ++ t215) t217 _ A11.out).mono ?_); rintro e w14 ⟨rfl, hb⟩; have n0_ := Aside0.mk (below_step (by repeat (first | (with_reducible first | exact HB.out | apply below_alloc | apply pw_below_drewN | apply below_drew1) | exact HB.out)) hb); clear HB; have HB := n0_; clear n0_; (try clear hb); (try clear hb2); (try clear hk); (try clear hi)) | (go_at_call 13; (with_reducible refine (host_Plain.calls ((⟨#[42, 46]⟩ : ByteArray) ++ t215) t218 _ A13.out).mono ?_); rintro e w15 ⟨rfl, hb⟩; have n0_ := Aside0.mk (below_step (by repeat (first | (with_reducible first | exact HB.out | apply below_alloc | apply pw_below_drewN | apply below_drew1) | exact HB.out)) hb); clear HB; have HB := n0_; clear n0_; (try clear hb); (try clear hb2); (try clear hk); (try clear hi)))
          all_goals (try (exfalso; first | (simp only [ByteArray.size_append, ByteArray.size_extract, Nat.min_self, Nat.sub_zero, decide_eq_true_eq, decide_eq_false_iff_not, show (⟨#[42, 46]⟩ : ByteArray).size = 2 from rfl] at *; done) | (simp only [ByteArray.size_append, ByteArray.size_extract, Nat.min_self, Nat.sub_zero, decide_eq_true_eq, decide_eq_false_iff_not, show (⟨#[42, 46]⟩ : ByteArray).size = 2 from rfl] at *; omega) | contradiction))
          go_meet
          case rel => exact ⟨_, ((t218 != 60)), (by first | rfl | (simp; done) | (simp [*]; done) | (simp; omega)), H', ⟨by first | omega | exact Nat.le_refl _⟩, ⟨by repeat (first | (with_reducible first | exact HB.out | apply below_alloc | apply pw_below_drewN | apply below_drew1) | exact HB.out)⟩⟩
        · rw [if_neg c12] at H
          have c12b0 : (t217 == 0) = false := beq_eq_false_iff_ne.mpr c12
          have c12b1 : (t217 != 0) = true := bne_iff_ne.mpr c12
          have H' := Aside0.mk H
          clear H
          go_wp2_with (first | (go_at_call 15; (with_reducible refine (host_Pattern.calls ((⟨#[42, 46]⟩ : ByteArray) ++ t215) t217 _ A11.out).mono ?_); rintro e w16 ⟨rfl, hb⟩; have n0_ := Aside0.mk (below_step (by repeat (first | (with_reducible first | exact HB.out | apply below_alloc | apply pw_below_drewN | apply below_drew1) | exact HB.out)) hb); clear HB; have HB := n0_; clear n0_; (try clear hb); (try clear hb2); (try clear hk); (try clear hi)))
          all_goals (try (exfalso; first | (simp only [ByteArray.size_append, ByteArray.size_extract, Nat.min_self, Nat.sub_zero, decide_eq_true_eq, decide_eq_false_iff_not, show (⟨#[42, 46]⟩ : ByteArray).size = 2 from rfl] at *; done) | (simp only [ByteArray.size_append, ByteArray.size_extract, Nat.min_self, Nat.sub_zero, decide_eq_true_eq, decide_eq_false_iff_not, show (⟨#[42, 46]⟩ : ByteArray).size = 2 from rfl] at *; omega) | contradiction))
          go_meet
          case rel => exact ⟨_, (true), (by first | rfl | (simp; done) | (simp [*]; done) | (simp; omega)), H', ⟨by first | omega | exact Nat.le_refl _⟩, ⟨by repeat (first | (with_reducible first | exact HB.out | apply below_alloc | apply pw_below_drewN | apply below_drew1) | exact HB.out)⟩⟩
    case rest =>
      clear HC7
      try clear c1
      try clear c2
      try clear p2
      try clear c6
      try clear c6b0
      try clear c6b1
      try clear c6b2
      try clear c7
      try clear c10
      try clear c10b0
      try clear c10b1
      try clear c12
      try clear c12b0
      try clear c12b1
      obtain ⟨kq, x32_6, rfl, HA, HJ6, HB⟩ := hcut
      cases kq with
      | zero => exact absurd HA.out (by simp [chinoiserielaw06_HostWild.j0])
      | succ kj6 =>
        have H := HA.out
        clear HA
        simp only [chinoiserielaw06_HostWild.j0] at H
        by_cases c17 : x32_6 = true
        · subst c17
          have H1 : (if (((⟨#[42, 46]⟩ : ByteArray) ++ t215).size : Int) > 60 then ((chinoiserielaw06_works.f kj6).bind fun t219 => (some t219)) else (some false)) = some r := by rw [if_pos rfl] at H; exact H
          clear H
          have H := H1
          clear H1
          by_cases c18 : (((⟨#[42, 46]⟩ : ByteArray) ++ t215).size : Int) > 60
          · rw [if_pos c18] at H
            have c18b0 : decide (60 < (((⟨#[42, 46]⟩ : ByteArray) ++ t215).size : Int)) = true := decide_eq_true c18
            have c18b1 : decide (60 < ((⟨#[42, 46]⟩ : ByteArray) ++ t215).size) = true := decide_eq_true (by omega)
            clear c18
            replace H := Option.bind_eq_some_iff.mp H
            obtain ⟨t219, A190, H⟩ := H
            replace H : (some t219) = some r := H
            have A19 := Aside0.mk A190
            clear A190
            obtain rfl := Option.some.inj H
            go_wp2_with (first | (go_at_call 17; (with_reducible refine (chinoiserielaw06_works.calls kj6  t219 _ A19.out).mono ?_); rintro e w20 ⟨rfl, hb⟩; have n0_ := Aside0.mk (below_step (by repeat (first | (with_reducible first | exact HB.out | apply below_alloc | apply pw_below_drewN | apply below_drew1) | exact HB.out)) hb); clear HB; have HB := n0_; clear n0_; (try clear hb); (try clear hb2); (try clear hk); (try clear hi)))
            all_goals (try (exfalso; first | (simp only [ByteArray.size_append, ByteArray.size_extract, Nat.min_self, Nat.sub_zero, decide_eq_true_eq, decide_eq_false_iff_not, show (⟨#[42, 46]⟩ : ByteArray).size = 2 from rfl] at *; done) | (simp only [ByteArray.size_append, ByteArray.size_extract, Nat.min_self, Nat.sub_zero, decide_eq_true_eq, decide_eq_false_iff_not, show (⟨#[42, 46]⟩ : ByteArray).size = 2 from rfl] at *; omega) | contradiction))
            go_ret
            exact ⟨by first | rfl | (simp [errW_none, errW_some] <;> rfl) | (simp [*, errW_none, errW_some] <;> rfl), by repeat (first | (with_reducible first | exact HB.out | apply below_alloc | apply pw_below_drewN | apply below_drew1) | exact HB.out)⟩
          · rw [if_neg c18] at H
            have c18b0 : decide (60 < (((⟨#[42, 46]⟩ : ByteArray) ++ t215).size : Int)) = false := decide_eq_false c18
            have c18b1 : decide (60 < ((⟨#[42, 46]⟩ : ByteArray) ++ t215).size) = false := decide_eq_false (by omega)
            clear c18
            obtain rfl := Option.some.inj H
            go_wp2
            all_goals (try (exfalso; first | (simp only [ByteArray.size_append, ByteArray.size_extract, Nat.min_self, Nat.sub_zero, decide_eq_true_eq, decide_eq_false_iff_not, show (⟨#[42, 46]⟩ : ByteArray).size = 2 from rfl] at *; done) | (simp only [ByteArray.size_append, ByteArray.size_extract, Nat.min_self, Nat.sub_zero, decide_eq_true_eq, decide_eq_false_iff_not, show (⟨#[42, 46]⟩ : ByteArray).size = 2 from rfl] at *; omega) | contradiction))
            go_ret
            exact ⟨by first | rfl | (simp [errW_none, errW_some] <;> rfl) | (simp [*, errW_none, errW_some] <;> rfl), by repeat (first | (with_reducible first | exact HB.out | apply below_alloc | apply pw_below_drewN | apply below_drew1) | exact HB.out)⟩
        · replace c17 := Bool.eq_false_iff.mpr c17
          subst c17
          have H1 : ((chinoiserielaw06_part.f a2).bind fun t220 => (if t220.size + 1 ≤ 9223372036854775807 then (if (t220 ++ (⟨#[46]⟩ : ByteArray)).size + t215.size ≤ 9223372036854775807 then (chinoiserielaw06_HostWild.l0 kj6 t215 t216 ((⟨#[42, 46]⟩ : ByteArray) ++ t215) ((t220 ++ (⟨#[46]⟩ : ByteArray)) ++ t215) false 0) else (none)) else (none))) = some r := by rw [if_neg (show ¬ (false = true) by decide)] at H; exact H
          clear H
          have H := H1
          clear H1
          replace H := Option.bind_eq_some_iff.mp H
          obtain ⟨t220, A210, H⟩ := H
          replace H : (if t220.size + 1 ≤ 9223372036854775807 then (if (t220 ++ (⟨#[46]⟩ : ByteArray)).size + t215.size ≤ 9223372036854775807 then (chinoiserielaw06_HostWild.l0 kj6 t215 t216 ((⟨#[42, 46]⟩ : ByteArray) ++ t215) ((t220 ++ (⟨#[46]⟩ : ByteArray)) ++ t215) false 0) else (none)) else (none)) = some r := H
          have A21 := Aside0.mk A210
          clear A210
          by_cases c22 : t220.size + 1 ≤ 9223372036854775807
          · rw [if_pos c22] at H
            have c22b0 := eq_true c22
            have c22b1 : decide (t220.size + 1 ≤ 9223372036854775807) = true := decide_eq_true c22
            try have c22b2 : (9223372036854775807 < t220.size + 1) = False := eq_false (Nat.not_lt.2 c22)
            by_cases c23 : (t220 ++ (⟨#[46]⟩ : ByteArray)).size + t215.size ≤ 9223372036854775807
            · rw [if_pos c23] at H
              have c23b0 := eq_true c23
              have c23b1 : decide ((t220 ++ (⟨#[46]⟩ : ByteArray)).size + t215.size ≤ 9223372036854775807) = true := decide_eq_true c23
              try have c23b2 : (9223372036854775807 < (t220 ++ (⟨#[46]⟩ : ByteArray)).size + t215.size) = False := eq_false (Nat.not_lt.2 c23)
              try have c23b6 := c23b2
              try simp only [ByteArray.size_append, show ((⟨#[46]⟩ : ByteArray).size) = 1 from rfl, show ((⟨#[42, 46]⟩ : ByteArray).size) = 2 from rfl, show ((⟨#[122, 46]⟩ : ByteArray).size) = 2 from rfl] at c23b6
              try have c23b3 : (9223372036854775807 < (t220).size + 1 + (t215).size) = False := eq_false (fun h_ => absurd c23 (by simp only [ByteArray.size_append]; exact Nat.not_le.2 h_))
              have HC24 := Aside0.mk H
              clear H
              go_upto_block 0 with (first | ((with_reducible refine gate_callee (f := 25) rfl ?_); refine goesL_ (some 40) rfl rfl Tryd.func25 (by kernel_rfl) rfl #[.int .i64 a2] rfl (by (try simp only [List.map_toArray, List.map_cons, List.map_nil]); first | done | rfl | (simp only [List.length_drop, List.length_take]; rfl)) ?_; (with_reducible refine (chinoiserielaw06_part.calls a2 t220 _ A21.out).mono ?_); rintro e w25 ⟨rfl, hb⟩; refine ⟨_, rfl, ?_⟩; have n0_ := Aside0.mk (below_step (by repeat (first | (with_reducible first | exact HB.out | apply below_alloc | apply pw_below_drewN | apply below_drew1) | exact HB.out)) hb); clear HB; have HB := n0_; clear n0_; (try clear hb); (try clear hb2); (try clear hk); (try clear hi)))
              (try simp only [Act.put, List.setIfInBounds_toArray, List.set_cons_zero, List.set_cons_succ])
              go_cut [11] (fun v11 wc => ∃ (kq : Nat) (x11_23 : Bool), v11 = .bool x11_23 ∧ Aside0 (chinoiserielaw06_HostWild.j2 kq t215 t216 ((⟨#[42, 46]⟩ : ByteArray) ++ t215) ((t220 ++ (⟨#[46]⟩ : ByteArray)) ++ t215) x11_23 = some r) ∧ Aside0 (kq ≤ kj6) ∧ Aside0 (Below w.heap.size w wc))
              case first =>
                have H := HC24.out
                clear HC24
                have H' := Aside0.mk H
                clear H
                go_wp2
                go_loopg [11, 12] kj6 (fun kq v11 v12 w' => ∃ (x11_2 : Bool) (x12_2 : Int), v11 = .bool x11_2 ∧ v12 = .int .i64 x12_2 ∧ Aside0 (chinoiserielaw06_HostWild.l0 kq t215 t216 ((⟨#[42, 46]⟩ : ByteArray) ++ t215) ((t220 ++ (⟨#[46]⟩ : ByteArray)) ++ t215) x11_2 x12_2 = some r) ∧ Aside0 (kq ≤ kj6) ∧ Aside0 (Below w.heap.size w w'))
                case atStart => exact ⟨(false), (0), (by first | rfl | (simp; done) | (simp [*]; done) | (simp; omega)), (by first | rfl | (simp; done) | (simp [*]; done) | (simp; omega)), H', ⟨Nat.le_refl _⟩, ⟨by repeat (first | (with_reducible first | exact HB.out | apply below_alloc | apply pw_below_drewN | apply below_drew1) | exact HB.out)⟩⟩
                case round =>
                  clear H'
                  try clear c1
                  try clear c2
                  try clear p2
                  try clear c6
                  try clear c6b0
                  try clear c6b1
                  try clear c6b2
                  try clear c7
                  try clear c10
                  try clear c10b0
                  try clear c10b1
                  try clear c12
                  try clear c12b0
                  try clear c12b1
                  try clear c17
                  try clear c18
                  try clear c18b0
                  try clear c18b1
                  try clear c22
                  try clear c22b0
                  try clear c22b1
                  try clear c22b2
                  try clear c23
                  try clear c23b0
                  try clear c23b1
                  try clear c23b2
                  try clear c25
                  try clear p2
                  obtain ⟨x11_2, x12_2, rfl, rfl, HA, HK2, HB⟩ := hrel
                  cases gk with
                  | zero => exact absurd HA.out (by simp [chinoiserielaw06_HostWild.l0])
                  | succ k2 =>
                    have H := HA.out
                    clear HA
                    simp only [chinoiserielaw06_HostWild.l0] at H
                    by_cases c26 : x12_2 < (t216.size : Int)
                    · rw [if_pos c26] at H
                      have c26b0 : decide (x12_2 < (t216.size : Int)) = true := decide_eq_true c26
                      clear c26
                      (first | rw [c26b0] | (simp only [i64_w, i32_w]; rw [c26b0]) | skip)
                      by_cases c27 : 0 ≤ x12_2
                      · rw [if_pos c27] at H
                        have c27b0 : decide (0 ≤ x12_2) = true := decide_eq_true c27
                        clear c27
                        by_cases c29 : (bt t216 x12_2) = 46
                        · rw [if_pos c29] at H
                          have c29b0 : ((bt t216 x12_2) == 46) = true := beq_iff_eq.mpr c29
                          have c29b1 : ((bt t216 x12_2) != 46) = false := bne_eq_false_iff_eq.mpr c29
                          clear c29
                          obtain ⟨ji30, hji30⟩ : ∃ j_ : Int, (wrap64 (x12_2 + 1)) = j_ := ⟨_, rfl⟩
                          replace H : (if 0 ≤ (ji30) then (if (ji30) ≤ (t216.size : Int) then (chinoiserielaw06_HostWild.j2 k2 t215 t216 ((⟨#[42, 46]⟩ : ByteArray) ++ t215) ((t220 ++ (⟨#[46]⟩ : ByteArray)) ++ t215) ((t216.extract ((ji30) : Int).toNat t216.size).toList == t215.toList)) else (none)) else (none)) = some r := by first | (rw [hji30] at H; exact H) | (simp only [hji30] at H ⊢; exact H)
                          have hji30w : (IntKind.i64.wrap (x12_2 + 1)) = ji30 := (i64_w _).trans hji30
                          by_cases c31 : 0 ≤ (ji30)
                          · rw [if_pos c31] at H
                            have c31b0 := eq_true c31
                            have c31b1 : decide (0 ≤ (ji30)) = true := decide_eq_true c31
                            clear c31
                            by_cases c32 : (ji30) ≤ (t216.size : Int)
                            · rw [if_pos c32] at H
                              have c32b0 := eq_true c32
                              have c32b1 : decide ((ji30) ≤ (t216.size : Int)) = true := decide_eq_true c32
                              clear c32
                              have H' := Aside0.mk H
                              clear H
                              have p28 : 0 ≤ (x12_2 : Int) := of_decide_eq_true (by first | (with_reducible assumption) | assumption)
                              have q28 : x12_2 < (t216.size : Int) := of_decide_eq_true (by first | (with_reducible assumption) | assumption)
                              have hx28 := bt_at t216 x12_2
                              replace p28 := eq_true p28
                              replace q28 := eq_true q28
                              go_wp2
                              all_goals (try (exfalso; first | (simp only [ByteArray.size_append, ByteArray.size_extract, Nat.min_self, Nat.sub_zero, decide_eq_true_eq, decide_eq_false_iff_not, show (⟨#[42, 46]⟩ : ByteArray).size = 2 from rfl] at *; done) | (simp only [ByteArray.size_append, ByteArray.size_extract, Nat.min_self, Nat.sub_zero, decide_eq_true_eq, decide_eq_false_iff_not, show (⟨#[42, 46]⟩ : ByteArray).size = 2 from rfl] at *; omega) | contradiction))
                              go_meet
                              case rel => exact ⟨_, (((t216.extract ((ji30) : Int).toNat t216.size).toList == t215.toList)), (by first | rfl | (simp; done) | (simp only [← hji30] <;> (first | rfl | simp)) | (simp [*]; done) | (simp; omega)), H', ⟨by have := HJ6.out; have := HK2.out; first | omega | exact Nat.le_refl _⟩, ⟨by repeat (first | (with_reducible first | exact HB.out | apply below_alloc | apply pw_below_drewN | apply below_drew1) | exact HB.out)⟩⟩
                            · rw [if_neg c32] at H
                              exact absurd H (by simp)
                          · rw [if_neg c31] at H
                            exact absurd H (by simp)
                        · rw [if_neg c29] at H
                          have c29b0 : ((bt t216 x12_2) == 46) = false := beq_eq_false_iff_ne.mpr c29
                          have c29b1 : ((bt t216 x12_2) != 46) = true := bne_iff_ne.mpr c29
                          have H' := Aside0.mk H
                          clear H
                          have p28 : 0 ≤ (x12_2 : Int) := of_decide_eq_true (by first | (with_reducible assumption) | assumption)
                          have q28 : x12_2 < (t216.size : Int) := of_decide_eq_true (by first | (with_reducible assumption) | assumption)
                          have hx28 := bt_at t216 x12_2
                          replace p28 := eq_true p28
                          replace q28 := eq_true q28
                          go_wp2
                          go_roundg k2
                          case measure => have := HJ6.out; have := HK2.out; omega
                          case rel => exact ⟨(x11_2), (wrap64 (x12_2 + 1)), (by first | rfl | (simp; done) | (simp [*]; done) | (simp; omega)), (by first | rfl | (simp; done) | (simp [*]; done) | (simp; omega)), H', ⟨by have := HJ6.out; have := HK2.out; omega⟩, ⟨by repeat (first | (with_reducible first | exact HB.out | apply below_alloc | apply pw_below_drewN | apply below_drew1) | exact HB.out)⟩⟩
                      · rw [if_neg c27] at H
                        exact absurd H (by simp)
                    · rw [if_neg c26] at H
                      have c26b0 : decide (x12_2 < (t216.size : Int)) = false := decide_eq_false c26
                      clear c26
                      (first | rw [c26b0] | (simp only [i64_w, i32_w]; rw [c26b0]) | skip)
                      have H' := Aside0.mk H
                      clear H
                      go_wp2
                      all_goals (try (exfalso; first | (simp only [ByteArray.size_append, ByteArray.size_extract, Nat.min_self, Nat.sub_zero, decide_eq_true_eq, decide_eq_false_iff_not, show (⟨#[42, 46]⟩ : ByteArray).size = 2 from rfl] at *; done) | (simp only [ByteArray.size_append, ByteArray.size_extract, Nat.min_self, Nat.sub_zero, decide_eq_true_eq, decide_eq_false_iff_not, show (⟨#[42, 46]⟩ : ByteArray).size = 2 from rfl] at *; omega) | contradiction))
                      go_meet
                      case rel => exact ⟨_, (x11_2), (by first | rfl | (simp; done) | (simp [*]; done) | (simp; omega)), H', ⟨by have := HJ6.out; have := HK2.out; first | omega | exact Nat.le_refl _⟩, ⟨by repeat (first | (with_reducible first | exact HB.out | apply below_alloc | apply pw_below_drewN | apply below_drew1) | exact HB.out)⟩⟩
              case rest =>
                clear HC24
                try clear c1
                try clear c2
                try clear p2
                try clear q2
                try clear hx2
                try clear c3
                try clear c6
                try clear c6b0
                try clear c6b1
                try clear c6b2
                try clear p6
                try clear c7
                try clear c10
                try clear c10b0
                try clear c10b1
                try clear c12
                try clear c12b0
                try clear c12b1
                try clear c17
                try clear c18
                try clear c18b0
                try clear c18b1
                try clear c22
                try clear c22b0
                try clear c22b1
                try clear c22b2
                try clear c23
                try clear c23b0
                try clear c23b1
                try clear c23b2
                try clear c25
                try clear c26
                try clear c26b0
                try clear c27
                try clear c27b0
                try clear p28
                try clear q28
                try clear hx28
                try clear c29
                try clear c29b0
                try clear c29b1
                try clear c31
                try clear c31b0
                try clear c31b1
                try clear c32
                try clear c32b0
                try clear c32b1
                try clear p2
                try clear p28
                try clear q28
                obtain ⟨kq, x11_23, rfl, HA, HJ23, HB⟩ := hcut
                cases kq with
                | zero => exact absurd HA.out (by simp [chinoiserielaw06_HostWild.j2])
                | succ kj23 =>
                  have H := HA.out
                  clear HA
                  simp only [chinoiserielaw06_HostWild.j2] at H
                  replace H := Option.bind_eq_some_iff.mp H
                  obtain ⟨t221, A330, H⟩ := H
                  replace H : (if (t221 == (decide ((((t220 ++ (⟨#[46]⟩ : ByteArray)) ++ t215).size : Int) ≤ 60))) = true then ((host_Match.f ((⟨#[42, 46]⟩ : ByteArray) ++ t215) t216).bind fun t222 => (if (t222 == x11_23) = true then ((host_Match.f ((⟨#[42, 46]⟩ : ByteArray) ++ t215) t215).bind fun t223 => (if t223 = true then (some false) else (if 2 + ((t220 ++ (⟨#[46]⟩ : ByteArray)) ++ t215).size ≤ 9223372036854775807 then ((host_Match.f ((⟨#[42, 46]⟩ : ByteArray) ++ t215) ((⟨#[122, 46]⟩ : ByteArray) ++ ((t220 ++ (⟨#[46]⟩ : ByteArray)) ++ t215))).bind fun t224 => (if t224 = true then (some false) else ((host_Match.f t215 t216).bind fun t225 => (if (t225 == (t215.toList == t216.toList)) = true then ((chinoiserielaw06_works.f kj23).bind fun t226 => (some t226)) else (some false))))) else (none)))) else (some false))) else (some false)) = some r := H
                  have A33 := Aside0.mk A330
                  clear A330
                  by_cases c34 : (t221 == (decide ((((t220 ++ (⟨#[46]⟩ : ByteArray)) ++ t215).size : Int) ≤ 60))) = true
                  · rw [if_pos c34] at H
                    have c34b0 : (t221 == (decide ((((t220 ++ (⟨#[46]⟩ : ByteArray)) ++ t215).size : Int) ≤ 60))) = true := c34
                    try have c34b7 := c34b0
                    try simp only [ByteArray.size_append, show ((⟨#[46]⟩ : ByteArray).size) = 1 from rfl, show ((⟨#[42, 46]⟩ : ByteArray).size) = 2 from rfl, show ((⟨#[122, 46]⟩ : ByteArray).size) = 2 from rfl, Int.natCast_add, Int.cast_ofNat_Int] at c34b7
                    try have c34b8 := c34b7
                    try simp only [beq_iff_eq, beq_eq_false_iff_ne] at c34b8
                    try have c34b9 := c34b8
                    try simp only [eq_iff_iff, decide_eq_true_eq] at c34b9
                    (try (have c34b1 : decide (t221 = (decide ((((t220 ++ (⟨#[46]⟩ : ByteArray)) ++ t215).size : Int) ≤ 60))) = true := by simpa using c34))
                    (try (have c34b2 : (t221 == (decide ((((t220 ++ (⟨#[46]⟩ : ByteArray)) ++ t215).size : Int) ≤ 60))) = true := by simpa using c34))
                    clear c34
                    replace H := Option.bind_eq_some_iff.mp H
                    obtain ⟨t222, A350, H⟩ := H
                    replace H : (if (t222 == x11_23) = true then ((host_Match.f ((⟨#[42, 46]⟩ : ByteArray) ++ t215) t215).bind fun t223 => (if t223 = true then (some false) else (if 2 + ((t220 ++ (⟨#[46]⟩ : ByteArray)) ++ t215).size ≤ 9223372036854775807 then ((host_Match.f ((⟨#[42, 46]⟩ : ByteArray) ++ t215) ((⟨#[122, 46]⟩ : ByteArray) ++ ((t220 ++ (⟨#[46]⟩ : ByteArray)) ++ t215))).bind fun t224 => (if t224 = true then (some false) else ((host_Match.f t215 t216).bind fun t225 => (if (t225 == (t215.toList == t216.toList)) = true then ((chinoiserielaw06_works.f kj23).bind fun t226 => (some t226)) else (some false))))) else (none)))) else (some false)) = some r := H
                    have A35 := Aside0.mk A350
                    clear A350
                    by_cases c36 : (t222 == x11_23) = true
                    · rw [if_pos c36] at H
                      have c36b0 : (t222 == x11_23) = true := c36
                      (try (have c36b1 : decide (t222 = x11_23) = true := by simpa using c36))
                      (try (have c36b2 : (t222 == x11_23) = true := by simpa using c36))
                      clear c36
                      replace H := Option.bind_eq_some_iff.mp H
                      obtain ⟨t223, A370, H⟩ := H
                      replace H : (if t223 = true then (some false) else (if 2 + ((t220 ++ (⟨#[46]⟩ : ByteArray)) ++ t215).size ≤ 9223372036854775807 then ((host_Match.f ((⟨#[42, 46]⟩ : ByteArray) ++ t215) ((⟨#[122, 46]⟩ : ByteArray) ++ ((t220 ++ (⟨#[46]⟩ : ByteArray)) ++ t215))).bind fun t224 => (if t224 = true then (some false) else ((host_Match.f t215 t216).bind fun t225 => (if (t225 == (t215.toList == t216.toList)) = true then ((chinoiserielaw06_works.f kj23).bind fun t226 => (some t226)) else (some false))))) else (none))) = some r := H
                      have A37 := Aside0.mk A370
                      clear A370
                      by_cases c38 : t223 = true
                      · subst c38
                        have H1 : (some false) = some r := by rw [if_pos rfl] at H; exact H
                        clear H
                        have H := H1
                        clear H1
                        obtain rfl := Option.some.inj H
                        go_wp2_with (first | ((with_reducible refine gate_callee (f := 20) rfl ?_); refine goesL_ (some 65) rfl rfl Tryd.func20 (by kernel_rfl) rfl #[.string ((⟨#[42, 46]⟩ : ByteArray) ++ t215), .string ((t220 ++ (⟨#[46]⟩ : ByteArray)) ++ t215)] rfl (by (try simp only [List.map_toArray, List.map_cons, List.map_nil]); first | done | rfl | (simp only [List.length_drop, List.length_take]; rfl)) ?_; (with_reducible refine (host_Match.calls ((⟨#[42, 46]⟩ : ByteArray) ++ t215) ((t220 ++ (⟨#[46]⟩ : ByteArray)) ++ t215) t221 _ A33.out).mono ?_); rintro e w39 ⟨rfl, hb⟩; refine ⟨_, rfl, ?_⟩; have n0_ := Aside0.mk (below_step (by repeat (first | (with_reducible first | exact HB.out | apply below_alloc | apply pw_below_drewN | apply below_drew1) | exact HB.out)) hb); clear HB; have HB := n0_; clear n0_; (try clear hb); (try clear hb2); (try clear hk); (try clear hi)) | (go_at_call 20; (with_reducible refine (host_Match.calls ((⟨#[42, 46]⟩ : ByteArray) ++ t215) t216 t222 _ A35.out).mono ?_); rintro e w40 ⟨rfl, hb⟩; have n0_ := Aside0.mk (below_step (by repeat (first | (with_reducible first | exact HB.out | apply below_alloc | apply pw_below_drewN | apply below_drew1) | exact HB.out)) hb); clear HB; have HB := n0_; clear n0_; (try clear hb); (try clear hb2); (try clear hk); (try clear hi)) | (go_at_call 20; (with_reducible refine (host_Match.calls ((⟨#[42, 46]⟩ : ByteArray) ++ t215) t215 true _ A37.out).mono ?_); rintro e w41 ⟨rfl, hb⟩; have n0_ := Aside0.mk (below_step (by repeat (first | (with_reducible first | exact HB.out | apply below_alloc | apply pw_below_drewN | apply below_drew1) | exact HB.out)) hb); clear HB; have HB := n0_; clear n0_; (try clear hb); (try clear hb2); (try clear hk); (try clear hi)))
                        all_goals (try (exfalso; first | (simp only [ByteArray.size_append, ByteArray.size_extract, Nat.min_self, Nat.sub_zero, decide_eq_true_eq, decide_eq_false_iff_not, show (⟨#[42, 46]⟩ : ByteArray).size = 2 from rfl] at *; done) | (simp only [ByteArray.size_append, ByteArray.size_extract, Nat.min_self, Nat.sub_zero, decide_eq_true_eq, decide_eq_false_iff_not, show (⟨#[42, 46]⟩ : ByteArray).size = 2 from rfl] at *; omega) | contradiction))
                        go_ret
                        exact ⟨by first | rfl | (simp [errW_none, errW_some] <;> rfl) | (simp [*, errW_none, errW_some] <;> rfl), by repeat (first | (with_reducible first | exact HB.out | apply below_alloc | apply pw_below_drewN | apply below_drew1) | exact HB.out)⟩
                      · replace c38 := Bool.eq_false_iff.mpr c38
                        subst c38
                        have H1 : (if 2 + ((t220 ++ (⟨#[46]⟩ : ByteArray)) ++ t215).size ≤ 9223372036854775807 then ((host_Match.f ((⟨#[42, 46]⟩ : ByteArray) ++ t215) ((⟨#[122, 46]⟩ : ByteArray) ++ ((t220 ++ (⟨#[46]⟩ : ByteArray)) ++ t215))).bind fun t224 => (if t224 = true then (some false) else ((host_Match.f t215 t216).bind fun t225 => (if (t225 == (t215.toList == t216.toList)) = true then ((chinoiserielaw06_works.f kj23).bind fun t226 => (some t226)) else (some false))))) else (none)) = some r := by rw [if_neg (show ¬ (false = true) by decide)] at H; exact H
                        clear H
                        have H := H1
                        clear H1
                        by_cases c42 : 2 + ((t220 ++ (⟨#[46]⟩ : ByteArray)) ++ t215).size ≤ 9223372036854775807
                        · rw [if_pos c42] at H
                          have c42b0 := eq_true c42
                          have c42b1 : decide (2 + ((t220 ++ (⟨#[46]⟩ : ByteArray)) ++ t215).size ≤ 9223372036854775807) = true := decide_eq_true c42
                          try have c42b2 : (9223372036854775807 < 2 + ((t220 ++ (⟨#[46]⟩ : ByteArray)) ++ t215).size) = False := eq_false (Nat.not_lt.2 c42)
                          try have c42b6 := c42b2
                          try simp only [ByteArray.size_append, show ((⟨#[46]⟩ : ByteArray).size) = 1 from rfl, show ((⟨#[42, 46]⟩ : ByteArray).size) = 2 from rfl, show ((⟨#[122, 46]⟩ : ByteArray).size) = 2 from rfl] at c42b6
                          try have c42b3 : (9223372036854775807 < 2 + (t220).size + 1 + (t215).size) = False := eq_false (fun h_ => absurd c42 (by simp only [ByteArray.size_append]; exact Nat.not_le.2 h_))
                          replace H := Option.bind_eq_some_iff.mp H
                          obtain ⟨t224, A430, H⟩ := H
                          replace H : (if t224 = true then (some false) else ((host_Match.f t215 t216).bind fun t225 => (if (t225 == (t215.toList == t216.toList)) = true then ((chinoiserielaw06_works.f kj23).bind fun t226 => (some t226)) else (some false)))) = some r := H
                          have A43 := Aside0.mk A430
                          clear A430
                          by_cases c44 : t224 = true
                          · subst c44
                            have H1 : (some false) = some r := by rw [if_pos rfl] at H; exact H
                            clear H
                            have H := H1
                            clear H1
                            obtain rfl := Option.some.inj H
                            go_wp2_with (first | ((with_reducible refine gate_callee (f := 20) rfl ?_); refine goesL_ (some 65) rfl rfl Tryd.func20 (by kernel_rfl) rfl #[.string ((⟨#[42, 46]⟩ : ByteArray) ++ t215), .string ((t220 ++ (⟨#[46]⟩ : ByteArray)) ++ t215)] rfl (by (try simp only [List.map_toArray, List.map_cons, List.map_nil]); first | done | rfl | (simp only [List.length_drop, List.length_take]; rfl)) ?_; (with_reducible refine (host_Match.calls ((⟨#[42, 46]⟩ : ByteArray) ++ t215) ((t220 ++ (⟨#[46]⟩ : ByteArray)) ++ t215) t221 _ A33.out).mono ?_); rintro e w45 ⟨rfl, hb⟩; refine ⟨_, rfl, ?_⟩; have n0_ := Aside0.mk (below_step (by repeat (first | (with_reducible first | exact HB.out | apply below_alloc | apply pw_below_drewN | apply below_drew1) | exact HB.out)) hb); clear HB; have HB := n0_; clear n0_; (try clear hb); (try clear hb2); (try clear hk); (try clear hi)) | (go_at_call 20; (with_reducible refine (host_Match.calls ((⟨#[42, 46]⟩ : ByteArray) ++ t215) t216 t222 _ A35.out).mono ?_); rintro e w46 ⟨rfl, hb⟩; have n0_ := Aside0.mk (below_step (by repeat (first | (with_reducible first | exact HB.out | apply below_alloc | apply pw_below_drewN | apply below_drew1) | exact HB.out)) hb); clear HB; have HB := n0_; clear n0_; (try clear hb); (try clear hb2); (try clear hk); (try clear hi)) | (go_at_call 20; (with_reducible refine (host_Match.calls ((⟨#[42, 46]⟩ : ByteArray) ++ t215) t215 false _ A37.out).mono ?_); rintro e w47 ⟨rfl, hb⟩; have n0_ := Aside0.mk (below_step (by repeat (first | (with_reducible first | exact HB.out | apply below_alloc | apply pw_below_drewN | apply below_drew1) | exact HB.out)) hb); clear HB; have HB := n0_; clear n0_; (try clear hb); (try clear hb2); (try clear hk); (try clear hi)) | (go_at_call 20; (with_reducible refine (host_Match.calls ((⟨#[42, 46]⟩ : ByteArray) ++ t215) ((⟨#[122, 46]⟩ : ByteArray) ++ ((t220 ++ (⟨#[46]⟩ : ByteArray)) ++ t215)) true _ A43.out).mono ?_); rintro e w48 ⟨rfl, hb⟩; have n0_ := Aside0.mk (below_step (by repeat (first | (with_reducible first | exact HB.out | apply below_alloc | apply pw_below_drewN | apply below_drew1) | exact HB.out)) hb); clear HB; have HB := n0_; clear n0_; (try clear hb); (try clear hb2); (try clear hk); (try clear hi)))
                            all_goals (try (exfalso; first | (simp only [ByteArray.size_append, ByteArray.size_extract, Nat.min_self, Nat.sub_zero, decide_eq_true_eq, decide_eq_false_iff_not, show (⟨#[42, 46]⟩ : ByteArray).size = 2 from rfl] at *; done) | (simp only [ByteArray.size_append, ByteArray.size_extract, Nat.min_self, Nat.sub_zero, decide_eq_true_eq, decide_eq_false_iff_not, show (⟨#[42, 46]⟩ : ByteArray).size = 2 from rfl] at *; omega) | contradiction))
                            go_ret
                            exact ⟨by first | rfl | (simp [errW_none, errW_some] <;> rfl) | (simp [*, errW_none, errW_some] <;> rfl), by repeat (first | (with_reducible first | exact HB.out | apply below_alloc | apply pw_below_drewN | apply below_drew1) | exact HB.out)⟩
                          · replace c44 := Bool.eq_false_iff.mpr c44
                            subst c44
                            have H1 : ((host_Match.f t215 t216).bind fun t225 => (if (t225 == (t215.toList == t216.toList)) = true then ((chinoiserielaw06_works.f kj23).bind fun t226 => (some t226)) else (some false))) = some r := by rw [if_neg (show ¬ (false = true) by decide)] at H; exact H
                            clear H
                            have H := H1
                            clear H1
                            replace H := Option.bind_eq_some_iff.mp H
                            obtain ⟨t225, A490, H⟩ := H
                            replace H : (if (t225 == (t215.toList == t216.toList)) = true then ((chinoiserielaw06_works.f kj23).bind fun t226 => (some t226)) else (some false)) = some r := H
                            have A49 := Aside0.mk A490
                            clear A490
                            by_cases c50 : (t225 == (t215.toList == t216.toList)) = true
                            · rw [if_pos c50] at H
                              have c50b0 : (t225 == (t215.toList == t216.toList)) = true := c50
                              (try (have c50b1 : decide (t225 = (t215.toList == t216.toList)) = true := by simpa using c50))
                              (try (have c50b2 : (t225 == (t215.toList == t216.toList)) = true := by simpa using c50))
                              clear c50
                              replace H := Option.bind_eq_some_iff.mp H
                              obtain ⟨t226, A510, H⟩ := H
                              replace H : (some t226) = some r := H
                              have A51 := Aside0.mk A510
                              clear A510
                              obtain rfl := Option.some.inj H
                              go_wp2_with (first | ((with_reducible refine gate_callee (f := 20) rfl ?_); refine goesL_ (some 65) rfl rfl Tryd.func20 (by kernel_rfl) rfl #[.string ((⟨#[42, 46]⟩ : ByteArray) ++ t215), .string ((t220 ++ (⟨#[46]⟩ : ByteArray)) ++ t215)] rfl (by (try simp only [List.map_toArray, List.map_cons, List.map_nil]); first | done | rfl | (simp only [List.length_drop, List.length_take]; rfl)) ?_; (with_reducible refine (host_Match.calls ((⟨#[42, 46]⟩ : ByteArray) ++ t215) ((t220 ++ (⟨#[46]⟩ : ByteArray)) ++ t215) t221 _ A33.out).mono ?_); rintro e w52 ⟨rfl, hb⟩; refine ⟨_, rfl, ?_⟩; have n0_ := Aside0.mk (below_step (by repeat (first | (with_reducible first | exact HB.out | apply below_alloc | apply pw_below_drewN | apply below_drew1) | exact HB.out)) hb); clear HB; have HB := n0_; clear n0_; (try clear hb); (try clear hb2); (try clear hk); (try clear hi)) | (go_at_call 20; (with_reducible refine (host_Match.calls ((⟨#[42, 46]⟩ : ByteArray) ++ t215) t216 t222 _ A35.out).mono ?_); rintro e w53 ⟨rfl, hb⟩; have n0_ := Aside0.mk (below_step (by repeat (first | (with_reducible first | exact HB.out | apply below_alloc | apply pw_below_drewN | apply below_drew1) | exact HB.out)) hb); clear HB; have HB := n0_; clear n0_; (try clear hb); (try clear hb2); (try clear hk); (try clear hi)) | (go_at_call 20; (with_reducible refine (host_Match.calls ((⟨#[42, 46]⟩ : ByteArray) ++ t215) t215 false _ A37.out).mono ?_); rintro e w54 ⟨rfl, hb⟩; have n0_ := Aside0.mk (below_step (by repeat (first | (with_reducible first | exact HB.out | apply below_alloc | apply pw_below_drewN | apply below_drew1) | exact HB.out)) hb); clear HB; have HB := n0_; clear n0_; (try clear hb); (try clear hb2); (try clear hk); (try clear hi)) | (go_at_call 20; (with_reducible refine (host_Match.calls ((⟨#[42, 46]⟩ : ByteArray) ++ t215) ((⟨#[122, 46]⟩ : ByteArray) ++ ((t220 ++ (⟨#[46]⟩ : ByteArray)) ++ t215)) false _ A43.out).mono ?_); rintro e w55 ⟨rfl, hb⟩; have n0_ := Aside0.mk (below_step (by repeat (first | (with_reducible first | exact HB.out | apply below_alloc | apply pw_below_drewN | apply below_drew1) | exact HB.out)) hb); clear HB; have HB := n0_; clear n0_; (try clear hb); (try clear hb2); (try clear hk); (try clear hi)) | (go_at_call 20; (with_reducible refine (host_Match.calls t215 t216 t225 _ A49.out).mono ?_); rintro e w56 ⟨rfl, hb⟩; have n0_ := Aside0.mk (below_step (by repeat (first | (with_reducible first | exact HB.out | apply below_alloc | apply pw_below_drewN | apply below_drew1) | exact HB.out)) hb); clear HB; have HB := n0_; clear n0_; (try clear hb); (try clear hb2); (try clear hk); (try clear hi)) | (go_at_call 17; (with_reducible refine (chinoiserielaw06_works.calls kj23  t226 _ A51.out).mono ?_); rintro e w57 ⟨rfl, hb⟩; have n0_ := Aside0.mk (below_step (by repeat (first | (with_reducible first | exact HB.out | apply below_alloc | apply pw_below_drewN | apply below_drew1) | exact HB.out)) hb); clear HB; have HB := n0_; clear n0_; (try clear hb); (try clear hb2); (try clear hk); (try clear hi)))
                              all_goals (try (exfalso; first | (simp only [ByteArray.size_append, ByteArray.size_extract, Nat.min_self, Nat.sub_zero, decide_eq_true_eq, decide_eq_false_iff_not, show (⟨#[42, 46]⟩ : ByteArray).size = 2 from rfl] at *; done) | (simp only [ByteArray.size_append, ByteArray.size_extract, Nat.min_self, Nat.sub_zero, decide_eq_true_eq, decide_eq_false_iff_not, show (⟨#[42, 46]⟩ : ByteArray).size = 2 from rfl] at *; omega) | contradiction))
                              go_ret
                              exact ⟨by first | rfl | (simp [errW_none, errW_some] <;> rfl) | (simp [*, errW_none, errW_some] <;> rfl), by repeat (first | (with_reducible first | exact HB.out | apply below_alloc | apply pw_below_drewN | apply below_drew1) | exact HB.out)⟩
                            · rw [if_neg c50] at H
                              have c50b0 : (t225 == (t215.toList == t216.toList)) = false := by simpa using c50
                              (try (have c50b1 : decide (t225 = (t215.toList == t216.toList)) = false := by simpa using c50))
                              (try (have c50b2 : (t225 == (t215.toList == t216.toList)) = false := by simpa using c50))
                              (try (have c50b3 : ¬ (t225 = (t215.toList == t216.toList)) := by simpa using c50))
                              clear c50
                              obtain rfl := Option.some.inj H
                              go_wp2_with (first | ((with_reducible refine gate_callee (f := 20) rfl ?_); refine goesL_ (some 65) rfl rfl Tryd.func20 (by kernel_rfl) rfl #[.string ((⟨#[42, 46]⟩ : ByteArray) ++ t215), .string ((t220 ++ (⟨#[46]⟩ : ByteArray)) ++ t215)] rfl (by (try simp only [List.map_toArray, List.map_cons, List.map_nil]); first | done | rfl | (simp only [List.length_drop, List.length_take]; rfl)) ?_; (with_reducible refine (host_Match.calls ((⟨#[42, 46]⟩ : ByteArray) ++ t215) ((t220 ++ (⟨#[46]⟩ : ByteArray)) ++ t215) t221 _ A33.out).mono ?_); rintro e w58 ⟨rfl, hb⟩; refine ⟨_, rfl, ?_⟩; have n0_ := Aside0.mk (below_step (by repeat (first | (with_reducible first | exact HB.out | apply below_alloc | apply pw_below_drewN | apply below_drew1) | exact HB.out)) hb); clear HB; have HB := n0_; clear n0_; (try clear hb); (try clear hb2); (try clear hk); (try clear hi)) | (go_at_call 20; (with_reducible refine (host_Match.calls ((⟨#[42, 46]⟩ : ByteArray) ++ t215) t216 t222 _ A35.out).mono ?_); rintro e w59 ⟨rfl, hb⟩; have n0_ := Aside0.mk (below_step (by repeat (first | (with_reducible first | exact HB.out | apply below_alloc | apply pw_below_drewN | apply below_drew1) | exact HB.out)) hb); clear HB; have HB := n0_; clear n0_; (try clear hb); (try clear hb2); (try clear hk); (try clear hi)) | (go_at_call 20; (with_reducible refine (host_Match.calls ((⟨#[42, 46]⟩ : ByteArray) ++ t215) t215 false _ A37.out).mono ?_); rintro e w60 ⟨rfl, hb⟩; have n0_ := Aside0.mk (below_step (by repeat (first | (with_reducible first | exact HB.out | apply below_alloc | apply pw_below_drewN | apply below_drew1) | exact HB.out)) hb); clear HB; have HB := n0_; clear n0_; (try clear hb); (try clear hb2); (try clear hk); (try clear hi)) | (go_at_call 20; (with_reducible refine (host_Match.calls ((⟨#[42, 46]⟩ : ByteArray) ++ t215) ((⟨#[122, 46]⟩ : ByteArray) ++ ((t220 ++ (⟨#[46]⟩ : ByteArray)) ++ t215)) false _ A43.out).mono ?_); rintro e w61 ⟨rfl, hb⟩; have n0_ := Aside0.mk (below_step (by repeat (first | (with_reducible first | exact HB.out | apply below_alloc | apply pw_below_drewN | apply below_drew1) | exact HB.out)) hb); clear HB; have HB := n0_; clear n0_; (try clear hb); (try clear hb2); (try clear hk); (try clear hi)) | (go_at_call 20; (with_reducible refine (host_Match.calls t215 t216 t225 _ A49.out).mono ?_); rintro e w62 ⟨rfl, hb⟩; have n0_ := Aside0.mk (below_step (by repeat (first | (with_reducible first | exact HB.out | apply below_alloc | apply pw_below_drewN | apply below_drew1) | exact HB.out)) hb); clear HB; have HB := n0_; clear n0_; (try clear hb); (try clear hb2); (try clear hk); (try clear hi)))
                              all_goals (try (exfalso; first | (simp only [ByteArray.size_append, ByteArray.size_extract, Nat.min_self, Nat.sub_zero, decide_eq_true_eq, decide_eq_false_iff_not, show (⟨#[42, 46]⟩ : ByteArray).size = 2 from rfl] at *; done) | (simp only [ByteArray.size_append, ByteArray.size_extract, Nat.min_self, Nat.sub_zero, decide_eq_true_eq, decide_eq_false_iff_not, show (⟨#[42, 46]⟩ : ByteArray).size = 2 from rfl] at *; omega) | contradiction))
                              go_ret
                              exact ⟨by first | rfl | (simp [errW_none, errW_some] <;> rfl) | (simp [*, errW_none, errW_some] <;> rfl), by repeat (first | (with_reducible first | exact HB.out | apply below_alloc | apply pw_below_drewN | apply below_drew1) | exact HB.out)⟩
                        · rw [if_neg c42] at H
                          exact absurd H (by simp)
                    · rw [if_neg c36] at H
                      have c36b0 : (t222 == x11_23) = false := by simpa using c36
                      (try (have c36b1 : decide (t222 = x11_23) = false := by simpa using c36))
                      (try (have c36b2 : (t222 == x11_23) = false := by simpa using c36))
                      (try (have c36b3 : ¬ (t222 = x11_23) := by simpa using c36))
                      clear c36
                      obtain rfl := Option.some.inj H
                      go_wp2_with (first | ((with_reducible refine gate_callee (f := 20) rfl ?_); refine goesL_ (some 65) rfl rfl Tryd.func20 (by kernel_rfl) rfl #[.string ((⟨#[42, 46]⟩ : ByteArray) ++ t215), .string ((t220 ++ (⟨#[46]⟩ : ByteArray)) ++ t215)] rfl (by (try simp only [List.map_toArray, List.map_cons, List.map_nil]); first | done | rfl | (simp only [List.length_drop, List.length_take]; rfl)) ?_; (with_reducible refine (host_Match.calls ((⟨#[42, 46]⟩ : ByteArray) ++ t215) ((t220 ++ (⟨#[46]⟩ : ByteArray)) ++ t215) t221 _ A33.out).mono ?_); rintro e w63 ⟨rfl, hb⟩; refine ⟨_, rfl, ?_⟩; have n0_ := Aside0.mk (below_step (by repeat (first | (with_reducible first | exact HB.out | apply below_alloc | apply pw_below_drewN | apply below_drew1) | exact HB.out)) hb); clear HB; have HB := n0_; clear n0_; (try clear hb); (try clear hb2); (try clear hk); (try clear hi)) | (go_at_call 20; (with_reducible refine (host_Match.calls ((⟨#[42, 46]⟩ : ByteArray) ++ t215) t216 t222 _ A35.out).mono ?_); rintro e w64 ⟨rfl, hb⟩; have n0_ := Aside0.mk (below_step (by repeat (first | (with_reducible first | exact HB.out | apply below_alloc | apply pw_below_drewN | apply below_drew1) | exact HB.out)) hb); clear HB; have HB := n0_; clear n0_; (try clear hb); (try clear hb2); (try clear hk); (try clear hi)))
                      all_goals (try (exfalso; first | (simp only [ByteArray.size_append, ByteArray.size_extract, Nat.min_self, Nat.sub_zero, decide_eq_true_eq, decide_eq_false_iff_not, show (⟨#[42, 46]⟩ : ByteArray).size = 2 from rfl] at *; done) | (simp only [ByteArray.size_append, ByteArray.size_extract, Nat.min_self, Nat.sub_zero, decide_eq_true_eq, decide_eq_false_iff_not, show (⟨#[42, 46]⟩ : ByteArray).size = 2 from rfl] at *; omega) | contradiction))
                      go_ret
                      exact ⟨by first | rfl | (simp [errW_none, errW_some] <;> rfl) | (simp [*, errW_none, errW_some] <;> rfl), by repeat (first | (with_reducible first | exact HB.out | apply below_alloc | apply pw_below_drewN | apply below_drew1) | exact HB.out)⟩
                  · rw [if_neg c34] at H
                    have c34b0 : (t221 == (decide ((((t220 ++ (⟨#[46]⟩ : ByteArray)) ++ t215).size : Int) ≤ 60))) = false := by simpa using c34
                    try have c34b7 := c34b0
                    try simp only [ByteArray.size_append, show ((⟨#[46]⟩ : ByteArray).size) = 1 from rfl, show ((⟨#[42, 46]⟩ : ByteArray).size) = 2 from rfl, show ((⟨#[122, 46]⟩ : ByteArray).size) = 2 from rfl, Int.natCast_add, Int.cast_ofNat_Int] at c34b7
                    try have c34b8 := c34b7
                    try simp only [beq_iff_eq, beq_eq_false_iff_ne] at c34b8
                    try have c34b9 := c34b8
                    try simp only [eq_iff_iff, decide_eq_true_eq] at c34b9
                    (try (have c34b1 : decide (t221 = (decide ((((t220 ++ (⟨#[46]⟩ : ByteArray)) ++ t215).size : Int) ≤ 60))) = false := by simpa using c34))
                    (try (have c34b2 : (t221 == (decide ((((t220 ++ (⟨#[46]⟩ : ByteArray)) ++ t215).size : Int) ≤ 60))) = false := by simpa using c34))
                    (try (have c34b3 : ¬ (t221 = (decide ((((t220 ++ (⟨#[46]⟩ : ByteArray)) ++ t215).size : Int) ≤ 60))) := by simpa using c34))
                    clear c34
                    obtain rfl := Option.some.inj H
                    go_wp2_with (first | ((with_reducible refine gate_callee (f := 20) rfl ?_); refine goesL_ (some 65) rfl rfl Tryd.func20 (by kernel_rfl) rfl #[.string ((⟨#[42, 46]⟩ : ByteArray) ++ t215), .string ((t220 ++ (⟨#[46]⟩ : ByteArray)) ++ t215)] rfl (by (try simp only [List.map_toArray, List.map_cons, List.map_nil]); first | done | rfl | (simp only [List.length_drop, List.length_take]; rfl)) ?_; (with_reducible refine (host_Match.calls ((⟨#[42, 46]⟩ : ByteArray) ++ t215) ((t220 ++ (⟨#[46]⟩ : ByteArray)) ++ t215) t221 _ A33.out).mono ?_); rintro e w65 ⟨rfl, hb⟩; refine ⟨_, rfl, ?_⟩; have n0_ := Aside0.mk (below_step (by repeat (first | (with_reducible first | exact HB.out | apply below_alloc | apply pw_below_drewN | apply below_drew1) | exact HB.out)) hb); clear HB; have HB := n0_; clear n0_; (try clear hb); (try clear hb2); (try clear hk); (try clear hi)))
                    all_goals (try (exfalso; first | (simp only [ByteArray.size_append, ByteArray.size_extract, Nat.min_self, Nat.sub_zero, decide_eq_true_eq, decide_eq_false_iff_not, show (⟨#[42, 46]⟩ : ByteArray).size = 2 from rfl] at *; done) | (simp only [ByteArray.size_append, ByteArray.size_extract, Nat.min_self, Nat.sub_zero, decide_eq_true_eq, decide_eq_false_iff_not, show (⟨#[42, 46]⟩ : ByteArray).size = 2 from rfl] at *; omega) | contradiction))
                    go_ret
                    exact ⟨by first | rfl | (simp [errW_none, errW_some] <;> rfl) | (simp [*, errW_none, errW_some] <;> rfl), by repeat (first | (with_reducible first | exact HB.out | apply below_alloc | apply pw_below_drewN | apply below_drew1) | exact HB.out)⟩
            · rw [if_neg c23] at H
              exact absurd H (by simp)
          · rw [if_neg c22] at H
            exact absurd H (by simp)
  · rw [if_neg c6] at H
    exact absurd H (by simp)

end Go.Proofs.YtipmnecfbbjahaaDoor.PHost
