-- Printed by a program of this session (wip/tools/xprint.py) out of the translation. Not trusted: Lean checks it.
import Derived.Test.YtipmnecfbbjahaaDoorPHostx0
import Derived.Test.YtipmnecfbbjahaaDoorPHostx2
import Derived.Test.YtipmnecfbbjahaaDoorPHostx3
import Derived.Test.YtipmnecfbbjahaaDoorPHostx5
import Derived.Test.YtipmnecfbbjahaaDoorExt0
import Derived.Test.YtipmnecfbbjahaaDoorExtD
namespace Go.Proofs.YtipmnecfbbjahaaDoor.PHost
open Go.RowKit Go.Proofs.YtipmnecfbbjahaaDoorW.PrintWords Go.Proofs.YtipmnecfbbjahaaDoorW.PrintLast Go.Proofs.YtipmnecfbbjahaaDoorW.PrintMore
attribute [local go_sem] max2_int min2_int max_two min_two max_three min_three max_four min_four   -- for this text's walks alone
set_option linter.unusedVariables false
set_option linter.unusedSimpArgs false

/-! ### chinoiserielaw06_HostBack: function 5 -/
def chinoiserielaw06_HostBack.j0 : Nat → Int → ByteArray → Int → ByteArray → Bool → Option (Bool)
  | 0, _, _, _, _, _ => none
  | k + 1, x2, x7, x8, x9, x40 => if x40 = true then (some false) else ((chinoiserieref00_Bring.f x2 2147483648).bind fun t197 => ((chinoiserielaw06_loud.f k x9 t197).bind fun t198 => ((host_Norm.f t198).bind fun bt199 => ((host_Write.f k bt199.1 bt199.2.1).bind fun bt202 => (if bt199.2.2 = 0 then (if bt199.1.toList = x7.toList then (if bt199.2.1 = x8 then (if bt202.2 = 0 then (some (bt202.1.toList == x9.toList)) else (some false)) else (some false)) else (some false)) else (some false))))))
def chinoiserielaw06_HostBack.f (k : Nat) (l0 : List Int) (a1 : Int) (a2 : Int) : Option (Bool) := (chinoiserielaw06_works.f k).bind fun t190 => (if t190 = true then ((chinoiserielaw06_plain.f k l0).bind fun t191 => ((chinoiserieref00_Bring.f a1 65535).bind fun t192 => ((host_Write.f k t191 (wrap64 (1 + t192))).bind fun bt193 => (if bt193.2 = 0 then ((host_Plain.f t191).bind fun t195 => (if t195 = 0 then ((host_Pattern.f t191).bind fun t196 => (chinoiserielaw06_HostBack.j0 k a2 t191 (wrap64 (1 + t192)) bt193.1 (t196 != 0))) else (chinoiserielaw06_HostBack.j0 k a2 t191 (wrap64 (1 + t192)) bt193.1 true))) else (chinoiserielaw06_HostBack.j0 k a2 t191 (wrap64 (1 + t192)) bt193.1 true))))) else (some false))
theorem chinoiserielaw06_HostBack.mono_l : ∀ k, (∀ y0 y1 y2 y3 y4, LeO (chinoiserielaw06_HostBack.j0 k y0 y1 y2 y3 y4) (chinoiserielaw06_HostBack.j0 (k + 1) y0 y1 y2 y3 y4))
  | 0 => fun _ _ _ _ _ r h => by simp [chinoiserielaw06_HostBack.j0] at h
  | k + 1 => by
    have ih0 := chinoiserielaw06_HostBack.mono_l k
    · intro y0 y1 y2 y3 y4
      unfold chinoiserielaw06_HostBack.j0
      repeat' first
      | (with_reducible exact ih0 _ _ _ _ _)
      | (with_reducible exact chinoiserielaw06_loud.mono _ _ _)
      | (with_reducible exact chinoiserielaw06_plain.mono _ _)
      | (with_reducible exact chinoiserielaw06_works.mono _)
      | (with_reducible exact host_Write.mono _ _ _)
      | (with_reducible exact LeO.refl _)
      | (with_reducible exact LeO.none _)
      | (with_reducible refine LeO.ite ?_ ?_)
      | (with_reducible refine LeO.bind ?_ (fun _ => ?_))
      | exact ih0 _ _ _ _ _
      | exact chinoiserielaw06_loud.mono _ _ _
      | exact chinoiserielaw06_plain.mono _ _
      | exact chinoiserielaw06_works.mono _
      | exact host_Write.mono _ _ _
      | exact LeO.none _
      | refine LeO.ite ?_ ?_
      | refine LeO.bind ?_ (fun _ => ?_)
theorem chinoiserielaw06_HostBack.mono : ∀ a0 a1 a2 k, LeO (chinoiserielaw06_HostBack.f k a0 a1 a2) (chinoiserielaw06_HostBack.f (k + 1) a0 a1 a2) := by
  intro a0 a1 a2 k
  have ih0 := chinoiserielaw06_HostBack.mono_l k
  unfold chinoiserielaw06_HostBack.f
  repeat' first
      | (with_reducible exact ih0 _ _ _ _ _)
      | (with_reducible exact chinoiserielaw06_loud.mono _ _ _)
      | (with_reducible exact chinoiserielaw06_plain.mono _ _)
      | (with_reducible exact chinoiserielaw06_works.mono _)
      | (with_reducible exact host_Write.mono _ _ _)
      | (with_reducible exact LeO.refl _)
      | (with_reducible exact LeO.none _)
      | (with_reducible refine LeO.ite ?_ ?_)
      | (with_reducible refine LeO.bind ?_ (fun _ => ?_))
      | exact ih0 _ _ _ _ _
      | exact chinoiserielaw06_loud.mono _ _ _
      | exact chinoiserielaw06_plain.mono _ _
      | exact chinoiserielaw06_works.mono _
      | exact host_Write.mono _ _ _
      | exact LeO.none _
      | refine LeO.ite ?_ ?_
      | refine LeO.bind ?_ (fun _ => ?_)
set_option maxHeartbeats 8000000 in
set_option maxRecDepth 100000 in
theorem chinoiserielaw06_HostBack.calls (k : Nat) (A0 : Option Addr) (c0 : Nat) (l0 : List Int) (a1 : Int) (a2 : Int) (r : Bool) (w : World) (hr0 : Kd.C (Kd.int .i64) w A0 l0.length l0) (hc0 : l0.length ≤ c0) (h : chinoiserielaw06_HostBack.f k l0 a1 a2 = some r) (hL : LW w := by first | exact hL | exact LW.below hL (by repeat (first | (with_reducible first | exact HB.out | apply below_alloc | apply pw_below_drewN | apply below_drew1) | exact HB.out))) :
    Calls Tryd.prog 5 #[.slice A0 l0.length c0, .int .i64 a1, .int .i64 a2] w fun e w' => e = .returned (.bool r) ∧ Below w.heap.size w w' := by
  have HR0 := Aside0.mk hr0
  have HC0 := Aside0.mk hc0
  clear hr0 hc0
  have HB := Aside0.mk (Below.refl w.heap.size w)
  have H : ((chinoiserielaw06_works.f k).bind fun t190 => (if t190 = true then ((chinoiserielaw06_plain.f k l0).bind fun t191 => ((chinoiserieref00_Bring.f a1 65535).bind fun t192 => ((host_Write.f k t191 (wrap64 (1 + t192))).bind fun bt193 => (if bt193.2 = 0 then ((host_Plain.f t191).bind fun t195 => (if t195 = 0 then ((host_Pattern.f t191).bind fun t196 => (chinoiserielaw06_HostBack.j0 k a2 t191 (wrap64 (1 + t192)) bt193.1 (t196 != 0))) else (chinoiserielaw06_HostBack.j0 k a2 t191 (wrap64 (1 + t192)) bt193.1 true))) else (chinoiserielaw06_HostBack.j0 k a2 t191 (wrap64 (1 + t192)) bt193.1 true))))) else (some false))) = some r := h
  clear h
  replace H := Option.bind_eq_some_iff.mp H
  obtain ⟨t190, A40, H⟩ := H
  replace H : (if t190 = true then ((chinoiserielaw06_plain.f k l0).bind fun t191 => ((chinoiserieref00_Bring.f a1 65535).bind fun t192 => ((host_Write.f k t191 (wrap64 (1 + t192))).bind fun bt193 => (if bt193.2 = 0 then ((host_Plain.f t191).bind fun t195 => (if t195 = 0 then ((host_Pattern.f t191).bind fun t196 => (chinoiserielaw06_HostBack.j0 k a2 t191 (wrap64 (1 + t192)) bt193.1 (t196 != 0))) else (chinoiserielaw06_HostBack.j0 k a2 t191 (wrap64 (1 + t192)) bt193.1 true))) else (chinoiserielaw06_HostBack.j0 k a2 t191 (wrap64 (1 + t192)) bt193.1 true))))) else (some false)) = some r := H
  have A4 := Aside0.mk A40
  clear A40
  by_cases c5 : t190 = true
  · subst c5
    have H1 : ((chinoiserielaw06_plain.f k l0).bind fun t191 => ((chinoiserieref00_Bring.f a1 65535).bind fun t192 => ((host_Write.f k t191 (wrap64 (1 + t192))).bind fun bt193 => (if bt193.2 = 0 then ((host_Plain.f t191).bind fun t195 => (if t195 = 0 then ((host_Pattern.f t191).bind fun t196 => (chinoiserielaw06_HostBack.j0 k a2 t191 (wrap64 (1 + t192)) bt193.1 (t196 != 0))) else (chinoiserielaw06_HostBack.j0 k a2 t191 (wrap64 (1 + t192)) bt193.1 true))) else (chinoiserielaw06_HostBack.j0 k a2 t191 (wrap64 (1 + t192)) bt193.1 true))))) = some r := by rw [if_pos rfl] at H; exact H
    clear H
    have H := H1
    clear H1
    replace H := Option.bind_eq_some_iff.mp H
    obtain ⟨t191, A60, H⟩ := H
    replace H : ((chinoiserieref00_Bring.f a1 65535).bind fun t192 => ((host_Write.f k t191 (wrap64 (1 + t192))).bind fun bt193 => (if bt193.2 = 0 then ((host_Plain.f t191).bind fun t195 => (if t195 = 0 then ((host_Pattern.f t191).bind fun t196 => (chinoiserielaw06_HostBack.j0 k a2 t191 (wrap64 (1 + t192)) bt193.1 (t196 != 0))) else (chinoiserielaw06_HostBack.j0 k a2 t191 (wrap64 (1 + t192)) bt193.1 true))) else (chinoiserielaw06_HostBack.j0 k a2 t191 (wrap64 (1 + t192)) bt193.1 true)))) = some r := H
    have A6 := Aside0.mk A60
    clear A60
    replace H := Option.bind_eq_some_iff.mp H
    obtain ⟨t192, A70, H⟩ := H
    replace H : ((host_Write.f k t191 (wrap64 (1 + t192))).bind fun bt193 => (if bt193.2 = 0 then ((host_Plain.f t191).bind fun t195 => (if t195 = 0 then ((host_Pattern.f t191).bind fun t196 => (chinoiserielaw06_HostBack.j0 k a2 t191 (wrap64 (1 + t192)) bt193.1 (t196 != 0))) else (chinoiserielaw06_HostBack.j0 k a2 t191 (wrap64 (1 + t192)) bt193.1 true))) else (chinoiserielaw06_HostBack.j0 k a2 t191 (wrap64 (1 + t192)) bt193.1 true))) = some r := H
    have A7 := Aside0.mk A70
    clear A70
    replace H := Option.bind_eq_some_iff.mp H
    obtain ⟨⟨t193, t194⟩, A80, H⟩ := H
    replace H : (if t194 = 0 then ((host_Plain.f t191).bind fun t195 => (if t195 = 0 then ((host_Pattern.f t191).bind fun t196 => (chinoiserielaw06_HostBack.j0 k a2 t191 (wrap64 (1 + t192)) t193 (t196 != 0))) else (chinoiserielaw06_HostBack.j0 k a2 t191 (wrap64 (1 + t192)) t193 true))) else (chinoiserielaw06_HostBack.j0 k a2 t191 (wrap64 (1 + t192)) t193 true)) = some r := H
    have A8 := Aside0.mk A80
    clear A80
    have HC9 := Aside0.mk H
    clear H
    go_enter Tryd.func5, Tryd.ntmps5
    go_upto_region 5 with (first | ((with_reducible refine gate_callee (f := 17) rfl ?_); refine goesL_ (some 16) rfl rfl Tryd.func17 (by kernel_rfl) rfl #[] rfl (by (try simp only [List.map_toArray, List.map_cons, List.map_nil]); first | done | rfl | (simp only [List.length_drop, List.length_take]; rfl)) ?_; (with_reducible refine (chinoiserielaw06_works.calls k  true _ A4.out).mono ?_); rintro e w10 ⟨rfl, hb⟩; refine ⟨_, rfl, ?_⟩; have n0_ := Aside0.mk (below_step (by repeat (first | (with_reducible first | exact HB.out | apply below_alloc | apply pw_below_drewN | apply below_drew1) | exact HB.out)) hb); clear HB; have HB := n0_; clear n0_; (try clear hb); (try clear hb2); (try clear hk); (try clear hi)) | ((with_reducible refine gate_callee (f := 22) rfl ?_); refine goesL_ (some 19) rfl rfl Tryd.func22 (by kernel_rfl) rfl #[.slice A0 l0.length c0] rfl (by (try simp only [List.map_toArray, List.map_cons, List.map_nil]); first | done | rfl | (simp only [List.length_drop, List.length_take]; rfl)) ?_; (with_reducible refine (chinoiserielaw06_plain.calls k _ _ l0 t191 _ ?side1 ?side2 A6.out).mono ?_); (case side1 => repeat (first | exact (Kd.C_below HR0.out HB.out) | (with_reducible refine Kd.C_alloc ?_ _) | (with_reducible refine Kd.C_drewN ?_ _) | (with_reducible refine Kd.C_drew ?_))); (case side2 => exact HC0.out); rintro e w11 ⟨rfl, hb⟩; refine ⟨_, rfl, ?_⟩; have n0_ := Aside0.mk (below_step (by repeat (first | (with_reducible first | exact HB.out | apply below_alloc | apply pw_below_drewN | apply below_drew1) | exact HB.out)) hb); clear HB; have HB := n0_; clear n0_; (try clear hb); (try clear hb2); (try clear hk); (try clear hi)) | ((with_reducible refine gate_callee (f := 23) rfl ?_); refine goesL_ (some 21) rfl rfl Tryd.func23 (by kernel_rfl) rfl #[.int .i64 a1, .int .i64 65535] rfl (by (try simp only [List.map_toArray, List.map_cons, List.map_nil]); first | done | rfl | (simp only [List.length_drop, List.length_take]; rfl)) ?_; (with_reducible refine (chinoiserieref00_Bring.calls a1 65535 t192 _ A7.out).mono ?_); rintro e w' ⟨rfl, ⟨nd, rfl⟩⟩; refine ⟨_, rfl, ?_⟩) | ((with_reducible refine gate_callee (f := 18) rfl ?_); refine goesL_ (some 26) rfl rfl Tryd.func18 (by kernel_rfl) rfl #[.string t191, .int .i64 (wrap64 (1 + t192))] rfl (by (try simp only [List.map_toArray, List.map_cons, List.map_nil]); first | done | rfl | (simp only [List.length_drop, List.length_take]; rfl)) ?_; (with_reducible refine (host_Write.calls k t191 (wrap64 (1 + t192)) t193 t194 _ A8.out).mono ?_); rintro e w12 ⟨rfl, hb⟩; refine ⟨_, rfl, ?_⟩; have n0_ := Aside0.mk (below_step (by repeat (first | (with_reducible first | exact HB.out | apply below_alloc | apply pw_below_drewN | apply below_drew1) | exact HB.out)) hb); clear HB; have HB := n0_; clear n0_; (try clear hb); (try clear hb2); (try clear hk); (try clear hi)))
    (try simp only [Act.put, List.setIfInBounds_toArray, List.set_cons_zero, List.set_cons_succ])
    go_cut [40] (fun v40 wc => ∃ (kq : Nat) (x40_8 : Bool), v40 = .bool x40_8 ∧ Aside0 (chinoiserielaw06_HostBack.j0 kq a2 t191 (wrap64 (1 + t192)) t193 x40_8 = some r) ∧ Aside0 (kq ≤ k) ∧ Aside0 (Below w.heap.size w wc))
    case first =>
      have H := HC9.out
      clear HC9
      by_cases c13 : t194 = 0
      · rw [if_pos c13] at H
        have c13b0 : (t194 == 0) = true := beq_iff_eq.mpr c13
        have c13b1 : (t194 != 0) = false := bne_eq_false_iff_eq.mpr c13
        clear c13
        (first | rw [c13b0] | (simp only [i64_w, i32_w]; rw [c13b0]) | skip)
        replace H := Option.bind_eq_some_iff.mp H
        obtain ⟨t195, A140, H⟩ := H
        replace H : (if t195 = 0 then ((host_Pattern.f t191).bind fun t196 => (chinoiserielaw06_HostBack.j0 k a2 t191 (wrap64 (1 + t192)) t193 (t196 != 0))) else (chinoiserielaw06_HostBack.j0 k a2 t191 (wrap64 (1 + t192)) t193 true)) = some r := H
        have A14 := Aside0.mk A140
        clear A140
        by_cases c15 : t195 = 0
        · rw [if_pos c15] at H
          have c15b0 : (t195 == 0) = true := beq_iff_eq.mpr c15
          have c15b1 : (t195 != 0) = false := bne_eq_false_iff_eq.mpr c15
          clear c15
          replace H := Option.bind_eq_some_iff.mp H
          obtain ⟨t196, A160, H⟩ := H
          replace H : (chinoiserielaw06_HostBack.j0 k a2 t191 (wrap64 (1 + t192)) t193 (t196 != 0)) = some r := H
          have A16 := Aside0.mk A160
          clear A160
          have H' := Aside0.mk H
          clear H
          go_wp2_with (first | (go_at_call 13; (with_reducible refine (host_Plain.calls t191 t195 _ A14.out).mono ?_); rintro e w17 ⟨rfl, hb⟩; have n0_ := Aside0.mk (below_step (by repeat (first | (with_reducible first | exact HB.out | apply below_alloc | apply pw_below_drewN | apply below_drew1) | exact HB.out)) hb); clear HB; have HB := n0_; clear n0_; (try clear hb); (try clear hb2); (try clear hk); (try clear hi)) | (go_at_call 15; (with_reducible refine (host_Pattern.calls t191 t196 _ A16.out).mono ?_); rintro e w18 ⟨rfl, hb⟩; have n0_ := Aside0.mk (below_step (by repeat (first | (with_reducible first | exact HB.out | apply below_alloc | apply pw_below_drewN | apply below_drew1) | exact HB.out)) hb); clear HB; have HB := n0_; clear n0_; (try clear hb); (try clear hb2); (try clear hk); (try clear hi)))
          go_meet
          case rel => exact ⟨_, ((t196 != 0)), (by first | rfl | (simp; done) | (simp [*]; done)), H', ⟨by first | omega | exact Nat.le_refl _⟩, ⟨by repeat (first | (with_reducible first | exact HB.out | apply below_alloc | apply pw_below_drewN | apply below_drew1) | exact HB.out)⟩⟩
        · rw [if_neg c15] at H
          have c15b0 : (t195 == 0) = false := beq_eq_false_iff_ne.mpr c15
          have c15b1 : (t195 != 0) = true := bne_iff_ne.mpr c15
          have H' := Aside0.mk H
          clear H
          go_wp2_with (first | (go_at_call 13; (with_reducible refine (host_Plain.calls t191 t195 _ A14.out).mono ?_); rintro e w19 ⟨rfl, hb⟩; have n0_ := Aside0.mk (below_step (by repeat (first | (with_reducible first | exact HB.out | apply below_alloc | apply pw_below_drewN | apply below_drew1) | exact HB.out)) hb); clear HB; have HB := n0_; clear n0_; (try clear hb); (try clear hb2); (try clear hk); (try clear hi)))
          go_meet
          case rel => exact ⟨_, (true), (by first | rfl | (simp; done) | (simp [*]; done)), H', ⟨by first | omega | exact Nat.le_refl _⟩, ⟨by repeat (first | (with_reducible first | exact HB.out | apply below_alloc | apply pw_below_drewN | apply below_drew1) | exact HB.out)⟩⟩
      · rw [if_neg c13] at H
        have c13b0 : (t194 == 0) = false := beq_eq_false_iff_ne.mpr c13
        have c13b1 : (t194 != 0) = true := bne_iff_ne.mpr c13
        (first | rw [c13b0] | (simp only [i64_w, i32_w]; rw [c13b0]) | skip)
        have H' := Aside0.mk H
        clear H
        go_wp2
        go_meet
        case rel => exact ⟨_, (true), (by first | rfl | (simp; done) | (simp [*]; done)), H', ⟨by first | omega | exact Nat.le_refl _⟩, ⟨by repeat (first | (with_reducible first | exact HB.out | apply below_alloc | apply pw_below_drewN | apply below_drew1) | exact HB.out)⟩⟩
    case rest =>
      clear HC9
      try clear c1
      try clear c2
      try clear p2
      try clear c5
      try clear p6
      try clear c13
      try clear c13b0
      try clear c13b1
      try clear c15
      try clear c15b0
      try clear c15b1
      try clear c17
      try clear c18
      obtain ⟨kq, x40_8, rfl, HA, HJ8, HB⟩ := hcut
      cases kq with
      | zero => exact absurd HA.out (by simp [chinoiserielaw06_HostBack.j0])
      | succ kj8 =>
        have H := HA.out
        clear HA
        simp only [chinoiserielaw06_HostBack.j0] at H
        by_cases c20 : x40_8 = true
        · subst c20
          have H1 : (some false) = some r := by rw [if_pos rfl] at H; exact H
          clear H
          have H := H1
          clear H1
          obtain rfl := Option.some.inj H
          go_wp2
          go_ret
          exact ⟨by first | rfl | (simp [errW_none, errW_some] <;> rfl) | (simp [*, errW_none, errW_some] <;> rfl), by repeat (first | (with_reducible first | exact HB.out | apply below_alloc | apply pw_below_drewN | apply below_drew1) | exact HB.out)⟩
        · replace c20 := Bool.eq_false_iff.mpr c20
          subst c20
          have H1 : ((chinoiserieref00_Bring.f a2 2147483648).bind fun t197 => ((chinoiserielaw06_loud.f kj8 t193 t197).bind fun t198 => ((host_Norm.f t198).bind fun bt199 => ((host_Write.f kj8 bt199.1 bt199.2.1).bind fun bt202 => (if bt199.2.2 = 0 then (if bt199.1.toList = t191.toList then (if bt199.2.1 = (wrap64 (1 + t192)) then (if bt202.2 = 0 then (some (bt202.1.toList == t193.toList)) else (some false)) else (some false)) else (some false)) else (some false)))))) = some r := by rw [if_neg (show ¬ (false = true) by decide)] at H; exact H
          clear H
          have H := H1
          clear H1
          replace H := Option.bind_eq_some_iff.mp H
          obtain ⟨t197, A210, H⟩ := H
          replace H : ((chinoiserielaw06_loud.f kj8 t193 t197).bind fun t198 => ((host_Norm.f t198).bind fun bt199 => ((host_Write.f kj8 bt199.1 bt199.2.1).bind fun bt202 => (if bt199.2.2 = 0 then (if bt199.1.toList = t191.toList then (if bt199.2.1 = (wrap64 (1 + t192)) then (if bt202.2 = 0 then (some (bt202.1.toList == t193.toList)) else (some false)) else (some false)) else (some false)) else (some false))))) = some r := H
          have A21 := Aside0.mk A210
          clear A210
          replace H := Option.bind_eq_some_iff.mp H
          obtain ⟨t198, A220, H⟩ := H
          replace H : ((host_Norm.f t198).bind fun bt199 => ((host_Write.f kj8 bt199.1 bt199.2.1).bind fun bt202 => (if bt199.2.2 = 0 then (if bt199.1.toList = t191.toList then (if bt199.2.1 = (wrap64 (1 + t192)) then (if bt202.2 = 0 then (some (bt202.1.toList == t193.toList)) else (some false)) else (some false)) else (some false)) else (some false)))) = some r := H
          have A22 := Aside0.mk A220
          clear A220
          replace H := Option.bind_eq_some_iff.mp H
          obtain ⟨⟨t199, t200, t201⟩, A230, H⟩ := H
          replace H : ((host_Write.f kj8 t199 t200).bind fun bt202 => (if t201 = 0 then (if t199.toList = t191.toList then (if t200 = (wrap64 (1 + t192)) then (if bt202.2 = 0 then (some (bt202.1.toList == t193.toList)) else (some false)) else (some false)) else (some false)) else (some false))) = some r := H
          have A23 := Aside0.mk A230
          clear A230
          replace H := Option.bind_eq_some_iff.mp H
          obtain ⟨⟨t202, t203⟩, A240, H⟩ := H
          replace H : (if t201 = 0 then (if t199.toList = t191.toList then (if t200 = (wrap64 (1 + t192)) then (if t203 = 0 then (some (t202.toList == t193.toList)) else (some false)) else (some false)) else (some false)) else (some false)) = some r := H
          have A24 := Aside0.mk A240
          clear A240
          by_cases c25 : t201 = 0
          · rw [if_pos c25] at H
            have c25b0 : (t201 == 0) = true := beq_iff_eq.mpr c25
            have c25b1 : (t201 != 0) = false := bne_eq_false_iff_eq.mpr c25
            clear c25
            by_cases c26 : t199.toList = t191.toList
            · rw [if_pos c26] at H
              have c26b0 : (t199.toList == t191.toList) = true := beq_iff_eq.mpr c26
              have c26b1 : (t199.toList != t191.toList) = false := bne_eq_false_iff_eq.mpr c26
              clear c26
              by_cases c27 : t200 = (wrap64 (1 + t192))
              · rw [if_pos c27] at H
                have c27b0 : (t200 == (wrap64 (1 + t192))) = true := beq_iff_eq.mpr c27
                have c27b1 : (t200 != (wrap64 (1 + t192))) = false := bne_eq_false_iff_eq.mpr c27
                clear c27
                by_cases c28 : t203 = 0
                · rw [if_pos c28] at H
                  have c28b0 : (t203 == 0) = true := beq_iff_eq.mpr c28
                  have c28b1 : (t203 != 0) = false := bne_eq_false_iff_eq.mpr c28
                  clear c28
                  obtain rfl := Option.some.inj H
                  go_wp2_with (first | ((with_reducible refine gate_callee (f := 23) rfl ?_); refine goesL_ (some 44) rfl rfl Tryd.func23 (by kernel_rfl) rfl #[.int .i64 a2, .int .i64 2147483648] rfl (by (try simp only [List.map_toArray, List.map_cons, List.map_nil]); first | done | rfl | (simp only [List.length_drop, List.length_take]; rfl)) ?_; (with_reducible refine (chinoiserieref00_Bring.calls a2 2147483648 t197 _ A21.out).mono ?_); rintro e w' ⟨rfl, ⟨nd, rfl⟩⟩; refine ⟨_, rfl, ?_⟩) | ((with_reducible refine gate_callee (f := 24) rfl ?_); refine goesL_ (some 45) rfl rfl Tryd.func24 (by kernel_rfl) rfl #[.string t193, .int .i64 t197] rfl (by (try simp only [List.map_toArray, List.map_cons, List.map_nil]); first | done | rfl | (simp only [List.length_drop, List.length_take]; rfl)) ?_; (with_reducible refine (chinoiserielaw06_loud.calls kj8 t193 t197 t198 _ A22.out).mono ?_); rintro e w29 ⟨rfl, hb⟩; refine ⟨_, rfl, ?_⟩; have n0_ := Aside0.mk (below_step (by repeat (first | (with_reducible first | exact HB.out | apply below_alloc | apply pw_below_drewN | apply below_drew1) | exact HB.out)) hb); clear HB; have HB := n0_; clear n0_; (try clear hb); (try clear hb2); (try clear hk); (try clear hi)) | ((with_reducible refine gate_callee (f := 11) rfl ?_); refine goesL_ (some 46) rfl rfl Tryd.func11 (by kernel_rfl) rfl #[.string t198] rfl (by (try simp only [List.map_toArray, List.map_cons, List.map_nil]); first | done | rfl | (simp only [List.length_drop, List.length_take]; rfl)) ?_; (with_reducible refine (host_Norm.calls t198 t199 t200 t201 _ A23.out).mono ?_); rintro e w30 ⟨rfl, hb⟩; refine ⟨_, rfl, ?_⟩; have n0_ := Aside0.mk (below_step (by repeat (first | (with_reducible first | exact HB.out | apply below_alloc | apply pw_below_drewN | apply below_drew1) | exact HB.out)) hb); clear HB; have HB := n0_; clear n0_; (try clear hb); (try clear hb2); (try clear hk); (try clear hi)) | ((with_reducible refine gate_callee (f := 18) rfl ?_); refine goesL_ (some 53) rfl rfl Tryd.func18 (by kernel_rfl) rfl #[.string t199, .int .i64 t200] rfl (by (try simp only [List.map_toArray, List.map_cons, List.map_nil]); first | done | rfl | (simp only [List.length_drop, List.length_take]; rfl)) ?_; (with_reducible refine (host_Write.calls kj8 t199 t200 t202 t203 _ A24.out).mono ?_); rintro e w31 ⟨rfl, hb⟩; refine ⟨_, rfl, ?_⟩; have n0_ := Aside0.mk (below_step (by repeat (first | (with_reducible first | exact HB.out | apply below_alloc | apply pw_below_drewN | apply below_drew1) | exact HB.out)) hb); clear HB; have HB := n0_; clear n0_; (try clear hb); (try clear hb2); (try clear hk); (try clear hi)))
                  go_ret
                  exact ⟨by first | rfl | (simp [errW_none, errW_some] <;> rfl) | (simp [*, errW_none, errW_some] <;> rfl), by repeat (first | (with_reducible first | exact HB.out | apply below_alloc | apply pw_below_drewN | apply below_drew1) | exact HB.out)⟩
                · rw [if_neg c28] at H
                  have c28b0 : (t203 == 0) = false := beq_eq_false_iff_ne.mpr c28
                  have c28b1 : (t203 != 0) = true := bne_iff_ne.mpr c28
                  obtain rfl := Option.some.inj H
                  go_wp2_with (first | ((with_reducible refine gate_callee (f := 23) rfl ?_); refine goesL_ (some 44) rfl rfl Tryd.func23 (by kernel_rfl) rfl #[.int .i64 a2, .int .i64 2147483648] rfl (by (try simp only [List.map_toArray, List.map_cons, List.map_nil]); first | done | rfl | (simp only [List.length_drop, List.length_take]; rfl)) ?_; (with_reducible refine (chinoiserieref00_Bring.calls a2 2147483648 t197 _ A21.out).mono ?_); rintro e w' ⟨rfl, ⟨nd, rfl⟩⟩; refine ⟨_, rfl, ?_⟩) | ((with_reducible refine gate_callee (f := 24) rfl ?_); refine goesL_ (some 45) rfl rfl Tryd.func24 (by kernel_rfl) rfl #[.string t193, .int .i64 t197] rfl (by (try simp only [List.map_toArray, List.map_cons, List.map_nil]); first | done | rfl | (simp only [List.length_drop, List.length_take]; rfl)) ?_; (with_reducible refine (chinoiserielaw06_loud.calls kj8 t193 t197 t198 _ A22.out).mono ?_); rintro e w32 ⟨rfl, hb⟩; refine ⟨_, rfl, ?_⟩; have n0_ := Aside0.mk (below_step (by repeat (first | (with_reducible first | exact HB.out | apply below_alloc | apply pw_below_drewN | apply below_drew1) | exact HB.out)) hb); clear HB; have HB := n0_; clear n0_; (try clear hb); (try clear hb2); (try clear hk); (try clear hi)) | ((with_reducible refine gate_callee (f := 11) rfl ?_); refine goesL_ (some 46) rfl rfl Tryd.func11 (by kernel_rfl) rfl #[.string t198] rfl (by (try simp only [List.map_toArray, List.map_cons, List.map_nil]); first | done | rfl | (simp only [List.length_drop, List.length_take]; rfl)) ?_; (with_reducible refine (host_Norm.calls t198 t199 t200 t201 _ A23.out).mono ?_); rintro e w33 ⟨rfl, hb⟩; refine ⟨_, rfl, ?_⟩; have n0_ := Aside0.mk (below_step (by repeat (first | (with_reducible first | exact HB.out | apply below_alloc | apply pw_below_drewN | apply below_drew1) | exact HB.out)) hb); clear HB; have HB := n0_; clear n0_; (try clear hb); (try clear hb2); (try clear hk); (try clear hi)) | ((with_reducible refine gate_callee (f := 18) rfl ?_); refine goesL_ (some 53) rfl rfl Tryd.func18 (by kernel_rfl) rfl #[.string t199, .int .i64 t200] rfl (by (try simp only [List.map_toArray, List.map_cons, List.map_nil]); first | done | rfl | (simp only [List.length_drop, List.length_take]; rfl)) ?_; (with_reducible refine (host_Write.calls kj8 t199 t200 t202 t203 _ A24.out).mono ?_); rintro e w34 ⟨rfl, hb⟩; refine ⟨_, rfl, ?_⟩; have n0_ := Aside0.mk (below_step (by repeat (first | (with_reducible first | exact HB.out | apply below_alloc | apply pw_below_drewN | apply below_drew1) | exact HB.out)) hb); clear HB; have HB := n0_; clear n0_; (try clear hb); (try clear hb2); (try clear hk); (try clear hi)))
                  go_ret
                  exact ⟨by first | rfl | (simp [errW_none, errW_some] <;> rfl) | (simp [*, errW_none, errW_some] <;> rfl), by repeat (first | (with_reducible first | exact HB.out | apply below_alloc | apply pw_below_drewN | apply below_drew1) | exact HB.out)⟩
              · rw [if_neg c27] at H
                have c27b0 : (t200 == (wrap64 (1 + t192))) = false := beq_eq_false_iff_ne.mpr c27
                have c27b1 : (t200 != (wrap64 (1 + t192))) = true := bne_iff_ne.mpr c27
                obtain rfl := Option.some.inj H
                go_wp2_with (first | ((with_reducible refine gate_callee (f := 23) rfl ?_); refine goesL_ (some 44) rfl rfl Tryd.func23 (by kernel_rfl) rfl #[.int .i64 a2, .int .i64 2147483648] rfl (by (try simp only [List.map_toArray, List.map_cons, List.map_nil]); first | done | rfl | (simp only [List.length_drop, List.length_take]; rfl)) ?_; (with_reducible refine (chinoiserieref00_Bring.calls a2 2147483648 t197 _ A21.out).mono ?_); rintro e w' ⟨rfl, ⟨nd, rfl⟩⟩; refine ⟨_, rfl, ?_⟩) | ((with_reducible refine gate_callee (f := 24) rfl ?_); refine goesL_ (some 45) rfl rfl Tryd.func24 (by kernel_rfl) rfl #[.string t193, .int .i64 t197] rfl (by (try simp only [List.map_toArray, List.map_cons, List.map_nil]); first | done | rfl | (simp only [List.length_drop, List.length_take]; rfl)) ?_; (with_reducible refine (chinoiserielaw06_loud.calls kj8 t193 t197 t198 _ A22.out).mono ?_); rintro e w35 ⟨rfl, hb⟩; refine ⟨_, rfl, ?_⟩; have n0_ := Aside0.mk (below_step (by repeat (first | (with_reducible first | exact HB.out | apply below_alloc | apply pw_below_drewN | apply below_drew1) | exact HB.out)) hb); clear HB; have HB := n0_; clear n0_; (try clear hb); (try clear hb2); (try clear hk); (try clear hi)) | ((with_reducible refine gate_callee (f := 11) rfl ?_); refine goesL_ (some 46) rfl rfl Tryd.func11 (by kernel_rfl) rfl #[.string t198] rfl (by (try simp only [List.map_toArray, List.map_cons, List.map_nil]); first | done | rfl | (simp only [List.length_drop, List.length_take]; rfl)) ?_; (with_reducible refine (host_Norm.calls t198 t199 t200 t201 _ A23.out).mono ?_); rintro e w36 ⟨rfl, hb⟩; refine ⟨_, rfl, ?_⟩; have n0_ := Aside0.mk (below_step (by repeat (first | (with_reducible first | exact HB.out | apply below_alloc | apply pw_below_drewN | apply below_drew1) | exact HB.out)) hb); clear HB; have HB := n0_; clear n0_; (try clear hb); (try clear hb2); (try clear hk); (try clear hi)) | ((with_reducible refine gate_callee (f := 18) rfl ?_); refine goesL_ (some 53) rfl rfl Tryd.func18 (by kernel_rfl) rfl #[.string t199, .int .i64 t200] rfl (by (try simp only [List.map_toArray, List.map_cons, List.map_nil]); first | done | rfl | (simp only [List.length_drop, List.length_take]; rfl)) ?_; (with_reducible refine (host_Write.calls kj8 t199 t200 t202 t203 _ A24.out).mono ?_); rintro e w37 ⟨rfl, hb⟩; refine ⟨_, rfl, ?_⟩; have n0_ := Aside0.mk (below_step (by repeat (first | (with_reducible first | exact HB.out | apply below_alloc | apply pw_below_drewN | apply below_drew1) | exact HB.out)) hb); clear HB; have HB := n0_; clear n0_; (try clear hb); (try clear hb2); (try clear hk); (try clear hi)))
                go_ret
                exact ⟨by first | rfl | (simp [errW_none, errW_some] <;> rfl) | (simp [*, errW_none, errW_some] <;> rfl), by repeat (first | (with_reducible first | exact HB.out | apply below_alloc | apply pw_below_drewN | apply below_drew1) | exact HB.out)⟩
            · rw [if_neg c26] at H
              have c26b0 : (t199.toList == t191.toList) = false := beq_eq_false_iff_ne.mpr c26
              have c26b1 : (t199.toList != t191.toList) = true := bne_iff_ne.mpr c26
              obtain rfl := Option.some.inj H
              go_wp2_with (first | ((with_reducible refine gate_callee (f := 23) rfl ?_); refine goesL_ (some 44) rfl rfl Tryd.func23 (by kernel_rfl) rfl #[.int .i64 a2, .int .i64 2147483648] rfl (by (try simp only [List.map_toArray, List.map_cons, List.map_nil]); first | done | rfl | (simp only [List.length_drop, List.length_take]; rfl)) ?_; (with_reducible refine (chinoiserieref00_Bring.calls a2 2147483648 t197 _ A21.out).mono ?_); rintro e w' ⟨rfl, ⟨nd, rfl⟩⟩; refine ⟨_, rfl, ?_⟩) | ((with_reducible refine gate_callee (f := 24) rfl ?_); refine goesL_ (some 45) rfl rfl Tryd.func24 (by kernel_rfl) rfl #[.string t193, .int .i64 t197] rfl (by (try simp only [List.map_toArray, List.map_cons, List.map_nil]); first | done | rfl | (simp only [List.length_drop, List.length_take]; rfl)) ?_; (with_reducible refine (chinoiserielaw06_loud.calls kj8 t193 t197 t198 _ A22.out).mono ?_); rintro e w38 ⟨rfl, hb⟩; refine ⟨_, rfl, ?_⟩; have n0_ := Aside0.mk (below_step (by repeat (first | (with_reducible first | exact HB.out | apply below_alloc | apply pw_below_drewN | apply below_drew1) | exact HB.out)) hb); clear HB; have HB := n0_; clear n0_; (try clear hb); (try clear hb2); (try clear hk); (try clear hi)) | ((with_reducible refine gate_callee (f := 11) rfl ?_); refine goesL_ (some 46) rfl rfl Tryd.func11 (by kernel_rfl) rfl #[.string t198] rfl (by (try simp only [List.map_toArray, List.map_cons, List.map_nil]); first | done | rfl | (simp only [List.length_drop, List.length_take]; rfl)) ?_; (with_reducible refine (host_Norm.calls t198 t199 t200 t201 _ A23.out).mono ?_); rintro e w39 ⟨rfl, hb⟩; refine ⟨_, rfl, ?_⟩; have n0_ := Aside0.mk (below_step (by repeat (first | (with_reducible first | exact HB.out | apply below_alloc | apply pw_below_drewN | apply below_drew1) | exact HB.out)) hb); clear HB; have HB := n0_; clear n0_; (try clear hb); (try clear hb2); (try clear hk); (try clear hi)) | ((with_reducible refine gate_callee (f := 18) rfl ?_); refine goesL_ (some 53) rfl rfl Tryd.func18 (by kernel_rfl) rfl #[.string t199, .int .i64 t200] rfl (by (try simp only [List.map_toArray, List.map_cons, List.map_nil]); first | done | rfl | (simp only [List.length_drop, List.length_take]; rfl)) ?_; (with_reducible refine (host_Write.calls kj8 t199 t200 t202 t203 _ A24.out).mono ?_); rintro e w40 ⟨rfl, hb⟩; refine ⟨_, rfl, ?_⟩; have n0_ := Aside0.mk (below_step (by repeat (first | (with_reducible first | exact HB.out | apply below_alloc | apply pw_below_drewN | apply below_drew1) | exact HB.out)) hb); clear HB; have HB := n0_; clear n0_; (try clear hb); (try clear hb2); (try clear hk); (try clear hi)))
              go_ret
              exact ⟨by first | rfl | (simp [errW_none, errW_some] <;> rfl) | (simp [*, errW_none, errW_some] <;> rfl), by repeat (first | (with_reducible first | exact HB.out | apply below_alloc | apply pw_below_drewN | apply below_drew1) | exact HB.out)⟩
          · rw [if_neg c25] at H
            have c25b0 : (t201 == 0) = false := beq_eq_false_iff_ne.mpr c25
            have c25b1 : (t201 != 0) = true := bne_iff_ne.mpr c25
            obtain rfl := Option.some.inj H
            go_wp2_with (first | ((with_reducible refine gate_callee (f := 23) rfl ?_); refine goesL_ (some 44) rfl rfl Tryd.func23 (by kernel_rfl) rfl #[.int .i64 a2, .int .i64 2147483648] rfl (by (try simp only [List.map_toArray, List.map_cons, List.map_nil]); first | done | rfl | (simp only [List.length_drop, List.length_take]; rfl)) ?_; (with_reducible refine (chinoiserieref00_Bring.calls a2 2147483648 t197 _ A21.out).mono ?_); rintro e w' ⟨rfl, ⟨nd, rfl⟩⟩; refine ⟨_, rfl, ?_⟩) | ((with_reducible refine gate_callee (f := 24) rfl ?_); refine goesL_ (some 45) rfl rfl Tryd.func24 (by kernel_rfl) rfl #[.string t193, .int .i64 t197] rfl (by (try simp only [List.map_toArray, List.map_cons, List.map_nil]); first | done | rfl | (simp only [List.length_drop, List.length_take]; rfl)) ?_; (with_reducible refine (chinoiserielaw06_loud.calls kj8 t193 t197 t198 _ A22.out).mono ?_); rintro e w41 ⟨rfl, hb⟩; refine ⟨_, rfl, ?_⟩; have n0_ := Aside0.mk (below_step (by repeat (first | (with_reducible first | exact HB.out | apply below_alloc | apply pw_below_drewN | apply below_drew1) | exact HB.out)) hb); clear HB; have HB := n0_; clear n0_; (try clear hb); (try clear hb2); (try clear hk); (try clear hi)) | ((with_reducible refine gate_callee (f := 11) rfl ?_); refine goesL_ (some 46) rfl rfl Tryd.func11 (by kernel_rfl) rfl #[.string t198] rfl (by (try simp only [List.map_toArray, List.map_cons, List.map_nil]); first | done | rfl | (simp only [List.length_drop, List.length_take]; rfl)) ?_; (with_reducible refine (host_Norm.calls t198 t199 t200 t201 _ A23.out).mono ?_); rintro e w42 ⟨rfl, hb⟩; refine ⟨_, rfl, ?_⟩; have n0_ := Aside0.mk (below_step (by repeat (first | (with_reducible first | exact HB.out | apply below_alloc | apply pw_below_drewN | apply below_drew1) | exact HB.out)) hb); clear HB; have HB := n0_; clear n0_; (try clear hb); (try clear hb2); (try clear hk); (try clear hi)) | ((with_reducible refine gate_callee (f := 18) rfl ?_); refine goesL_ (some 53) rfl rfl Tryd.func18 (by kernel_rfl) rfl #[.string t199, .int .i64 t200] rfl (by (try simp only [List.map_toArray, List.map_cons, List.map_nil]); first | done | rfl | (simp only [List.length_drop, List.length_take]; rfl)) ?_; (with_reducible refine (host_Write.calls kj8 t199 t200 t202 t203 _ A24.out).mono ?_); rintro e w43 ⟨rfl, hb⟩; refine ⟨_, rfl, ?_⟩; have n0_ := Aside0.mk (below_step (by repeat (first | (with_reducible first | exact HB.out | apply below_alloc | apply pw_below_drewN | apply below_drew1) | exact HB.out)) hb); clear HB; have HB := n0_; clear n0_; (try clear hb); (try clear hb2); (try clear hk); (try clear hi)))
            go_ret
            exact ⟨by first | rfl | (simp [errW_none, errW_some] <;> rfl) | (simp [*, errW_none, errW_some] <;> rfl), by repeat (first | (with_reducible first | exact HB.out | apply below_alloc | apply pw_below_drewN | apply below_drew1) | exact HB.out)⟩
  · replace c5 := Bool.eq_false_iff.mpr c5
    subst c5
    have H1 : (some false) = some r := by rw [if_neg (show ¬ (false = true) by decide)] at H; exact H
    clear H
    have H := H1
    clear H1
    obtain rfl := Option.some.inj H
    go_enter Tryd.func5, Tryd.ntmps5
    go_wp2_with (first | ((with_reducible refine gate_callee (f := 17) rfl ?_); refine goesL_ (some 16) rfl rfl Tryd.func17 (by kernel_rfl) rfl #[] rfl (by (try simp only [List.map_toArray, List.map_cons, List.map_nil]); first | done | rfl | (simp only [List.length_drop, List.length_take]; rfl)) ?_; (with_reducible refine (chinoiserielaw06_works.calls k  false _ A4.out).mono ?_); rintro e w44 ⟨rfl, hb⟩; refine ⟨_, rfl, ?_⟩; have n0_ := Aside0.mk (below_step (by repeat (first | (with_reducible first | exact HB.out | apply below_alloc | apply pw_below_drewN | apply below_drew1) | exact HB.out)) hb); clear HB; have HB := n0_; clear n0_; (try clear hb); (try clear hb2); (try clear hk); (try clear hi)))
    go_ret
    exact ⟨by first | rfl | (simp [errW_none, errW_some] <;> rfl) | (simp [*, errW_none, errW_some] <;> rfl), by repeat (first | (with_reducible first | exact HB.out | apply below_alloc | apply pw_below_drewN | apply below_drew1) | exact HB.out)⟩

/-! ### chinoiserielaw06_HostOnce: function 6 -/
def chinoiserielaw06_HostOnce.f (k : Nat) (a0 : ByteArray) : Option (Bool) := if 0 ≤ (mn (a0.size : Int) 100) then (if (mn (a0.size : Int) 100) ≤ (a0.size : Int) then ((host_Norm.f (a0.extract 0 ((mn (a0.size : Int) 100) : Int).toNat)).bind fun bt204 => (if bt204.2.2 = 0 then ((host_Write.f k bt204.1 bt204.2.1).bind fun bt208 => ((host_Norm.f bt208.1).bind fun bt210 => (if bt208.2 = 0 then (if bt210.2.2 = 0 then (if bt210.1.toList = bt204.1.toList then (if bt210.2.1 = bt204.2.1 then (if (bt208.1.size : Int) ≤ ((a0.extract 0 ((mn (a0.size : Int) 100) : Int).toNat).size : Int) then (if (bt204.1.size : Int) ≤ 60 then ((host_Plain.f bt204.1).bind fun t213 => (if t213 = 0 then ((chinoiserielaw06_works.f k).bind fun t214 => (some t214)) else (some false))) else (some false)) else (some false)) else (some false)) else (some false)) else (some false)) else (some false)))) else (if bt204.2.2 = 60 then (if bt204.1.toList = ([] : List UInt8) then (if bt204.2.1 = 0 then ((chinoiserielaw06_works.f k).bind fun t207 => (some t207)) else (some false)) else (some false)) else (some false)))) else (none)) else (none)
theorem chinoiserielaw06_HostOnce.mono : ∀ a0 k, LeO (chinoiserielaw06_HostOnce.f k a0) (chinoiserielaw06_HostOnce.f (k + 1) a0) := by
  intro a0 k
  unfold chinoiserielaw06_HostOnce.f
  repeat' first
      | (with_reducible exact chinoiserielaw06_works.mono _)
      | (with_reducible exact host_Write.mono _ _ _)
      | (with_reducible exact LeO.refl _)
      | (with_reducible exact LeO.none _)
      | (with_reducible refine LeO.ite ?_ ?_)
      | (with_reducible refine LeO.bind ?_ (fun _ => ?_))
      | exact chinoiserielaw06_works.mono _
      | exact host_Write.mono _ _ _
      | exact LeO.none _
      | refine LeO.ite ?_ ?_
      | refine LeO.bind ?_ (fun _ => ?_)
set_option maxHeartbeats 8000000 in
set_option maxRecDepth 100000 in
theorem chinoiserielaw06_HostOnce.calls (k : Nat) (a0 : ByteArray) (r : Bool) (w : World) (h : chinoiserielaw06_HostOnce.f k a0 = some r) (hL : LW w := by first | exact hL | exact LW.below hL (by repeat (first | (with_reducible first | exact HB.out | apply below_alloc | apply pw_below_drewN | apply below_drew1) | exact HB.out))) :
    Calls Tryd.prog 6 #[.string a0] w fun e w' => e = .returned (.bool r) ∧ Below w.heap.size w w' := by
  have HB := Aside0.mk (Below.refl w.heap.size w)
  have H : (if 0 ≤ (mn (a0.size : Int) 100) then (if (mn (a0.size : Int) 100) ≤ (a0.size : Int) then ((host_Norm.f (a0.extract 0 ((mn (a0.size : Int) 100) : Int).toNat)).bind fun bt204 => (if bt204.2.2 = 0 then ((host_Write.f k bt204.1 bt204.2.1).bind fun bt208 => ((host_Norm.f bt208.1).bind fun bt210 => (if bt208.2 = 0 then (if bt210.2.2 = 0 then (if bt210.1.toList = bt204.1.toList then (if bt210.2.1 = bt204.2.1 then (if (bt208.1.size : Int) ≤ ((a0.extract 0 ((mn (a0.size : Int) 100) : Int).toNat).size : Int) then (if (bt204.1.size : Int) ≤ 60 then ((host_Plain.f bt204.1).bind fun t213 => (if t213 = 0 then ((chinoiserielaw06_works.f k).bind fun t214 => (some t214)) else (some false))) else (some false)) else (some false)) else (some false)) else (some false)) else (some false)) else (some false)))) else (if bt204.2.2 = 60 then (if bt204.1.toList = ([] : List UInt8) then (if bt204.2.1 = 0 then ((chinoiserielaw06_works.f k).bind fun t207 => (some t207)) else (some false)) else (some false)) else (some false)))) else (none)) else (none)) = some r := h
  clear h
  obtain ⟨ji2, hji2⟩ : ∃ j_ : Int, (mn (a0.size : Int) 100) = j_ := ⟨_, rfl⟩
  replace H : (if 0 ≤ (ji2) then (if (ji2) ≤ (a0.size : Int) then ((host_Norm.f (a0.extract 0 ((ji2) : Int).toNat)).bind fun bt204 => (if bt204.2.2 = 0 then ((host_Write.f k bt204.1 bt204.2.1).bind fun bt208 => ((host_Norm.f bt208.1).bind fun bt210 => (if bt208.2 = 0 then (if bt210.2.2 = 0 then (if bt210.1.toList = bt204.1.toList then (if bt210.2.1 = bt204.2.1 then (if (bt208.1.size : Int) ≤ ((a0.extract 0 ((ji2) : Int).toNat).size : Int) then (if (bt204.1.size : Int) ≤ 60 then ((host_Plain.f bt204.1).bind fun t213 => (if t213 = 0 then ((chinoiserielaw06_works.f k).bind fun t214 => (some t214)) else (some false))) else (some false)) else (some false)) else (some false)) else (some false)) else (some false)) else (some false)))) else (if bt204.2.2 = 60 then (if bt204.1.toList = ([] : List UInt8) then (if bt204.2.1 = 0 then ((chinoiserielaw06_works.f k).bind fun t207 => (some t207)) else (some false)) else (some false)) else (some false)))) else (none)) else (none)) = some r := by first | (rw [hji2] at H; exact H) | (simp only [hji2] at H ⊢; exact H)
  (try (have hji2h : ji2 ≤ 100 := by (rw [← hji2]; unfold mn; (repeat' split) <;> omega)))
  (try (have hji2g : ji2 ≤ 64 := by omega))
  (try (have hji2l : 0 ≤ ji2 := by (rw [← hji2]; unfold mn; (repeat' split) <;> omega)))
  (try (have hji2m : 0 ≤ ji2 := by omega))
  have hji2_ : (if 100 < (a0.size : Int) then 100 else (a0.size : Int)) = ji2 := hji2
  by_cases c3 : 0 ≤ (ji2)
  · rw [if_pos c3] at H
    have c3b0 := eq_true c3
    have c3b1 : decide (0 ≤ (ji2)) = true := decide_eq_true c3
    clear c3
    by_cases c4 : (ji2) ≤ (a0.size : Int)
    · rw [if_pos c4] at H
      have c4b0 := eq_true c4
      have c4b1 : decide ((ji2) ≤ (a0.size : Int)) = true := decide_eq_true c4
      clear c4
      replace H := Option.bind_eq_some_iff.mp H
      obtain ⟨⟨t204, t205, t206⟩, A50, H⟩ := H
      replace H : (if t206 = 0 then ((host_Write.f k t204 t205).bind fun bt208 => ((host_Norm.f bt208.1).bind fun bt210 => (if bt208.2 = 0 then (if bt210.2.2 = 0 then (if bt210.1.toList = t204.toList then (if bt210.2.1 = t205 then (if (bt208.1.size : Int) ≤ ((a0.extract 0 ((ji2) : Int).toNat).size : Int) then (if (t204.size : Int) ≤ 60 then ((host_Plain.f t204).bind fun t213 => (if t213 = 0 then ((chinoiserielaw06_works.f k).bind fun t214 => (some t214)) else (some false))) else (some false)) else (some false)) else (some false)) else (some false)) else (some false)) else (some false)))) else (if t206 = 60 then (if t204.toList = ([] : List UInt8) then (if t205 = 0 then ((chinoiserielaw06_works.f k).bind fun t207 => (some t207)) else (some false)) else (some false)) else (some false))) = some r := H
      have A5 := Aside0.mk A50
      clear A50
      by_cases c6 : t206 = 0
      · rw [if_pos c6] at H
        have c6b0 : (t206 == 0) = true := beq_iff_eq.mpr c6
        have c6b1 : (t206 != 0) = false := bne_eq_false_iff_eq.mpr c6
        clear c6
        replace H := Option.bind_eq_some_iff.mp H
        obtain ⟨⟨t208, t209⟩, A70, H⟩ := H
        replace H : ((host_Norm.f t208).bind fun bt210 => (if t209 = 0 then (if bt210.2.2 = 0 then (if bt210.1.toList = t204.toList then (if bt210.2.1 = t205 then (if (t208.size : Int) ≤ ((a0.extract 0 ((ji2) : Int).toNat).size : Int) then (if (t204.size : Int) ≤ 60 then ((host_Plain.f t204).bind fun t213 => (if t213 = 0 then ((chinoiserielaw06_works.f k).bind fun t214 => (some t214)) else (some false))) else (some false)) else (some false)) else (some false)) else (some false)) else (some false)) else (some false))) = some r := H
        have A7 := Aside0.mk A70
        clear A70
        replace H := Option.bind_eq_some_iff.mp H
        obtain ⟨⟨t210, t211, t212⟩, A80, H⟩ := H
        replace H : (if t209 = 0 then (if t212 = 0 then (if t210.toList = t204.toList then (if t211 = t205 then (if (t208.size : Int) ≤ ((a0.extract 0 ((ji2) : Int).toNat).size : Int) then (if (t204.size : Int) ≤ 60 then ((host_Plain.f t204).bind fun t213 => (if t213 = 0 then ((chinoiserielaw06_works.f k).bind fun t214 => (some t214)) else (some false))) else (some false)) else (some false)) else (some false)) else (some false)) else (some false)) else (some false)) = some r := H
        have A8 := Aside0.mk A80
        clear A80
        by_cases c9 : t209 = 0
        · rw [if_pos c9] at H
          have c9b0 : (t209 == 0) = true := beq_iff_eq.mpr c9
          have c9b1 : (t209 != 0) = false := bne_eq_false_iff_eq.mpr c9
          clear c9
          by_cases c10 : t212 = 0
          · rw [if_pos c10] at H
            have c10b0 : (t212 == 0) = true := beq_iff_eq.mpr c10
            have c10b1 : (t212 != 0) = false := bne_eq_false_iff_eq.mpr c10
            clear c10
            by_cases c11 : t210.toList = t204.toList
            · rw [if_pos c11] at H
              have c11b0 : (t210.toList == t204.toList) = true := beq_iff_eq.mpr c11
              have c11b1 : (t210.toList != t204.toList) = false := bne_eq_false_iff_eq.mpr c11
              clear c11
              by_cases c12 : t211 = t205
              · rw [if_pos c12] at H
                have c12b0 : (t211 == t205) = true := beq_iff_eq.mpr c12
                have c12b1 : (t211 != t205) = false := bne_eq_false_iff_eq.mpr c12
                clear c12
                by_cases c13 : (t208.size : Int) ≤ ((a0.extract 0 ((ji2) : Int).toNat).size : Int)
                · rw [if_pos c13] at H
                  have c13b0 : decide ((t208.size : Int) ≤ ((a0.extract 0 ((ji2) : Int).toNat).size : Int)) = true := decide_eq_true c13
                  have c13b1 : decide (t208.size ≤ (a0.extract 0 ((ji2) : Int).toNat).size) = true := decide_eq_true (Int.ofNat_le.mp c13)
                  clear c13
                  by_cases c14 : (t204.size : Int) ≤ 60
                  · rw [if_pos c14] at H
                    have c14b0 : decide ((t204.size : Int) ≤ 60) = true := decide_eq_true c14
                    have c14b1 : decide (t204.size ≤ 60) = true := decide_eq_true (by omega)
                    clear c14
                    replace H := Option.bind_eq_some_iff.mp H
                    obtain ⟨t213, A150, H⟩ := H
                    replace H : (if t213 = 0 then ((chinoiserielaw06_works.f k).bind fun t214 => (some t214)) else (some false)) = some r := H
                    have A15 := Aside0.mk A150
                    clear A150
                    by_cases c16 : t213 = 0
                    · rw [if_pos c16] at H
                      have c16b0 : (t213 == 0) = true := beq_iff_eq.mpr c16
                      have c16b1 : (t213 != 0) = false := bne_eq_false_iff_eq.mpr c16
                      clear c16
                      replace H := Option.bind_eq_some_iff.mp H
                      obtain ⟨t214, A170, H⟩ := H
                      replace H : (some t214) = some r := H
                      have A17 := Aside0.mk A170
                      clear A170
                      obtain rfl := Option.some.inj H
                      go_enter Tryd.func6, Tryd.ntmps6
                      go_wp2_with (first | ((with_reducible refine gate_callee (f := 11) rfl ?_); refine goesL_ (some 18) rfl rfl Tryd.func11 (by kernel_rfl) rfl #[.string (a0.extract 0 ((ji2) : Int).toNat)] rfl (by (try simp only [List.map_toArray, List.map_cons, List.map_nil]); first | done | (simp only [hji2]; rfl) | rfl | (simp only [List.length_drop, List.length_take]; rfl)) ?_; (with_reducible refine (host_Norm.calls (a0.extract 0 ((ji2) : Int).toNat) t204 t205 t206 _ A5.out).mono ?_); rintro e w18 ⟨rfl, hb⟩; refine ⟨_, rfl, ?_⟩; have n0_ := Aside0.mk (below_step (by repeat (first | (with_reducible first | exact HB.out | apply below_alloc | apply pw_below_drewN | apply below_drew1) | exact HB.out)) hb); clear HB; have HB := n0_; clear n0_; (try clear hb); (try clear hb2); (try clear hk); (try clear hi)) | ((with_reducible refine gate_callee (f := 18) rfl ?_); refine goesL_ (some 40) rfl rfl Tryd.func18 (by kernel_rfl) rfl #[.string t204, .int .i64 t205] rfl (by (try simp only [List.map_toArray, List.map_cons, List.map_nil]); first | done | rfl | (simp only [List.length_drop, List.length_take]; rfl)) ?_; (with_reducible refine (host_Write.calls k t204 t205 t208 t209 _ A7.out).mono ?_); rintro e w19 ⟨rfl, hb⟩; refine ⟨_, rfl, ?_⟩; have n0_ := Aside0.mk (below_step (by repeat (first | (with_reducible first | exact HB.out | apply below_alloc | apply pw_below_drewN | apply below_drew1) | exact HB.out)) hb); clear HB; have HB := n0_; clear n0_; (try clear hb); (try clear hb2); (try clear hk); (try clear hi)) | ((with_reducible refine gate_callee (f := 11) rfl ?_); refine goesL_ (some 45) rfl rfl Tryd.func11 (by kernel_rfl) rfl #[.string t208] rfl (by (try simp only [List.map_toArray, List.map_cons, List.map_nil]); first | done | rfl | (simp only [List.length_drop, List.length_take]; rfl)) ?_; (with_reducible refine (host_Norm.calls t208 t210 t211 t212 _ A8.out).mono ?_); rintro e w20 ⟨rfl, hb⟩; refine ⟨_, rfl, ?_⟩; have n0_ := Aside0.mk (below_step (by repeat (first | (with_reducible first | exact HB.out | apply below_alloc | apply pw_below_drewN | apply below_drew1) | exact HB.out)) hb); clear HB; have HB := n0_; clear n0_; (try clear hb); (try clear hb2); (try clear hk); (try clear hi)) | (go_at_call 13; (with_reducible refine (host_Plain.calls t204 t213 _ A15.out).mono ?_); rintro e w21 ⟨rfl, hb⟩; have n0_ := Aside0.mk (below_step (by repeat (first | (with_reducible first | exact HB.out | apply below_alloc | apply pw_below_drewN | apply below_drew1) | exact HB.out)) hb); clear HB; have HB := n0_; clear n0_; (try clear hb); (try clear hb2); (try clear hk); (try clear hi)) | (go_at_call 17; (with_reducible refine (chinoiserielaw06_works.calls k  t214 _ A17.out).mono ?_); rintro e w22 ⟨rfl, hb⟩; have n0_ := Aside0.mk (below_step (by repeat (first | (with_reducible first | exact HB.out | apply below_alloc | apply pw_below_drewN | apply below_drew1) | exact HB.out)) hb); clear HB; have HB := n0_; clear n0_; (try clear hb); (try clear hb2); (try clear hk); (try clear hi)))
                      all_goals (try (exfalso; first | (simp only [ByteArray.size_append, ByteArray.size_extract, Nat.min_self, Nat.sub_zero, decide_eq_true_eq, decide_eq_false_iff_not, show (⟨#[42, 46]⟩ : ByteArray).size = 2 from rfl] at *; done) | (simp only [ByteArray.size_append, ByteArray.size_extract, Nat.min_self, Nat.sub_zero, decide_eq_true_eq, decide_eq_false_iff_not, show (⟨#[42, 46]⟩ : ByteArray).size = 2 from rfl] at *; omega) | contradiction))
                      go_ret
                      exact ⟨by first | rfl | (simp [errW_none, errW_some] <;> rfl) | (simp only [← hji2]; first | rfl | (simp [errW_none, errW_some] <;> rfl)) | (simp [*, errW_none, errW_some] <;> rfl), by repeat (first | (with_reducible first | exact HB.out | apply below_alloc | apply pw_below_drewN | apply below_drew1) | exact HB.out)⟩
                    · rw [if_neg c16] at H
                      have c16b0 : (t213 == 0) = false := beq_eq_false_iff_ne.mpr c16
                      have c16b1 : (t213 != 0) = true := bne_iff_ne.mpr c16
                      obtain rfl := Option.some.inj H
                      go_enter Tryd.func6, Tryd.ntmps6
                      go_wp2_with (first | ((with_reducible refine gate_callee (f := 11) rfl ?_); refine goesL_ (some 18) rfl rfl Tryd.func11 (by kernel_rfl) rfl #[.string (a0.extract 0 ((ji2) : Int).toNat)] rfl (by (try simp only [List.map_toArray, List.map_cons, List.map_nil]); first | done | (simp only [hji2]; rfl) | rfl | (simp only [List.length_drop, List.length_take]; rfl)) ?_; (with_reducible refine (host_Norm.calls (a0.extract 0 ((ji2) : Int).toNat) t204 t205 t206 _ A5.out).mono ?_); rintro e w23 ⟨rfl, hb⟩; refine ⟨_, rfl, ?_⟩; have n0_ := Aside0.mk (below_step (by repeat (first | (with_reducible first | exact HB.out | apply below_alloc | apply pw_below_drewN | apply below_drew1) | exact HB.out)) hb); clear HB; have HB := n0_; clear n0_; (try clear hb); (try clear hb2); (try clear hk); (try clear hi)) | ((with_reducible refine gate_callee (f := 18) rfl ?_); refine goesL_ (some 40) rfl rfl Tryd.func18 (by kernel_rfl) rfl #[.string t204, .int .i64 t205] rfl (by (try simp only [List.map_toArray, List.map_cons, List.map_nil]); first | done | rfl | (simp only [List.length_drop, List.length_take]; rfl)) ?_; (with_reducible refine (host_Write.calls k t204 t205 t208 t209 _ A7.out).mono ?_); rintro e w24 ⟨rfl, hb⟩; refine ⟨_, rfl, ?_⟩; have n0_ := Aside0.mk (below_step (by repeat (first | (with_reducible first | exact HB.out | apply below_alloc | apply pw_below_drewN | apply below_drew1) | exact HB.out)) hb); clear HB; have HB := n0_; clear n0_; (try clear hb); (try clear hb2); (try clear hk); (try clear hi)) | ((with_reducible refine gate_callee (f := 11) rfl ?_); refine goesL_ (some 45) rfl rfl Tryd.func11 (by kernel_rfl) rfl #[.string t208] rfl (by (try simp only [List.map_toArray, List.map_cons, List.map_nil]); first | done | rfl | (simp only [List.length_drop, List.length_take]; rfl)) ?_; (with_reducible refine (host_Norm.calls t208 t210 t211 t212 _ A8.out).mono ?_); rintro e w25 ⟨rfl, hb⟩; refine ⟨_, rfl, ?_⟩; have n0_ := Aside0.mk (below_step (by repeat (first | (with_reducible first | exact HB.out | apply below_alloc | apply pw_below_drewN | apply below_drew1) | exact HB.out)) hb); clear HB; have HB := n0_; clear n0_; (try clear hb); (try clear hb2); (try clear hk); (try clear hi)) | (go_at_call 13; (with_reducible refine (host_Plain.calls t204 t213 _ A15.out).mono ?_); rintro e w26 ⟨rfl, hb⟩; have n0_ := Aside0.mk (below_step (by repeat (first | (with_reducible first | exact HB.out | apply below_alloc | apply pw_below_drewN | apply below_drew1) | exact HB.out)) hb); clear HB; have HB := n0_; clear n0_; (try clear hb); (try clear hb2); (try clear hk); (try clear hi)))
                      all_goals (try (exfalso; first | (simp only [ByteArray.size_append, ByteArray.size_extract, Nat.min_self, Nat.sub_zero, decide_eq_true_eq, decide_eq_false_iff_not, show (⟨#[42, 46]⟩ : ByteArray).size = 2 from rfl] at *; done) | (simp only [ByteArray.size_append, ByteArray.size_extract, Nat.min_self, Nat.sub_zero, decide_eq_true_eq, decide_eq_false_iff_not, show (⟨#[42, 46]⟩ : ByteArray).size = 2 from rfl] at *; omega) | contradiction))
                      go_ret
                      exact ⟨by first | rfl | (simp [errW_none, errW_some] <;> rfl) | (simp only [← hji2]; first | rfl | (simp [errW_none, errW_some] <;> rfl)) | (simp [*, errW_none, errW_some] <;> rfl), by repeat (first | (with_reducible first | exact HB.out | apply below_alloc | apply pw_below_drewN | apply below_drew1) | exact HB.out)⟩
                  · rw [if_neg c14] at H
                    have c14b0 : decide ((t204.size : Int) ≤ 60) = false := decide_eq_false c14
                    have c14b1 : decide (t204.size ≤ 60) = false := decide_eq_false (by omega)
                    clear c14
                    obtain rfl := Option.some.inj H
                    go_enter Tryd.func6, Tryd.ntmps6
                    go_wp2_with (first | ((with_reducible refine gate_callee (f := 11) rfl ?_); refine goesL_ (some 18) rfl rfl Tryd.func11 (by kernel_rfl) rfl #[.string (a0.extract 0 ((ji2) : Int).toNat)] rfl (by (try simp only [List.map_toArray, List.map_cons, List.map_nil]); first | done | (simp only [hji2]; rfl) | rfl | (simp only [List.length_drop, List.length_take]; rfl)) ?_; (with_reducible refine (host_Norm.calls (a0.extract 0 ((ji2) : Int).toNat) t204 t205 t206 _ A5.out).mono ?_); rintro e w27 ⟨rfl, hb⟩; refine ⟨_, rfl, ?_⟩; have n0_ := Aside0.mk (below_step (by repeat (first | (with_reducible first | exact HB.out | apply below_alloc | apply pw_below_drewN | apply below_drew1) | exact HB.out)) hb); clear HB; have HB := n0_; clear n0_; (try clear hb); (try clear hb2); (try clear hk); (try clear hi)) | ((with_reducible refine gate_callee (f := 18) rfl ?_); refine goesL_ (some 40) rfl rfl Tryd.func18 (by kernel_rfl) rfl #[.string t204, .int .i64 t205] rfl (by (try simp only [List.map_toArray, List.map_cons, List.map_nil]); first | done | rfl | (simp only [List.length_drop, List.length_take]; rfl)) ?_; (with_reducible refine (host_Write.calls k t204 t205 t208 t209 _ A7.out).mono ?_); rintro e w28 ⟨rfl, hb⟩; refine ⟨_, rfl, ?_⟩; have n0_ := Aside0.mk (below_step (by repeat (first | (with_reducible first | exact HB.out | apply below_alloc | apply pw_below_drewN | apply below_drew1) | exact HB.out)) hb); clear HB; have HB := n0_; clear n0_; (try clear hb); (try clear hb2); (try clear hk); (try clear hi)) | ((with_reducible refine gate_callee (f := 11) rfl ?_); refine goesL_ (some 45) rfl rfl Tryd.func11 (by kernel_rfl) rfl #[.string t208] rfl (by (try simp only [List.map_toArray, List.map_cons, List.map_nil]); first | done | rfl | (simp only [List.length_drop, List.length_take]; rfl)) ?_; (with_reducible refine (host_Norm.calls t208 t210 t211 t212 _ A8.out).mono ?_); rintro e w29 ⟨rfl, hb⟩; refine ⟨_, rfl, ?_⟩; have n0_ := Aside0.mk (below_step (by repeat (first | (with_reducible first | exact HB.out | apply below_alloc | apply pw_below_drewN | apply below_drew1) | exact HB.out)) hb); clear HB; have HB := n0_; clear n0_; (try clear hb); (try clear hb2); (try clear hk); (try clear hi)))
                    all_goals (try (exfalso; first | (simp only [ByteArray.size_append, ByteArray.size_extract, Nat.min_self, Nat.sub_zero, decide_eq_true_eq, decide_eq_false_iff_not, show (⟨#[42, 46]⟩ : ByteArray).size = 2 from rfl] at *; done) | (simp only [ByteArray.size_append, ByteArray.size_extract, Nat.min_self, Nat.sub_zero, decide_eq_true_eq, decide_eq_false_iff_not, show (⟨#[42, 46]⟩ : ByteArray).size = 2 from rfl] at *; omega) | contradiction))
                    go_ret
                    exact ⟨by first | rfl | (simp [errW_none, errW_some] <;> rfl) | (simp only [← hji2]; first | rfl | (simp [errW_none, errW_some] <;> rfl)) | (simp [*, errW_none, errW_some] <;> rfl), by repeat (first | (with_reducible first | exact HB.out | apply below_alloc | apply pw_below_drewN | apply below_drew1) | exact HB.out)⟩
                · rw [if_neg c13] at H
                  have c13b0 : decide ((t208.size : Int) ≤ ((a0.extract 0 ((ji2) : Int).toNat).size : Int)) = false := decide_eq_false c13
                  have c13b1 : decide (t208.size ≤ (a0.extract 0 ((ji2) : Int).toNat).size) = false := decide_eq_false (fun h => c13 (Int.ofNat_le.mpr h))
                  clear c13
                  obtain rfl := Option.some.inj H
                  go_enter Tryd.func6, Tryd.ntmps6
                  go_wp2_with (first | ((with_reducible refine gate_callee (f := 11) rfl ?_); refine goesL_ (some 18) rfl rfl Tryd.func11 (by kernel_rfl) rfl #[.string (a0.extract 0 ((ji2) : Int).toNat)] rfl (by (try simp only [List.map_toArray, List.map_cons, List.map_nil]); first | done | (simp only [hji2]; rfl) | rfl | (simp only [List.length_drop, List.length_take]; rfl)) ?_; (with_reducible refine (host_Norm.calls (a0.extract 0 ((ji2) : Int).toNat) t204 t205 t206 _ A5.out).mono ?_); rintro e w30 ⟨rfl, hb⟩; refine ⟨_, rfl, ?_⟩; have n0_ := Aside0.mk (below_step (by repeat (first | (with_reducible first | exact HB.out | apply below_alloc | apply pw_below_drewN | apply below_drew1) | exact HB.out)) hb); clear HB; have HB := n0_; clear n0_; (try clear hb); (try clear hb2); (try clear hk); (try clear hi)) | ((with_reducible refine gate_callee (f := 18) rfl ?_); refine goesL_ (some 40) rfl rfl Tryd.func18 (by kernel_rfl) rfl #[.string t204, .int .i64 t205] rfl (by (try simp only [List.map_toArray, List.map_cons, List.map_nil]); first | done | rfl | (simp only [List.length_drop, List.length_take]; rfl)) ?_; (with_reducible refine (host_Write.calls k t204 t205 t208 t209 _ A7.out).mono ?_); rintro e w31 ⟨rfl, hb⟩; refine ⟨_, rfl, ?_⟩; have n0_ := Aside0.mk (below_step (by repeat (first | (with_reducible first | exact HB.out | apply below_alloc | apply pw_below_drewN | apply below_drew1) | exact HB.out)) hb); clear HB; have HB := n0_; clear n0_; (try clear hb); (try clear hb2); (try clear hk); (try clear hi)) | ((with_reducible refine gate_callee (f := 11) rfl ?_); refine goesL_ (some 45) rfl rfl Tryd.func11 (by kernel_rfl) rfl #[.string t208] rfl (by (try simp only [List.map_toArray, List.map_cons, List.map_nil]); first | done | rfl | (simp only [List.length_drop, List.length_take]; rfl)) ?_; (with_reducible refine (host_Norm.calls t208 t210 t211 t212 _ A8.out).mono ?_); rintro e w32 ⟨rfl, hb⟩; refine ⟨_, rfl, ?_⟩; have n0_ := Aside0.mk (below_step (by repeat (first | (with_reducible first | exact HB.out | apply below_alloc | apply pw_below_drewN | apply below_drew1) | exact HB.out)) hb); clear HB; have HB := n0_; clear n0_; (try clear hb); (try clear hb2); (try clear hk); (try clear hi)))
                  all_goals (try (exfalso; first | (simp only [ByteArray.size_append, ByteArray.size_extract, Nat.min_self, Nat.sub_zero, decide_eq_true_eq, decide_eq_false_iff_not, show (⟨#[42, 46]⟩ : ByteArray).size = 2 from rfl] at *; done) | (simp only [ByteArray.size_append, ByteArray.size_extract, Nat.min_self, Nat.sub_zero, decide_eq_true_eq, decide_eq_false_iff_not, show (⟨#[42, 46]⟩ : ByteArray).size = 2 from rfl] at *; omega) | contradiction))
                  go_ret
                  exact ⟨by first | rfl | (simp [errW_none, errW_some] <;> rfl) | (simp only [← hji2]; first | rfl | (simp [errW_none, errW_some] <;> rfl)) | (simp [*, errW_none, errW_some] <;> rfl), by repeat (first | (with_reducible first | exact HB.out | apply below_alloc | apply pw_below_drewN | apply below_drew1) | exact HB.out)⟩
              · rw [if_neg c12] at H
                have c12b0 : (t211 == t205) = false := beq_eq_false_iff_ne.mpr c12
                have c12b1 : (t211 != t205) = true := bne_iff_ne.mpr c12
                obtain rfl := Option.some.inj H
                go_enter Tryd.func6, Tryd.ntmps6
                go_wp2_with (first | ((with_reducible refine gate_callee (f := 11) rfl ?_); refine goesL_ (some 18) rfl rfl Tryd.func11 (by kernel_rfl) rfl #[.string (a0.extract 0 ((ji2) : Int).toNat)] rfl (by (try simp only [List.map_toArray, List.map_cons, List.map_nil]); first | done | (simp only [hji2]; rfl) | rfl | (simp only [List.length_drop, List.length_take]; rfl)) ?_; (with_reducible refine (host_Norm.calls (a0.extract 0 ((ji2) : Int).toNat) t204 t205 t206 _ A5.out).mono ?_); rintro e w33 ⟨rfl, hb⟩; refine ⟨_, rfl, ?_⟩; have n0_ := Aside0.mk (below_step (by repeat (first | (with_reducible first | exact HB.out | apply below_alloc | apply pw_below_drewN | apply below_drew1) | exact HB.out)) hb); clear HB; have HB := n0_; clear n0_; (try clear hb); (try clear hb2); (try clear hk); (try clear hi)) | ((with_reducible refine gate_callee (f := 18) rfl ?_); refine goesL_ (some 40) rfl rfl Tryd.func18 (by kernel_rfl) rfl #[.string t204, .int .i64 t205] rfl (by (try simp only [List.map_toArray, List.map_cons, List.map_nil]); first | done | rfl | (simp only [List.length_drop, List.length_take]; rfl)) ?_; (with_reducible refine (host_Write.calls k t204 t205 t208 t209 _ A7.out).mono ?_); rintro e w34 ⟨rfl, hb⟩; refine ⟨_, rfl, ?_⟩; have n0_ := Aside0.mk (below_step (by repeat (first | (with_reducible first | exact HB.out | apply below_alloc | apply pw_below_drewN | apply below_drew1) | exact HB.out)) hb); clear HB; have HB := n0_; clear n0_; (try clear hb); (try clear hb2); (try clear hk); (try clear hi)) | ((with_reducible refine gate_callee (f := 11) rfl ?_); refine goesL_ (some 45) rfl rfl Tryd.func11 (by kernel_rfl) rfl #[.string t208] rfl (by (try simp only [List.map_toArray, List.map_cons, List.map_nil]); first | done | rfl | (simp only [List.length_drop, List.length_take]; rfl)) ?_; (with_reducible refine (host_Norm.calls t208 t210 t211 t212 _ A8.out).mono ?_); rintro e w35 ⟨rfl, hb⟩; refine ⟨_, rfl, ?_⟩; have n0_ := Aside0.mk (below_step (by repeat (first | (with_reducible first | exact HB.out | apply below_alloc | apply pw_below_drewN | apply below_drew1) | exact HB.out)) hb); clear HB; have HB := n0_; clear n0_; (try clear hb); (try clear hb2); (try clear hk); (try clear hi)))
                all_goals (try (exfalso; first | (simp only [ByteArray.size_append, ByteArray.size_extract, Nat.min_self, Nat.sub_zero, decide_eq_true_eq, decide_eq_false_iff_not, show (⟨#[42, 46]⟩ : ByteArray).size = 2 from rfl] at *; done) | (simp only [ByteArray.size_append, ByteArray.size_extract, Nat.min_self, Nat.sub_zero, decide_eq_true_eq, decide_eq_false_iff_not, show (⟨#[42, 46]⟩ : ByteArray).size = 2 from rfl] at *; omega) | contradiction))
                go_ret
                exact ⟨by first | rfl | (simp [errW_none, errW_some] <;> rfl) | (simp only [← hji2]; first | rfl | (simp [errW_none, errW_some] <;> rfl)) | (simp [*, errW_none, errW_some] <;> rfl), by repeat (first | (with_reducible first | exact HB.out | apply below_alloc | apply pw_below_drewN | apply below_drew1) | exact HB.out)⟩
            · rw [if_neg c11] at H
              have c11b0 : (t210.toList == t204.toList) = false := beq_eq_false_iff_ne.mpr c11
              have c11b1 : (t210.toList != t204.toList) = true := bne_iff_ne.mpr c11
              obtain rfl := Option.some.inj H
              go_enter Tryd.func6, Tryd.ntmps6
              go_wp2_with (first | ((with_reducible refine gate_callee (f := 11) rfl ?_); refine goesL_ (some 18) rfl rfl Tryd.func11 (by kernel_rfl) rfl #[.string (a0.extract 0 ((ji2) : Int).toNat)] rfl (by (try simp only [List.map_toArray, List.map_cons, List.map_nil]); first | done | (simp only [hji2]; rfl) | rfl | (simp only [List.length_drop, List.length_take]; rfl)) ?_; (with_reducible refine (host_Norm.calls (a0.extract 0 ((ji2) : Int).toNat) t204 t205 t206 _ A5.out).mono ?_); rintro e w36 ⟨rfl, hb⟩; refine ⟨_, rfl, ?_⟩; have n0_ := Aside0.mk (below_step (by repeat (first | (with_reducible first | exact HB.out | apply below_alloc | apply pw_below_drewN | apply below_drew1) | exact HB.out)) hb); clear HB; have HB := n0_; clear n0_; (try clear hb); (try clear hb2); (try clear hk); (try clear hi)) | ((with_reducible refine gate_callee (f := 18) rfl ?_); refine goesL_ (some 40) rfl rfl Tryd.func18 (by kernel_rfl) rfl #[.string t204, .int .i64 t205] rfl (by (try simp only [List.map_toArray, List.map_cons, List.map_nil]); first | done | rfl | (simp only [List.length_drop, List.length_take]; rfl)) ?_; (with_reducible refine (host_Write.calls k t204 t205 t208 t209 _ A7.out).mono ?_); rintro e w37 ⟨rfl, hb⟩; refine ⟨_, rfl, ?_⟩; have n0_ := Aside0.mk (below_step (by repeat (first | (with_reducible first | exact HB.out | apply below_alloc | apply pw_below_drewN | apply below_drew1) | exact HB.out)) hb); clear HB; have HB := n0_; clear n0_; (try clear hb); (try clear hb2); (try clear hk); (try clear hi)) | ((with_reducible refine gate_callee (f := 11) rfl ?_); refine goesL_ (some 45) rfl rfl Tryd.func11 (by kernel_rfl) rfl #[.string t208] rfl (by (try simp only [List.map_toArray, List.map_cons, List.map_nil]); first | done | rfl | (simp only [List.length_drop, List.length_take]; rfl)) ?_; (with_reducible refine (host_Norm.calls t208 t210 t211 t212 _ A8.out).mono ?_); rintro e w38 ⟨rfl, hb⟩; refine ⟨_, rfl, ?_⟩; have n0_ := Aside0.mk (below_step (by repeat (first | (with_reducible first | exact HB.out | apply below_alloc | apply pw_below_drewN | apply below_drew1) | exact HB.out)) hb); clear HB; have HB := n0_; clear n0_; (try clear hb); (try clear hb2); (try clear hk); (try clear hi)))
              all_goals (try (exfalso; first | (simp only [ByteArray.size_append, ByteArray.size_extract, Nat.min_self, Nat.sub_zero, decide_eq_true_eq, decide_eq_false_iff_not, show (⟨#[42, 46]⟩ : ByteArray).size = 2 from rfl] at *; done) | (simp only [ByteArray.size_append, ByteArray.size_extract, Nat.min_self, Nat.sub_zero, decide_eq_true_eq, decide_eq_false_iff_not, show (⟨#[42, 46]⟩ : ByteArray).size = 2 from rfl] at *; omega) | contradiction))
              go_ret
              exact ⟨by first | rfl | (simp [errW_none, errW_some] <;> rfl) | (simp only [← hji2]; first | rfl | (simp [errW_none, errW_some] <;> rfl)) | (simp [*, errW_none, errW_some] <;> rfl), by repeat (first | (with_reducible first | exact HB.out | apply below_alloc | apply pw_below_drewN | apply below_drew1) | exact HB.out)⟩
          · rw [if_neg c10] at H
            have c10b0 : (t212 == 0) = false := beq_eq_false_iff_ne.mpr c10
            have c10b1 : (t212 != 0) = true := bne_iff_ne.mpr c10
            obtain rfl := Option.some.inj H
            go_enter Tryd.func6, Tryd.ntmps6
            go_wp2_with (first | ((with_reducible refine gate_callee (f := 11) rfl ?_); refine goesL_ (some 18) rfl rfl Tryd.func11 (by kernel_rfl) rfl #[.string (a0.extract 0 ((ji2) : Int).toNat)] rfl (by (try simp only [List.map_toArray, List.map_cons, List.map_nil]); first | done | (simp only [hji2]; rfl) | rfl | (simp only [List.length_drop, List.length_take]; rfl)) ?_; (with_reducible refine (host_Norm.calls (a0.extract 0 ((ji2) : Int).toNat) t204 t205 t206 _ A5.out).mono ?_); rintro e w39 ⟨rfl, hb⟩; refine ⟨_, rfl, ?_⟩; have n0_ := Aside0.mk (below_step (by repeat (first | (with_reducible first | exact HB.out | apply below_alloc | apply pw_below_drewN | apply below_drew1) | exact HB.out)) hb); clear HB; have HB := n0_; clear n0_; (try clear hb); (try clear hb2); (try clear hk); (try clear hi)) | ((with_reducible refine gate_callee (f := 18) rfl ?_); refine goesL_ (some 40) rfl rfl Tryd.func18 (by kernel_rfl) rfl #[.string t204, .int .i64 t205] rfl (by (try simp only [List.map_toArray, List.map_cons, List.map_nil]); first | done | rfl | (simp only [List.length_drop, List.length_take]; rfl)) ?_; (with_reducible refine (host_Write.calls k t204 t205 t208 t209 _ A7.out).mono ?_); rintro e w40 ⟨rfl, hb⟩; refine ⟨_, rfl, ?_⟩; have n0_ := Aside0.mk (below_step (by repeat (first | (with_reducible first | exact HB.out | apply below_alloc | apply pw_below_drewN | apply below_drew1) | exact HB.out)) hb); clear HB; have HB := n0_; clear n0_; (try clear hb); (try clear hb2); (try clear hk); (try clear hi)) | ((with_reducible refine gate_callee (f := 11) rfl ?_); refine goesL_ (some 45) rfl rfl Tryd.func11 (by kernel_rfl) rfl #[.string t208] rfl (by (try simp only [List.map_toArray, List.map_cons, List.map_nil]); first | done | rfl | (simp only [List.length_drop, List.length_take]; rfl)) ?_; (with_reducible refine (host_Norm.calls t208 t210 t211 t212 _ A8.out).mono ?_); rintro e w41 ⟨rfl, hb⟩; refine ⟨_, rfl, ?_⟩; have n0_ := Aside0.mk (below_step (by repeat (first | (with_reducible first | exact HB.out | apply below_alloc | apply pw_below_drewN | apply below_drew1) | exact HB.out)) hb); clear HB; have HB := n0_; clear n0_; (try clear hb); (try clear hb2); (try clear hk); (try clear hi)))
            all_goals (try (exfalso; first | (simp only [ByteArray.size_append, ByteArray.size_extract, Nat.min_self, Nat.sub_zero, decide_eq_true_eq, decide_eq_false_iff_not, show (⟨#[42, 46]⟩ : ByteArray).size = 2 from rfl] at *; done) | (simp only [ByteArray.size_append, ByteArray.size_extract, Nat.min_self, Nat.sub_zero, decide_eq_true_eq, decide_eq_false_iff_not, show (⟨#[42, 46]⟩ : ByteArray).size = 2 from rfl] at *; omega) | contradiction))
            go_ret
            exact ⟨by first | rfl | (simp [errW_none, errW_some] <;> rfl) | (simp only [← hji2]; first | rfl | (simp [errW_none, errW_some] <;> rfl)) | (simp [*, errW_none, errW_some] <;> rfl), by repeat (first | (with_reducible first | exact HB.out | apply below_alloc | apply pw_below_drewN | apply below_drew1) | exact HB.out)⟩
        · rw [if_neg c9] at H
          have c9b0 : (t209 == 0) = false := beq_eq_false_iff_ne.mpr c9
          have c9b1 : (t209 != 0) = true := bne_iff_ne.mpr c9
          obtain rfl := Option.some.inj H
          go_enter Tryd.func6, Tryd.ntmps6
          go_wp2_with (first | ((with_reducible refine gate_callee (f := 11) rfl ?_); refine goesL_ (some 18) rfl rfl Tryd.func11 (by kernel_rfl) rfl #[.string (a0.extract 0 ((ji2) : Int).toNat)] rfl (by (try simp only [List.map_toArray, List.map_cons, List.map_nil]); first | done | (simp only [hji2]; rfl) | rfl | (simp only [List.length_drop, List.length_take]; rfl)) ?_; (with_reducible refine (host_Norm.calls (a0.extract 0 ((ji2) : Int).toNat) t204 t205 t206 _ A5.out).mono ?_); rintro e w42 ⟨rfl, hb⟩; refine ⟨_, rfl, ?_⟩; have n0_ := Aside0.mk (below_step (by repeat (first | (with_reducible first | exact HB.out | apply below_alloc | apply pw_below_drewN | apply below_drew1) | exact HB.out)) hb); clear HB; have HB := n0_; clear n0_; (try clear hb); (try clear hb2); (try clear hk); (try clear hi)) | ((with_reducible refine gate_callee (f := 18) rfl ?_); refine goesL_ (some 40) rfl rfl Tryd.func18 (by kernel_rfl) rfl #[.string t204, .int .i64 t205] rfl (by (try simp only [List.map_toArray, List.map_cons, List.map_nil]); first | done | rfl | (simp only [List.length_drop, List.length_take]; rfl)) ?_; (with_reducible refine (host_Write.calls k t204 t205 t208 t209 _ A7.out).mono ?_); rintro e w43 ⟨rfl, hb⟩; refine ⟨_, rfl, ?_⟩; have n0_ := Aside0.mk (below_step (by repeat (first | (with_reducible first | exact HB.out | apply below_alloc | apply pw_below_drewN | apply below_drew1) | exact HB.out)) hb); clear HB; have HB := n0_; clear n0_; (try clear hb); (try clear hb2); (try clear hk); (try clear hi)) | ((with_reducible refine gate_callee (f := 11) rfl ?_); refine goesL_ (some 45) rfl rfl Tryd.func11 (by kernel_rfl) rfl #[.string t208] rfl (by (try simp only [List.map_toArray, List.map_cons, List.map_nil]); first | done | rfl | (simp only [List.length_drop, List.length_take]; rfl)) ?_; (with_reducible refine (host_Norm.calls t208 t210 t211 t212 _ A8.out).mono ?_); rintro e w44 ⟨rfl, hb⟩; refine ⟨_, rfl, ?_⟩; have n0_ := Aside0.mk (below_step (by repeat (first | (with_reducible first | exact HB.out | apply below_alloc | apply pw_below_drewN | apply below_drew1) | exact HB.out)) hb); clear HB; have HB := n0_; clear n0_; (try clear hb); (try clear hb2); (try clear hk); (try clear hi)))
          all_goals (try (exfalso; first | (simp only [ByteArray.size_append, ByteArray.size_extract, Nat.min_self, Nat.sub_zero, decide_eq_true_eq, decide_eq_false_iff_not, show (⟨#[42, 46]⟩ : ByteArray).size = 2 from rfl] at *; done) | (simp only [ByteArray.size_append, ByteArray.size_extract, Nat.min_self, Nat.sub_zero, decide_eq_true_eq, decide_eq_false_iff_not, show (⟨#[42, 46]⟩ : ByteArray).size = 2 from rfl] at *; omega) | contradiction))
          go_ret
          exact ⟨by first | rfl | (simp [errW_none, errW_some] <;> rfl) | (simp only [← hji2]; first | rfl | (simp [errW_none, errW_some] <;> rfl)) | (simp [*, errW_none, errW_some] <;> rfl), by repeat (first | (with_reducible first | exact HB.out | apply below_alloc | apply pw_below_drewN | apply below_drew1) | exact HB.out)⟩
      · rw [if_neg c6] at H
        have c6b0 : (t206 == 0) = false := beq_eq_false_iff_ne.mpr c6
        have c6b1 : (t206 != 0) = true := bne_iff_ne.mpr c6
        by_cases c45 : t206 = 60
        · rw [if_pos c45] at H
          have c45b0 : (t206 == 60) = true := beq_iff_eq.mpr c45
          have c45b1 : (t206 != 60) = false := bne_eq_false_iff_eq.mpr c45
          clear c45
          by_cases c46 : t204.toList = ([] : List UInt8)
          · rw [if_pos c46] at H
            have c46b0 : (t204.toList == ([] : List UInt8)) = true := beq_iff_eq.mpr c46
            have c46b1 : (t204.toList != ([] : List UInt8)) = false := bne_eq_false_iff_eq.mpr c46
            clear c46
            by_cases c47 : t205 = 0
            · rw [if_pos c47] at H
              have c47b0 : (t205 == 0) = true := beq_iff_eq.mpr c47
              have c47b1 : (t205 != 0) = false := bne_eq_false_iff_eq.mpr c47
              clear c47
              replace H := Option.bind_eq_some_iff.mp H
              obtain ⟨t207, A480, H⟩ := H
              replace H : (some t207) = some r := H
              have A48 := Aside0.mk A480
              clear A480
              obtain rfl := Option.some.inj H
              go_enter Tryd.func6, Tryd.ntmps6
              go_wp2_with (first | ((with_reducible refine gate_callee (f := 11) rfl ?_); refine goesL_ (some 18) rfl rfl Tryd.func11 (by kernel_rfl) rfl #[.string (a0.extract 0 ((ji2) : Int).toNat)] rfl (by (try simp only [List.map_toArray, List.map_cons, List.map_nil]); first | done | (simp only [hji2]; rfl) | rfl | (simp only [List.length_drop, List.length_take]; rfl)) ?_; (with_reducible refine (host_Norm.calls (a0.extract 0 ((ji2) : Int).toNat) t204 t205 t206 _ A5.out).mono ?_); rintro e w49 ⟨rfl, hb⟩; refine ⟨_, rfl, ?_⟩; have n0_ := Aside0.mk (below_step (by repeat (first | (with_reducible first | exact HB.out | apply below_alloc | apply pw_below_drewN | apply below_drew1) | exact HB.out)) hb); clear HB; have HB := n0_; clear n0_; (try clear hb); (try clear hb2); (try clear hk); (try clear hi)) | (go_at_call 17; (with_reducible refine (chinoiserielaw06_works.calls k  t207 _ A48.out).mono ?_); rintro e w50 ⟨rfl, hb⟩; have n0_ := Aside0.mk (below_step (by repeat (first | (with_reducible first | exact HB.out | apply below_alloc | apply pw_below_drewN | apply below_drew1) | exact HB.out)) hb); clear HB; have HB := n0_; clear n0_; (try clear hb); (try clear hb2); (try clear hk); (try clear hi)))
              all_goals (try (exfalso; first | (simp only [ByteArray.size_append, ByteArray.size_extract, Nat.min_self, Nat.sub_zero, decide_eq_true_eq, decide_eq_false_iff_not, show (⟨#[42, 46]⟩ : ByteArray).size = 2 from rfl] at *; done) | (simp only [ByteArray.size_append, ByteArray.size_extract, Nat.min_self, Nat.sub_zero, decide_eq_true_eq, decide_eq_false_iff_not, show (⟨#[42, 46]⟩ : ByteArray).size = 2 from rfl] at *; omega) | contradiction))
              go_ret
              exact ⟨by first | rfl | (simp [errW_none, errW_some] <;> rfl) | (simp only [← hji2]; first | rfl | (simp [errW_none, errW_some] <;> rfl)) | (simp [*, errW_none, errW_some] <;> rfl), by repeat (first | (with_reducible first | exact HB.out | apply below_alloc | apply pw_below_drewN | apply below_drew1) | exact HB.out)⟩
            · rw [if_neg c47] at H
              have c47b0 : (t205 == 0) = false := beq_eq_false_iff_ne.mpr c47
              have c47b1 : (t205 != 0) = true := bne_iff_ne.mpr c47
              obtain rfl := Option.some.inj H
              go_enter Tryd.func6, Tryd.ntmps6
              go_wp2_with (first | ((with_reducible refine gate_callee (f := 11) rfl ?_); refine goesL_ (some 18) rfl rfl Tryd.func11 (by kernel_rfl) rfl #[.string (a0.extract 0 ((ji2) : Int).toNat)] rfl (by (try simp only [List.map_toArray, List.map_cons, List.map_nil]); first | done | (simp only [hji2]; rfl) | rfl | (simp only [List.length_drop, List.length_take]; rfl)) ?_; (with_reducible refine (host_Norm.calls (a0.extract 0 ((ji2) : Int).toNat) t204 t205 t206 _ A5.out).mono ?_); rintro e w51 ⟨rfl, hb⟩; refine ⟨_, rfl, ?_⟩; have n0_ := Aside0.mk (below_step (by repeat (first | (with_reducible first | exact HB.out | apply below_alloc | apply pw_below_drewN | apply below_drew1) | exact HB.out)) hb); clear HB; have HB := n0_; clear n0_; (try clear hb); (try clear hb2); (try clear hk); (try clear hi)))
              all_goals (try (exfalso; first | (simp only [ByteArray.size_append, ByteArray.size_extract, Nat.min_self, Nat.sub_zero, decide_eq_true_eq, decide_eq_false_iff_not, show (⟨#[42, 46]⟩ : ByteArray).size = 2 from rfl] at *; done) | (simp only [ByteArray.size_append, ByteArray.size_extract, Nat.min_self, Nat.sub_zero, decide_eq_true_eq, decide_eq_false_iff_not, show (⟨#[42, 46]⟩ : ByteArray).size = 2 from rfl] at *; omega) | contradiction))
              go_ret
              exact ⟨by first | rfl | (simp [errW_none, errW_some] <;> rfl) | (simp only [← hji2]; first | rfl | (simp [errW_none, errW_some] <;> rfl)) | (simp [*, errW_none, errW_some] <;> rfl), by repeat (first | (with_reducible first | exact HB.out | apply below_alloc | apply pw_below_drewN | apply below_drew1) | exact HB.out)⟩
          · rw [if_neg c46] at H
            have c46b0 : (t204.toList == ([] : List UInt8)) = false := beq_eq_false_iff_ne.mpr c46
            have c46b1 : (t204.toList != ([] : List UInt8)) = true := bne_iff_ne.mpr c46
            obtain rfl := Option.some.inj H
            go_enter Tryd.func6, Tryd.ntmps6
            go_wp2_with (first | ((with_reducible refine gate_callee (f := 11) rfl ?_); refine goesL_ (some 18) rfl rfl Tryd.func11 (by kernel_rfl) rfl #[.string (a0.extract 0 ((ji2) : Int).toNat)] rfl (by (try simp only [List.map_toArray, List.map_cons, List.map_nil]); first | done | (simp only [hji2]; rfl) | rfl | (simp only [List.length_drop, List.length_take]; rfl)) ?_; (with_reducible refine (host_Norm.calls (a0.extract 0 ((ji2) : Int).toNat) t204 t205 t206 _ A5.out).mono ?_); rintro e w52 ⟨rfl, hb⟩; refine ⟨_, rfl, ?_⟩; have n0_ := Aside0.mk (below_step (by repeat (first | (with_reducible first | exact HB.out | apply below_alloc | apply pw_below_drewN | apply below_drew1) | exact HB.out)) hb); clear HB; have HB := n0_; clear n0_; (try clear hb); (try clear hb2); (try clear hk); (try clear hi)))
            all_goals (try (exfalso; first | (simp only [ByteArray.size_append, ByteArray.size_extract, Nat.min_self, Nat.sub_zero, decide_eq_true_eq, decide_eq_false_iff_not, show (⟨#[42, 46]⟩ : ByteArray).size = 2 from rfl] at *; done) | (simp only [ByteArray.size_append, ByteArray.size_extract, Nat.min_self, Nat.sub_zero, decide_eq_true_eq, decide_eq_false_iff_not, show (⟨#[42, 46]⟩ : ByteArray).size = 2 from rfl] at *; omega) | contradiction))
            go_ret
            exact ⟨by first | rfl | (simp [errW_none, errW_some] <;> rfl) | (simp only [← hji2]; first | rfl | (simp [errW_none, errW_some] <;> rfl)) | (simp [*, errW_none, errW_some] <;> rfl), by repeat (first | (with_reducible first | exact HB.out | apply below_alloc | apply pw_below_drewN | apply below_drew1) | exact HB.out)⟩
        · rw [if_neg c45] at H
          have c45b0 : (t206 == 60) = false := beq_eq_false_iff_ne.mpr c45
          have c45b1 : (t206 != 60) = true := bne_iff_ne.mpr c45
          obtain rfl := Option.some.inj H
          go_enter Tryd.func6, Tryd.ntmps6
          go_wp2_with (first | ((with_reducible refine gate_callee (f := 11) rfl ?_); refine goesL_ (some 18) rfl rfl Tryd.func11 (by kernel_rfl) rfl #[.string (a0.extract 0 ((ji2) : Int).toNat)] rfl (by (try simp only [List.map_toArray, List.map_cons, List.map_nil]); first | done | (simp only [hji2]; rfl) | rfl | (simp only [List.length_drop, List.length_take]; rfl)) ?_; (with_reducible refine (host_Norm.calls (a0.extract 0 ((ji2) : Int).toNat) t204 t205 t206 _ A5.out).mono ?_); rintro e w53 ⟨rfl, hb⟩; refine ⟨_, rfl, ?_⟩; have n0_ := Aside0.mk (below_step (by repeat (first | (with_reducible first | exact HB.out | apply below_alloc | apply pw_below_drewN | apply below_drew1) | exact HB.out)) hb); clear HB; have HB := n0_; clear n0_; (try clear hb); (try clear hb2); (try clear hk); (try clear hi)))
          all_goals (try (exfalso; first | (simp only [ByteArray.size_append, ByteArray.size_extract, Nat.min_self, Nat.sub_zero, decide_eq_true_eq, decide_eq_false_iff_not, show (⟨#[42, 46]⟩ : ByteArray).size = 2 from rfl] at *; done) | (simp only [ByteArray.size_append, ByteArray.size_extract, Nat.min_self, Nat.sub_zero, decide_eq_true_eq, decide_eq_false_iff_not, show (⟨#[42, 46]⟩ : ByteArray).size = 2 from rfl] at *; omega) | contradiction))
          go_ret
          exact ⟨by first | rfl | (simp [errW_none, errW_some] <;> rfl) | (simp only [← hji2]; first | rfl | (simp [errW_none, errW_some] <;> rfl)) | (simp [*, errW_none, errW_some] <;> rfl), by repeat (first | (with_reducible first | exact HB.out | apply below_alloc | apply pw_below_drewN | apply below_drew1) | exact HB.out)⟩
    · rw [if_neg c4] at H
      exact absurd H (by simp)
  · rw [if_neg c3] at H
    exact absurd H (by simp)

end Go.Proofs.YtipmnecfbbjahaaDoor.PHost
