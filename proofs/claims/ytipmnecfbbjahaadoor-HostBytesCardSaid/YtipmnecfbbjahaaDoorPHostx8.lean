-- Printed by a program of this session (wip/tools/xprint.py) out of the translation. Not trusted: Lean checks it.
import Derived.Test.YtipmnecfbbjahaaDoorPHostx0
import Derived.Test.YtipmnecfbbjahaaDoorPHostx3
import Derived.Test.YtipmnecfbbjahaaDoorPHostx5
import Derived.Test.YtipmnecfbbjahaaDoorExt0
import Derived.Test.YtipmnecfbbjahaaDoorExtD
namespace Go.Proofs.YtipmnecfbbjahaaDoor.PHost
open Go.RowKit Go.Proofs.YtipmnecfbbjahaaDoorW.PrintWords Go.Proofs.YtipmnecfbbjahaaDoorW.PrintLast Go.Proofs.YtipmnecfbbjahaaDoorW.PrintMore
attribute [local go_sem] max2_int min2_int max_two min_two max_three min_three max_four min_four   -- for this text's walks alone
set_option linter.unusedVariables false
set_option linter.unusedSimpArgs false

/-! ### chinoiserielaw06_HostBytes: function 8 -/
mutual
def chinoiserielaw06_HostBytes.j0 : Nat → Int → ByteArray → Int → ByteArray → Bool → Option (Bool)
  | 0, _, _, _, _, _ => none
  | k + 1, x1, x7, x8, x9, x10 => if x1 ≥ 97 then (if x1 ≤ 122 then (chinoiserielaw06_HostBytes.j1 k x1 x7 x8 x9 x10 true) else (if x1 ≥ 48 then (if x1 ≤ 57 then (chinoiserielaw06_HostBytes.j1 k x1 x7 x8 x9 x10 true) else (if x1 = 45 then (chinoiserielaw06_HostBytes.j1 k x1 x7 x8 x9 x10 (!x10)) else (chinoiserielaw06_HostBytes.j1 k x1 x7 x8 x9 x10 false))) else (if x1 = 45 then (chinoiserielaw06_HostBytes.j1 k x1 x7 x8 x9 x10 (!x10)) else (chinoiserielaw06_HostBytes.j1 k x1 x7 x8 x9 x10 false)))) else (if x1 ≥ 48 then (if x1 ≤ 57 then (chinoiserielaw06_HostBytes.j1 k x1 x7 x8 x9 x10 true) else (if x1 = 45 then (chinoiserielaw06_HostBytes.j1 k x1 x7 x8 x9 x10 (!x10)) else (chinoiserielaw06_HostBytes.j1 k x1 x7 x8 x9 x10 false))) else (if x1 = 45 then (chinoiserielaw06_HostBytes.j1 k x1 x7 x8 x9 x10 (!x10)) else (chinoiserielaw06_HostBytes.j1 k x1 x7 x8 x9 x10 false)))
def chinoiserielaw06_HostBytes.j1 : Nat → Int → ByteArray → Int → ByteArray → Bool → Bool → Option (Bool)
  | 0, _, _, _, _, _, _ => none
  | k + 1, x1, x7, x8, x9, x10, x11 => chinoiserielaw06_HostBytes.l0 k x1 x7 x8 x9 x10 x11 1 x8
def chinoiserielaw06_HostBytes.j3 : Nat → Int → ByteArray → Int → ByteArray → Bool → Bool → Int → Option (Bool)
  | 0, _, _, _, _, _, _, _ => none
  | k + 1, x1, x7, x8, x9, x10, x11, x12 => chinoiserielaw06_HostBytes.l1 k x1 x7 x8 x9 x10 x11 x12 (wrap64 (x8 - 1))
def chinoiserielaw06_HostBytes.j5 : Nat → Int → ByteArray → Int → ByteArray → Bool → Bool → Int → Option (Bool)
  | 0, _, _, _, _, _, _, _ => none
  | k + 1, x1, x7, x8, x9, x10, x11, x12 => if x1 = 46 then (if x10 = true then ((host_Plain.f x9).bind fun t232 => (if ((t232 == 0) == false) = true then ((chinoiserielaw06_works.f k).bind fun t233 => (some t233)) else (some false))) else (if 0 ≤ (wrap64 (x8 - 1)) then (if (wrap64 (x8 - 1)) < (x7.size : Int) then (if (bt x7 (wrap64 (x8 - 1))) = 45 then ((host_Plain.f x9).bind fun t234 => (if ((t234 == 0) == false) = true then ((chinoiserielaw06_works.f k).bind fun t235 => (some t235)) else (some false))) else (if 0 ≤ x8 then (if x8 < (x7.size : Int) then ((host_Plain.f x9).bind fun t236 => (if (bt x7 x8) = 45 then (if ((t236 == 0) == false) = true then ((chinoiserielaw06_works.f k).bind fun t237 => (some t237)) else (some false)) else (if 1 ≤ 20 then (if ((t236 == 0) == (decide ((x9.size : Int) ≤ 60))) = true then ((chinoiserielaw06_works.f k).bind fun t238 => (some t238)) else (some false)) else (if ((t236 == 0) == false) = true then ((chinoiserielaw06_works.f k).bind fun t239 => (some t239)) else (some false))))) else (none)) else (none))) else (none)) else (none))) else ((host_Plain.f x9).bind fun t240 => (if x11 = true then (if x12 ≤ 20 then (if ((t240 == 0) == (decide ((x9.size : Int) ≤ 60))) = true then ((chinoiserielaw06_works.f k).bind fun t241 => (some t241)) else (some false)) else (if ((t240 == 0) == false) = true then ((chinoiserielaw06_works.f k).bind fun t242 => (some t242)) else (some false))) else (if ((t240 == 0) == false) = true then ((chinoiserielaw06_works.f k).bind fun t243 => (some t243)) else (some false))))
def chinoiserielaw06_HostBytes.l1 : Nat → Int → ByteArray → Int → ByteArray → Bool → Bool → Int → Int → Option (Bool)
  | 0, _, _, _, _, _, _, _, _ => none
  | k + 1, x1, x7, x8, x9, x10, x11, x12, x14 => if x14 ≥ 0 then (if 0 ≤ x14 then (if x14 < (x7.size : Int) then (if (bt x7 x14) = 46 then (chinoiserielaw06_HostBytes.j5 k x1 x7 x8 x9 x10 x11 x12) else (chinoiserielaw06_HostBytes.l1 k x1 x7 x8 x9 x10 x11 (wrap64 (x12 + 1)) (wrap64 (x14 - 1)))) else (none)) else (none)) else (chinoiserielaw06_HostBytes.j5 k x1 x7 x8 x9 x10 x11 x12)
def chinoiserielaw06_HostBytes.l0 : Nat → Int → ByteArray → Int → ByteArray → Bool → Bool → Int → Int → Option (Bool)
  | 0, _, _, _, _, _, _, _, _ => none
  | k + 1, x1, x7, x8, x9, x10, x11, x12, x13 => if x13 < (x7.size : Int) then (if 0 ≤ x13 then (if (bt x7 x13) = 46 then (chinoiserielaw06_HostBytes.j3 k x1 x7 x8 x9 x10 x11 x12) else (chinoiserielaw06_HostBytes.l0 k x1 x7 x8 x9 x10 x11 (wrap64 (x12 + 1)) (wrap64 (x13 + 1)))) else (none)) else (chinoiserielaw06_HostBytes.j3 k x1 x7 x8 x9 x10 x11 x12)
end
def chinoiserielaw06_HostBytes.f (k : Nat) (l0 : List Int) (a1 : Int) (a2 : Int) : Option (Bool) := (chinoiserielaw06_plain.f k l0).bind fun t227 => ((chinoiserieref00_Bring.f a2 (wrap64 ((t227.size : Int) + 1))).bind fun t228 => (if 0 ≤ t228 then (if t228 ≤ (t227.size : Int) then ((some (([a1] : List Int) : List Int)).bind fun y229 => (if (t227.extract 0 (t228 : Int).toNat).size + (strOfNums y229).size ≤ 9223372036854775807 then (if ((t227.extract 0 (t228 : Int).toNat) ++ (strOfNums y229)).size + (t227.extract (t228 : Int).toNat t227.size).size ≤ 9223372036854775807 then (if t228 = 0 then (chinoiserielaw06_HostBytes.j0 k a1 t227 t228 (((t227.extract 0 (t228 : Int).toNat) ++ (strOfNums y229)) ++ (t227.extract (t228 : Int).toNat t227.size)) true) else (if t228 = (t227.size : Int) then (chinoiserielaw06_HostBytes.j0 k a1 t227 t228 (((t227.extract 0 (t228 : Int).toNat) ++ (strOfNums y229)) ++ (t227.extract (t228 : Int).toNat t227.size)) true) else (if 0 ≤ (wrap64 (t228 - 1)) then (if (wrap64 (t228 - 1)) < (t227.size : Int) then (if (bt t227 (wrap64 (t228 - 1))) = 46 then (chinoiserielaw06_HostBytes.j0 k a1 t227 t228 (((t227.extract 0 (t228 : Int).toNat) ++ (strOfNums y229)) ++ (t227.extract (t228 : Int).toNat t227.size)) true) else (if t228 < (t227.size : Int) then (chinoiserielaw06_HostBytes.j0 k a1 t227 t228 (((t227.extract 0 (t228 : Int).toNat) ++ (strOfNums y229)) ++ (t227.extract (t228 : Int).toNat t227.size)) ((bt t227 t228) == 46)) else (none))) else (none)) else (none)))) else (none)) else (none))) else (none)) else (none)))
theorem chinoiserielaw06_HostBytes.mono_l : ∀ k, (∀ y0 y1 y2 y3 y4, LeO (chinoiserielaw06_HostBytes.j0 k y0 y1 y2 y3 y4) (chinoiserielaw06_HostBytes.j0 (k + 1) y0 y1 y2 y3 y4)) ∧ (∀ y0 y1 y2 y3 y4 y5, LeO (chinoiserielaw06_HostBytes.j1 k y0 y1 y2 y3 y4 y5) (chinoiserielaw06_HostBytes.j1 (k + 1) y0 y1 y2 y3 y4 y5)) ∧ (∀ y0 y1 y2 y3 y4 y5 y6, LeO (chinoiserielaw06_HostBytes.j3 k y0 y1 y2 y3 y4 y5 y6) (chinoiserielaw06_HostBytes.j3 (k + 1) y0 y1 y2 y3 y4 y5 y6)) ∧ (∀ y0 y1 y2 y3 y4 y5 y6, LeO (chinoiserielaw06_HostBytes.j5 k y0 y1 y2 y3 y4 y5 y6) (chinoiserielaw06_HostBytes.j5 (k + 1) y0 y1 y2 y3 y4 y5 y6)) ∧ (∀ y0 y1 y2 y3 y4 y5 y6 y7, LeO (chinoiserielaw06_HostBytes.l1 k y0 y1 y2 y3 y4 y5 y6 y7) (chinoiserielaw06_HostBytes.l1 (k + 1) y0 y1 y2 y3 y4 y5 y6 y7)) ∧ (∀ y0 y1 y2 y3 y4 y5 y6 y7, LeO (chinoiserielaw06_HostBytes.l0 k y0 y1 y2 y3 y4 y5 y6 y7) (chinoiserielaw06_HostBytes.l0 (k + 1) y0 y1 y2 y3 y4 y5 y6 y7))
  | 0 => ⟨fun _ _ _ _ _ r h => by simp [chinoiserielaw06_HostBytes.j0] at h, fun _ _ _ _ _ _ r h => by simp [chinoiserielaw06_HostBytes.j1] at h, fun _ _ _ _ _ _ _ r h => by simp [chinoiserielaw06_HostBytes.j3] at h, fun _ _ _ _ _ _ _ r h => by simp [chinoiserielaw06_HostBytes.j5] at h, fun _ _ _ _ _ _ _ _ r h => by simp [chinoiserielaw06_HostBytes.l1] at h, fun _ _ _ _ _ _ _ _ r h => by simp [chinoiserielaw06_HostBytes.l0] at h⟩
  | k + 1 => by
    obtain ⟨ih0, ih1, ih2, ih3, ih4, ih5⟩ := chinoiserielaw06_HostBytes.mono_l k
    refine ⟨?_, ?_, ?_, ?_, ?_, ?_⟩
    · intro y0 y1 y2 y3 y4
      unfold chinoiserielaw06_HostBytes.j0
      repeat' first
      | (with_reducible exact ih0 _ _ _ _ _)
      | (with_reducible exact ih1 _ _ _ _ _ _)
      | (with_reducible exact ih2 _ _ _ _ _ _ _)
      | (with_reducible exact ih3 _ _ _ _ _ _ _)
      | (with_reducible exact ih4 _ _ _ _ _ _ _ _)
      | (with_reducible exact ih5 _ _ _ _ _ _ _ _)
      | (with_reducible exact chinoiserielaw06_plain.mono _ _)
      | (with_reducible exact chinoiserielaw06_works.mono _)
      | (with_reducible exact LeO.refl _)
      | (with_reducible exact LeO.none _)
      | (with_reducible refine LeO.ite ?_ ?_)
      | (with_reducible refine LeO.bind ?_ (fun _ => ?_))
      | exact ih0 _ _ _ _ _
      | exact ih1 _ _ _ _ _ _
      | exact ih2 _ _ _ _ _ _ _
      | exact ih3 _ _ _ _ _ _ _
      | exact ih4 _ _ _ _ _ _ _ _
      | exact ih5 _ _ _ _ _ _ _ _
      | exact chinoiserielaw06_plain.mono _ _
      | exact chinoiserielaw06_works.mono _
      | exact LeO.none _
      | refine LeO.ite ?_ ?_
      | refine LeO.bind ?_ (fun _ => ?_)
    · intro y0 y1 y2 y3 y4 y5
      unfold chinoiserielaw06_HostBytes.j1
      repeat' first
      | (with_reducible exact ih0 _ _ _ _ _)
      | (with_reducible exact ih1 _ _ _ _ _ _)
      | (with_reducible exact ih2 _ _ _ _ _ _ _)
      | (with_reducible exact ih3 _ _ _ _ _ _ _)
      | (with_reducible exact ih4 _ _ _ _ _ _ _ _)
      | (with_reducible exact ih5 _ _ _ _ _ _ _ _)
      | (with_reducible exact chinoiserielaw06_plain.mono _ _)
      | (with_reducible exact chinoiserielaw06_works.mono _)
      | (with_reducible exact LeO.refl _)
      | (with_reducible exact LeO.none _)
      | (with_reducible refine LeO.ite ?_ ?_)
      | (with_reducible refine LeO.bind ?_ (fun _ => ?_))
      | exact ih0 _ _ _ _ _
      | exact ih1 _ _ _ _ _ _
      | exact ih2 _ _ _ _ _ _ _
      | exact ih3 _ _ _ _ _ _ _
      | exact ih4 _ _ _ _ _ _ _ _
      | exact ih5 _ _ _ _ _ _ _ _
      | exact chinoiserielaw06_plain.mono _ _
      | exact chinoiserielaw06_works.mono _
      | exact LeO.none _
      | refine LeO.ite ?_ ?_
      | refine LeO.bind ?_ (fun _ => ?_)
    · intro y0 y1 y2 y3 y4 y5 y6
      unfold chinoiserielaw06_HostBytes.j3
      repeat' first
      | (with_reducible exact ih0 _ _ _ _ _)
      | (with_reducible exact ih1 _ _ _ _ _ _)
      | (with_reducible exact ih2 _ _ _ _ _ _ _)
      | (with_reducible exact ih3 _ _ _ _ _ _ _)
      | (with_reducible exact ih4 _ _ _ _ _ _ _ _)
      | (with_reducible exact ih5 _ _ _ _ _ _ _ _)
      | (with_reducible exact chinoiserielaw06_plain.mono _ _)
      | (with_reducible exact chinoiserielaw06_works.mono _)
      | (with_reducible exact LeO.refl _)
      | (with_reducible exact LeO.none _)
      | (with_reducible refine LeO.ite ?_ ?_)
      | (with_reducible refine LeO.bind ?_ (fun _ => ?_))
      | exact ih0 _ _ _ _ _
      | exact ih1 _ _ _ _ _ _
      | exact ih2 _ _ _ _ _ _ _
      | exact ih3 _ _ _ _ _ _ _
      | exact ih4 _ _ _ _ _ _ _ _
      | exact ih5 _ _ _ _ _ _ _ _
      | exact chinoiserielaw06_plain.mono _ _
      | exact chinoiserielaw06_works.mono _
      | exact LeO.none _
      | refine LeO.ite ?_ ?_
      | refine LeO.bind ?_ (fun _ => ?_)
    · intro y0 y1 y2 y3 y4 y5 y6
      unfold chinoiserielaw06_HostBytes.j5
      repeat' first
      | (with_reducible exact ih0 _ _ _ _ _)
      | (with_reducible exact ih1 _ _ _ _ _ _)
      | (with_reducible exact ih2 _ _ _ _ _ _ _)
      | (with_reducible exact ih3 _ _ _ _ _ _ _)
      | (with_reducible exact ih4 _ _ _ _ _ _ _ _)
      | (with_reducible exact ih5 _ _ _ _ _ _ _ _)
      | (with_reducible exact chinoiserielaw06_plain.mono _ _)
      | (with_reducible exact chinoiserielaw06_works.mono _)
      | (with_reducible exact LeO.refl _)
      | (with_reducible exact LeO.none _)
      | (with_reducible refine LeO.ite ?_ ?_)
      | (with_reducible refine LeO.bind ?_ (fun _ => ?_))
      | exact ih0 _ _ _ _ _
      | exact ih1 _ _ _ _ _ _
      | exact ih2 _ _ _ _ _ _ _
      | exact ih3 _ _ _ _ _ _ _
      | exact ih4 _ _ _ _ _ _ _ _
      | exact ih5 _ _ _ _ _ _ _ _
      | exact chinoiserielaw06_plain.mono _ _
      | exact chinoiserielaw06_works.mono _
      | exact LeO.none _
      | refine LeO.ite ?_ ?_
      | refine LeO.bind ?_ (fun _ => ?_)
    · intro y0 y1 y2 y3 y4 y5 y6 y7
      unfold chinoiserielaw06_HostBytes.l1
      repeat' first
      | (with_reducible exact ih0 _ _ _ _ _)
      | (with_reducible exact ih1 _ _ _ _ _ _)
      | (with_reducible exact ih2 _ _ _ _ _ _ _)
      | (with_reducible exact ih3 _ _ _ _ _ _ _)
      | (with_reducible exact ih4 _ _ _ _ _ _ _ _)
      | (with_reducible exact ih5 _ _ _ _ _ _ _ _)
      | (with_reducible exact chinoiserielaw06_plain.mono _ _)
      | (with_reducible exact chinoiserielaw06_works.mono _)
      | (with_reducible exact LeO.refl _)
      | (with_reducible exact LeO.none _)
      | (with_reducible refine LeO.ite ?_ ?_)
      | (with_reducible refine LeO.bind ?_ (fun _ => ?_))
      | exact ih0 _ _ _ _ _
      | exact ih1 _ _ _ _ _ _
      | exact ih2 _ _ _ _ _ _ _
      | exact ih3 _ _ _ _ _ _ _
      | exact ih4 _ _ _ _ _ _ _ _
      | exact ih5 _ _ _ _ _ _ _ _
      | exact chinoiserielaw06_plain.mono _ _
      | exact chinoiserielaw06_works.mono _
      | exact LeO.none _
      | refine LeO.ite ?_ ?_
      | refine LeO.bind ?_ (fun _ => ?_)
    · intro y0 y1 y2 y3 y4 y5 y6 y7
      unfold chinoiserielaw06_HostBytes.l0
      repeat' first
      | (with_reducible exact ih0 _ _ _ _ _)
      | (with_reducible exact ih1 _ _ _ _ _ _)
      | (with_reducible exact ih2 _ _ _ _ _ _ _)
      | (with_reducible exact ih3 _ _ _ _ _ _ _)
      | (with_reducible exact ih4 _ _ _ _ _ _ _ _)
      | (with_reducible exact ih5 _ _ _ _ _ _ _ _)
      | (with_reducible exact chinoiserielaw06_plain.mono _ _)
      | (with_reducible exact chinoiserielaw06_works.mono _)
      | (with_reducible exact LeO.refl _)
      | (with_reducible exact LeO.none _)
      | (with_reducible refine LeO.ite ?_ ?_)
      | (with_reducible refine LeO.bind ?_ (fun _ => ?_))
      | exact ih0 _ _ _ _ _
      | exact ih1 _ _ _ _ _ _
      | exact ih2 _ _ _ _ _ _ _
      | exact ih3 _ _ _ _ _ _ _
      | exact ih4 _ _ _ _ _ _ _ _
      | exact ih5 _ _ _ _ _ _ _ _
      | exact chinoiserielaw06_plain.mono _ _
      | exact chinoiserielaw06_works.mono _
      | exact LeO.none _
      | refine LeO.ite ?_ ?_
      | refine LeO.bind ?_ (fun _ => ?_)
theorem chinoiserielaw06_HostBytes.mono : ∀ a0 a1 a2 k, LeO (chinoiserielaw06_HostBytes.f k a0 a1 a2) (chinoiserielaw06_HostBytes.f (k + 1) a0 a1 a2) := by
  intro a0 a1 a2 k
  obtain ⟨ih0, ih1, ih2, ih3, ih4, ih5⟩ := chinoiserielaw06_HostBytes.mono_l k
  unfold chinoiserielaw06_HostBytes.f
  repeat' first
      | (with_reducible exact ih0 _ _ _ _ _)
      | (with_reducible exact ih1 _ _ _ _ _ _)
      | (with_reducible exact ih2 _ _ _ _ _ _ _)
      | (with_reducible exact ih3 _ _ _ _ _ _ _)
      | (with_reducible exact ih4 _ _ _ _ _ _ _ _)
      | (with_reducible exact ih5 _ _ _ _ _ _ _ _)
      | (with_reducible exact chinoiserielaw06_plain.mono _ _)
      | (with_reducible exact chinoiserielaw06_works.mono _)
      | (with_reducible exact LeO.refl _)
      | (with_reducible exact LeO.none _)
      | (with_reducible refine LeO.ite ?_ ?_)
      | (with_reducible refine LeO.bind ?_ (fun _ => ?_))
      | exact ih0 _ _ _ _ _
      | exact ih1 _ _ _ _ _ _
      | exact ih2 _ _ _ _ _ _ _
      | exact ih3 _ _ _ _ _ _ _
      | exact ih4 _ _ _ _ _ _ _ _
      | exact ih5 _ _ _ _ _ _ _ _
      | exact chinoiserielaw06_plain.mono _ _
      | exact chinoiserielaw06_works.mono _
      | exact LeO.none _
      | refine LeO.ite ?_ ?_
      | refine LeO.bind ?_ (fun _ => ?_)
def chinoiserielaw06_HostBytes.T3 : Bool × List (List Nat × List Nat) := (true, [([], []), ([], []), ([0, 1], [0, 1]), ([], []), ([3], [3]), ([4], [4]), ([2, 5], [2, 5]), ([], []), ([], []), ([7, 8], [7, 8]), ([6, 9], [6, 9]), ([10, 0, 1, 2, 3, 4, 5, 6, 7, 8, 9, 10], [10])])
def chinoiserielaw06_HostBytes.B3 : List Nat := [0, 0, 3, 0, 8, 24, 63, 0, 0, 384, 1023, 2047]
theorem chinoiserielaw06_HostBytes.tab3 : rtab .any (opsOf Tryd.f8 3) = chinoiserielaw06_HostBytes.T3 := by kernel_rfl
theorem chinoiserielaw06_HostBytes.bits3 : waitsOk chinoiserielaw06_HostBytes.T3.2 chinoiserielaw06_HostBytes.B3 = true := by kernel_rfl
set_option maxHeartbeats 8000000 in
set_option maxRecDepth 100000 in
theorem chinoiserielaw06_HostBytes.calls (k : Nat) (A0 : Option Addr) (c0 : Nat) (l0 : List Int) (a1 : Int) (a2 : Int) (r : Bool) (w : World) (hr0 : Kd.C (Kd.int .i64) w A0 l0.length l0) (hc0 : l0.length ≤ c0) (h : chinoiserielaw06_HostBytes.f k l0 a1 a2 = some r) (hL : LW w := by first | exact hL | exact LW.below hL (by repeat (first | (with_reducible first | exact HB.out | apply below_alloc | apply pw_below_drewN | apply below_drew1) | exact HB.out))) :
    Calls Tryd.prog 8 #[.slice A0 l0.length c0, .int .u8 a1, .int .i64 a2] w fun e w' => e = .returned (.bool r) ∧ Below w.heap.size w w' := by
  have HR0 := Aside0.mk hr0
  have HC0 := Aside0.mk hc0
  clear hr0 hc0
  have HB := Aside0.mk (Below.refl w.heap.size w)
  have H : ((chinoiserielaw06_plain.f k l0).bind fun t227 => ((chinoiserieref00_Bring.f a2 (wrap64 ((t227.size : Int) + 1))).bind fun t228 => (if 0 ≤ t228 then (if t228 ≤ (t227.size : Int) then ((some (([a1] : List Int) : List Int)).bind fun y229 => (if (t227.extract 0 (t228 : Int).toNat).size + (strOfNums y229).size ≤ 9223372036854775807 then (if ((t227.extract 0 (t228 : Int).toNat) ++ (strOfNums y229)).size + (t227.extract (t228 : Int).toNat t227.size).size ≤ 9223372036854775807 then (if t228 = 0 then (chinoiserielaw06_HostBytes.j0 k a1 t227 t228 (((t227.extract 0 (t228 : Int).toNat) ++ (strOfNums y229)) ++ (t227.extract (t228 : Int).toNat t227.size)) true) else (if t228 = (t227.size : Int) then (chinoiserielaw06_HostBytes.j0 k a1 t227 t228 (((t227.extract 0 (t228 : Int).toNat) ++ (strOfNums y229)) ++ (t227.extract (t228 : Int).toNat t227.size)) true) else (if 0 ≤ (wrap64 (t228 - 1)) then (if (wrap64 (t228 - 1)) < (t227.size : Int) then (if (bt t227 (wrap64 (t228 - 1))) = 46 then (chinoiserielaw06_HostBytes.j0 k a1 t227 t228 (((t227.extract 0 (t228 : Int).toNat) ++ (strOfNums y229)) ++ (t227.extract (t228 : Int).toNat t227.size)) true) else (if t228 < (t227.size : Int) then (chinoiserielaw06_HostBytes.j0 k a1 t227 t228 (((t227.extract 0 (t228 : Int).toNat) ++ (strOfNums y229)) ++ (t227.extract (t228 : Int).toNat t227.size)) ((bt t227 t228) == 46)) else (none))) else (none)) else (none)))) else (none)) else (none))) else (none)) else (none)))) = some r := h
  clear h
  replace H := Option.bind_eq_some_iff.mp H
  obtain ⟨t227, A40, H⟩ := H
  replace H : ((chinoiserieref00_Bring.f a2 (wrap64 ((t227.size : Int) + 1))).bind fun t228 => (if 0 ≤ t228 then (if t228 ≤ (t227.size : Int) then ((some (([a1] : List Int) : List Int)).bind fun y229 => (if (t227.extract 0 (t228 : Int).toNat).size + (strOfNums y229).size ≤ 9223372036854775807 then (if ((t227.extract 0 (t228 : Int).toNat) ++ (strOfNums y229)).size + (t227.extract (t228 : Int).toNat t227.size).size ≤ 9223372036854775807 then (if t228 = 0 then (chinoiserielaw06_HostBytes.j0 k a1 t227 t228 (((t227.extract 0 (t228 : Int).toNat) ++ (strOfNums y229)) ++ (t227.extract (t228 : Int).toNat t227.size)) true) else (if t228 = (t227.size : Int) then (chinoiserielaw06_HostBytes.j0 k a1 t227 t228 (((t227.extract 0 (t228 : Int).toNat) ++ (strOfNums y229)) ++ (t227.extract (t228 : Int).toNat t227.size)) true) else (if 0 ≤ (wrap64 (t228 - 1)) then (if (wrap64 (t228 - 1)) < (t227.size : Int) then (if (bt t227 (wrap64 (t228 - 1))) = 46 then (chinoiserielaw06_HostBytes.j0 k a1 t227 t228 (((t227.extract 0 (t228 : Int).toNat) ++ (strOfNums y229)) ++ (t227.extract (t228 : Int).toNat t227.size)) true) else (if t228 < (t227.size : Int) then (chinoiserielaw06_HostBytes.j0 k a1 t227 t228 (((t227.extract 0 (t228 : Int).toNat) ++ (strOfNums y229)) ++ (t227.extract (t228 : Int).toNat t227.size)) ((bt t227 t228) == 46)) else (none))) else (none)) else (none)))) else (none)) else (none))) else (none)) else (none))) = some r := H
  have A4 := Aside0.mk A40
  clear A40
  replace H := Option.bind_eq_some_iff.mp H
  obtain ⟨t228, A50, H⟩ := H
  replace H : (if 0 ≤ t228 then (if t228 ≤ (t227.size : Int) then ((some (([a1] : List Int) : List Int)).bind fun y229 => (if (t227.extract 0 (t228 : Int).toNat).size + (strOfNums y229).size ≤ 9223372036854775807 then (if ((t227.extract 0 (t228 : Int).toNat) ++ (strOfNums y229)).size + (t227.extract (t228 : Int).toNat t227.size).size ≤ 9223372036854775807 then (if t228 = 0 then (chinoiserielaw06_HostBytes.j0 k a1 t227 t228 (((t227.extract 0 (t228 : Int).toNat) ++ (strOfNums y229)) ++ (t227.extract (t228 : Int).toNat t227.size)) true) else (if t228 = (t227.size : Int) then (chinoiserielaw06_HostBytes.j0 k a1 t227 t228 (((t227.extract 0 (t228 : Int).toNat) ++ (strOfNums y229)) ++ (t227.extract (t228 : Int).toNat t227.size)) true) else (if 0 ≤ (wrap64 (t228 - 1)) then (if (wrap64 (t228 - 1)) < (t227.size : Int) then (if (bt t227 (wrap64 (t228 - 1))) = 46 then (chinoiserielaw06_HostBytes.j0 k a1 t227 t228 (((t227.extract 0 (t228 : Int).toNat) ++ (strOfNums y229)) ++ (t227.extract (t228 : Int).toNat t227.size)) true) else (if t228 < (t227.size : Int) then (chinoiserielaw06_HostBytes.j0 k a1 t227 t228 (((t227.extract 0 (t228 : Int).toNat) ++ (strOfNums y229)) ++ (t227.extract (t228 : Int).toNat t227.size)) ((bt t227 t228) == 46)) else (none))) else (none)) else (none)))) else (none)) else (none))) else (none)) else (none)) = some r := H
  have A5 := Aside0.mk A50
  clear A50
  by_cases c6 : 0 ≤ t228
  · rw [if_pos c6] at H
    have c6b0 := eq_true c6
    have c6b1 : decide (0 ≤ t228) = true := decide_eq_true c6
    clear c6
    by_cases c7 : t228 ≤ (t227.size : Int)
    · rw [if_pos c7] at H
      have c7b0 := eq_true c7
      have c7b1 : decide (t228 ≤ (t227.size : Int)) = true := decide_eq_true c7
      clear c7
      obtain ⟨y229, hy229⟩ : ∃ y_ : List Int, y_ = (([a1] : List Int)) := ⟨_, rfl⟩
      replace H : (if (t227.extract 0 (t228 : Int).toNat).size + (strOfNums y229).size ≤ 9223372036854775807 then (if ((t227.extract 0 (t228 : Int).toNat) ++ (strOfNums y229)).size + (t227.extract (t228 : Int).toNat t227.size).size ≤ 9223372036854775807 then (if t228 = 0 then (chinoiserielaw06_HostBytes.j0 k a1 t227 t228 (((t227.extract 0 (t228 : Int).toNat) ++ (strOfNums y229)) ++ (t227.extract (t228 : Int).toNat t227.size)) true) else (if t228 = (t227.size : Int) then (chinoiserielaw06_HostBytes.j0 k a1 t227 t228 (((t227.extract 0 (t228 : Int).toNat) ++ (strOfNums y229)) ++ (t227.extract (t228 : Int).toNat t227.size)) true) else (if 0 ≤ (wrap64 (t228 - 1)) then (if (wrap64 (t228 - 1)) < (t227.size : Int) then (if (bt t227 (wrap64 (t228 - 1))) = 46 then (chinoiserielaw06_HostBytes.j0 k a1 t227 t228 (((t227.extract 0 (t228 : Int).toNat) ++ (strOfNums y229)) ++ (t227.extract (t228 : Int).toNat t227.size)) true) else (if t228 < (t227.size : Int) then (chinoiserielaw06_HostBytes.j0 k a1 t227 t228 (((t227.extract 0 (t228 : Int).toNat) ++ (strOfNums y229)) ++ (t227.extract (t228 : Int).toNat t227.size)) ((bt t227 t228) == 46)) else (none))) else (none)) else (none)))) else (none)) else (none)) = some r := by first | (rw [hy229]; with_reducible exact H) | (have H2_ := (Option.bind_some _ _).symm.trans H; rw [hy229]; with_reducible exact H2_) | (have H2_ := (Option.bind_some _ _).symm.trans H; with_reducible exact H2_) | with_reducible exact H | (rw [hy229]; exact H) | exact H
      have Ny229 := Aside0.mk hy229
      clear hy229
      by_cases c8 : (t227.extract 0 (t228 : Int).toNat).size + (strOfNums y229).size ≤ 9223372036854775807
      · rw [if_pos c8] at H
        have c8b0 := eq_true c8
        have c8b1 : decide ((t227.extract 0 (t228 : Int).toNat).size + (strOfNums y229).size ≤ 9223372036854775807) = true := decide_eq_true c8
        try have c8b2 : (9223372036854775807 < (t227.extract 0 (t228 : Int).toNat).size + (strOfNums y229).size) = False := eq_false (Nat.not_lt.2 c8)
        try have c8b5 := c8b2
        try simp only [ByteArray.size_extract, Nat.min_self] at c8b5
        try have hmin_ : min (t228).toNat (t227).size = (t228).toNat := by have h_ := of_decide_eq_true ‹decide (t228 ≤ ((t227).size : Int)) = true›; omega
        try simp only [ByteArray.size_append, ByteArray.size_extract, hmin_, Nat.sub_zero] at c8b5
        have c9b0 := eq_true (of_decide_eq_true (by first | (with_reducible assumption) | assumption) : 0 ≤ t228)
        have c10b0 := eq_true (of_decide_eq_true (by first | (with_reducible assumption) | assumption) : t228 ≤ (t227.size : Int))
        by_cases c11 : ((t227.extract 0 (t228 : Int).toNat) ++ (strOfNums y229)).size + (t227.extract (t228 : Int).toNat t227.size).size ≤ 9223372036854775807
        · rw [if_pos c11] at H
          have c11b0 := eq_true c11
          have c11b1 : decide (((t227.extract 0 (t228 : Int).toNat) ++ (strOfNums y229)).size + (t227.extract (t228 : Int).toNat t227.size).size ≤ 9223372036854775807) = true := decide_eq_true c11
          try have c11b2 : (9223372036854775807 < ((t227.extract 0 (t228 : Int).toNat) ++ (strOfNums y229)).size + (t227.extract (t228 : Int).toNat t227.size).size) = False := eq_false (Nat.not_lt.2 c11)
          try have c11b5 := c11b2
          try simp only [ByteArray.size_extract, Nat.min_self] at c11b5
          try have hmin_ : min (t228).toNat (t227).size = (t228).toNat := by have h_ := of_decide_eq_true ‹decide (t228 ≤ ((t227).size : Int)) = true›; omega
          try simp only [ByteArray.size_append, ByteArray.size_extract, hmin_, Nat.sub_zero] at c11b5
          try have c11b3 : (9223372036854775807 < (t227.extract 0 (t228 : Int).toNat).size + (strOfNums y229).size + (t227.extract (t228 : Int).toNat t227.size).size) = False := eq_false (fun h_ => absurd c11 (by simp only [ByteArray.size_append]; exact Nat.not_le.2 h_))
          have HC12 := Aside0.mk H
          clear H
          go_enter Tryd.func8, Tryd.ntmps8
          try go_wp2_with (first | ((with_reducible refine gate_callee (f := 22) rfl ?_); refine goesL_ (some 16) rfl rfl Tryd.func22 (by kernel_rfl) rfl #[.slice A0 l0.length c0] rfl (by (try simp only [List.map_toArray, List.map_cons, List.map_nil]); first | done | rfl | (simp only [List.length_drop, List.length_take]; rfl)) ?_; (with_reducible refine (chinoiserielaw06_plain.calls k _ _ l0 t227 _ ?side1 ?side2 A4.out).mono ?_); (case side1 => repeat (first | exact HR0.out | (with_reducible refine Kd.C_alloc ?_ _) | (with_reducible refine Kd.C_drewN ?_ _) | (with_reducible refine Kd.C_drew ?_))); (case side2 => exact HC0.out); rintro e w13 ⟨rfl, hb⟩; refine ⟨_, rfl, ?_⟩; have n0_ := Aside0.mk (below_step (by repeat (first | (with_reducible first | exact HB.out | apply below_alloc | apply pw_below_drewN | apply below_drew1) | exact HB.out)) hb); clear HB; have HB := n0_; clear n0_; (try clear hb); (try clear hb2); (try clear hk); (try clear hi)) | ((with_reducible refine gate_callee (f := 23) rfl ?_); refine goesL_ (some 21) rfl rfl Tryd.func23 (by kernel_rfl) rfl #[.int .i64 a2, .int .i64 (wrap64 ((t227.size : Int) + 1))] rfl (by (try simp only [List.map_toArray, List.map_cons, List.map_nil]); first | done | rfl | (simp only [List.length_drop, List.length_take]; rfl)) ?_; (with_reducible refine (chinoiserieref00_Bring.calls a2 (wrap64 ((t227.size : Int) + 1)) t228 _ A5.out).mono ?_); rintro e w' ⟨rfl, ⟨nd, rfl⟩⟩; refine ⟨_, rfl, ?_⟩))
          (try (rw [drewN_self w13]; generalize hq_ : World.drewN w13 _ = w13; have n0_ : Aside0 (Below w.heap.size w w13) := ⟨by rw [← hq_]; exact (by repeat (first | (with_reducible first | exact HB.out | apply below_alloc | apply pw_below_drewN | apply below_drew1) | exact HB.out))⟩; clear HB hq_; have HB := n0_; clear n0_))
          have n0_ := Aside0.mk (below_drew1 HB.out)
          clear HB
          have HB := n0_
          clear n0_
          refine start_ (n := 12) (S := fun w' => True) (ds := []) #[false, false, false, false, false, false, false, false, false, false, false, false] (by kernel_rfl) rfl rfl trivial (fun hHeld => ?_); refine with_tabW chinoiserielaw06_HostBytes.tab3 chinoiserielaw06_HostBytes.bits3 (fun HT_ HW_ => ?_)
          generalize w13.drew = w14 at HB hHeld ⊢
          refine pure_ (i := 0) (N := some 22) (v := ?_) (a' := ?_) #[true, false, false, false, false, false, false, false, false, false, false, false] rfl rfl (any_of HT_.out (by kernel_rfl)) (fun _ _ _ h => h) (Or.inl ⟨by rfl, ?_⟩) ?_ ?_
          rotate_left
          · intro w'
            go_simp
            with_reducible rfl
          rotate_left
          · simp only [Act.put, List.setIfInBounds_toArray, List.set_cons_zero, List.set_cons_succ, i64_w, i32_w]
            rfl
          refine pure_ (i := 1) (N := some 23) (v := ?_) (a' := ?_) #[true, true, false, false, false, false, false, false, false, false, false, false] rfl rfl (any_of HT_.out (by kernel_rfl)) (fun _ _ _ h => h) (Or.inl ⟨by rfl, ?_⟩) ?_ ?_
          rotate_left
          · intro w'
            go_simp
            with_reducible rfl
          rotate_left
          · simp only [Act.put, List.setIfInBounds_toArray, List.set_cons_zero, List.set_cons_succ, i64_w, i32_w]
            rfl
          refine pure_ (i := 2) (N := some 24) (v := ?_) (a' := ?_) #[true, true, true, false, false, false, false, false, false, false, false, false] rfl rfl (any_of HT_.out (by kernel_rfl)) (fun _ _ _ h => h) (Or.inl ⟨by rfl, ?_⟩) ?_ ?_
          rotate_left
          · intro w'
            go_simp
            with_reducible rfl
          rotate_left
          · simp only [Act.put, List.setIfInBounds_toArray, List.set_cons_zero, List.set_cons_succ, i64_w, i32_w]
            rfl
          refine pure_ (i := 3) (N := some 25) (v := ?_) (a' := ?_) #[true, true, true, true, false, false, false, false, false, false, false, false] rfl rfl (any_of HT_.out (by kernel_rfl)) (fun _ _ _ h => h) (Or.inl ⟨by rfl, ?_⟩) ?_ ?_
          rotate_left
          · intro w'
            go_simp
            with_reducible rfl
          rotate_left
          · simp only [Act.put, List.setIfInBounds_toArray, List.set_cons_zero, List.set_cons_succ, i64_w, i32_w]
            rfl
          refine pure_ (i := 7) (N := some 29) (v := ?_) (a' := ?_) #[true, true, true, true, false, false, false, true, false, false, false, false] rfl rfl (any_of HT_.out (by kernel_rfl)) (fun _ _ _ h => h) (Or.inl ⟨by rfl, ?_⟩) ?_ ?_
          rotate_left
          · intro w'
            go_simp
            with_reducible rfl
          rotate_left
          · simp only [Act.put, List.setIfInBounds_toArray, List.set_cons_zero, List.set_cons_succ, i64_w, i32_w]
            rfl
          refine pure_ (i := 8) (N := some 30) (v := ?_) (a' := ?_) #[true, true, true, true, false, false, false, true, true, false, false, false] rfl rfl (any_of HT_.out (by kernel_rfl)) (fun _ _ _ h => h) (Or.inl ⟨by rfl, ?_⟩) ?_ ?_
          rotate_left
          · intro w'
            go_simp
            with_reducible rfl
          rotate_left
          · simp only [Act.put, List.setIfInBounds_toArray, List.set_cons_zero, List.set_cons_succ, i64_w, i32_w]
            rfl
          refine pure_ (i := 9) (N := some 31) (v := ?_) (a' := ?_) #[true, true, true, true, false, false, false, true, true, true, false, false] rfl rfl (any_of HT_.out (by kernel_rfl)) (fun _ _ _ h => h) (Or.inl ⟨by rfl, ?_⟩) ?_ ?_
          rotate_left
          · intro w'
            go_simp
            with_reducible rfl
          rotate_left
          · simp only [Act.put, List.setIfInBounds_toArray, List.set_cons_zero, List.set_cons_succ, i64_w, i32_w]
            rfl
          refine one_ (i := 4) (N := some 26) #[true, true, true, true, true, false, false, true, true, true, false, false] rfl rfl (one_of HT_.out (by kernel_rfl)) (by decide) (fun K hK => ?_)
          refine Kd.R_lit_step (Kd.int .u8) _ 5 ?hg (N := 26) ?hd (xs := ([a1] : List Int)) (inner := [.int .u8 a1]) (ok := fun _ => True) (okp := fun _ => True) ?hr ?hp (fun _ hk => hk) trivial (Below.refl _ _) (Nat.le_refl _) (by simp) ?_; (case hd => rfl); (case hg => rfl); (case hr => first | (go_simp; done) | (go_simp; rfl)); (case hp => exact (Reps.one (show Kd.M (Kd.int .u8) _ _ _ a1 [.int .u8 a1] from rfl) (Reps.none _ _)))
          intro v230 w15 ho16 hb hg_ hnew_
          clear hg_ hnew_
          (first | rw [← Ny229.out] at ho16 | (simp only [Int.reduceToNat] at ho16; rw [← Ny229.out] at ho16))
          have n0_ := Aside0.mk (Kd.R_lower ho16 (below_size (by repeat (first | (with_reducible first | exact HB.out | apply below_alloc | apply pw_below_drewN | apply below_drew1) | exact HB.out))))
          have n1_ := Aside0.mk (below_step (by repeat (first | (with_reducible first | exact HB.out | apply below_alloc | apply pw_below_drewN | apply below_drew1) | exact HB.out)) hb)
          clear HB
          have HO231 := n0_
          have HB := n1_
          clear n0_ n1_
          clear hb ho16
          refine hK.out _ _ trivial (fun hHeld => ?_)
          clear hK K
          refine norm_ (a' := ?_) ?_ ?_
          rotate_left
          · show Act.put _ (some 26) _ = _
            simp only [Act.put, List.setIfInBounds_toArray, List.set_cons_zero, List.set_cons_succ, i64_w, i32_w]
            rfl
          refine one_ (i := 5) (N := some 27) #[true, true, true, true, true, true, false, true, true, true, false, false] rfl rfl (one_of HT_.out (by kernel_rfl)) (by decide) (fun K hK => ?_)
          have hcv17 := own_string (P := Tryd.prog) Tryd.underlying40 Tryd.underlying5 Tryd.underlying9 (Kd.own_of_R HO231.out)
          refine value_ (w1 := ?_) (v := ?_) (by rfl) rfl ?_ ?_
          rotate_left 2
          · go_simp
            constructor
            · rfl
            · rfl
          clear hcv17
          refine hK.out _ _ trivial (fun hHeld => ?_)
          clear hK K
          refine norm_ (a' := ?_) ?_ ?_
          rotate_left
          · show Act.put _ (some 27) _ = _
            simp only [Act.put, List.setIfInBounds_toArray, List.set_cons_zero, List.set_cons_succ, i64_w, i32_w]
            rfl
          refine pure_ (i := 6) (N := some 28) (v := ?_) (a' := ?_) #[true, true, true, true, true, true, true, true, true, true, false, false] rfl rfl (any_of HT_.out (by kernel_rfl)) (fun _ _ _ h => h) (Or.inl ⟨by rfl, ?_⟩) ?_ ?_
          rotate_left
          · intro w'
            go_simp
            with_reducible rfl
          rotate_left
          · simp only [Act.put, List.setIfInBounds_toArray, List.set_cons_zero, List.set_cons_succ, i64_w, i32_w]
            rfl
          refine pure_ (i := 10) (N := some 32) (v := ?_) (a' := ?_) #[true, true, true, true, true, true, true, true, true, true, true, false] rfl rfl (any_of HT_.out (by kernel_rfl)) (fun _ _ _ h => h) (Or.inl ⟨by rfl, ?_⟩) ?_ ?_
          rotate_left
          · intro w'
            go_simp
            with_reducible rfl
          rotate_left
          · simp only [Act.put, List.setIfInBounds_toArray, List.set_cons_zero, List.set_cons_succ, i64_w, i32_w]
            rfl
          refine pure_ (i := 11) (N := some 9) (v := ?_) (a' := ?_) #[true, true, true, true, true, true, true, true, true, true, true, true] rfl rfl (any_of HT_.out (by kernel_rfl)) (fun _ _ _ h => h) (Or.inl ⟨by rfl, ?_⟩) ?_ ?_
          rotate_left
          · intro w'
            go_simp
            with_reducible rfl
          rotate_left
          · simp only [Act.put, List.setIfInBounds_toArray, List.set_cons_zero, List.set_cons_succ, i64_w, i32_w]
            rfl
          refine done_ (done_of HT_.out (by kernel_rfl)) ?_
          go_upto_region 4 with (fail)
          go_cut [10] (fun v10 wc => ∃ (kq : Nat) (x10_11 : Bool), v10 = .bool x10_11 ∧ Aside0 (chinoiserielaw06_HostBytes.j0 kq a1 t227 t228 (((t227.extract 0 (t228 : Int).toNat) ++ (strOfNums y229)) ++ (t227.extract (t228 : Int).toNat t227.size)) x10_11 = some r) ∧ Aside0 (kq ≤ k) ∧ Aside0 (Below w.heap.size w wc))
          case first =>
            have H := HC12.out
            clear HC12
            by_cases c18 : t228 = 0
            · rw [if_pos c18] at H
              have c18b0 : (t228 == 0) = true := beq_iff_eq.mpr c18
              have c18b1 : (t228 != 0) = false := bne_eq_false_iff_eq.mpr c18
              clear c18
              (first | rw [c18b0] | (simp only [i64_w, i32_w]; rw [c18b0]) | skip)
              have H' := Aside0.mk H
              clear H
              go_wp2
              go_meet
              case rel => exact ⟨_, (true), (by first | rfl | (simp; done) | (simp [*]; done)), H', ⟨by first | omega | exact Nat.le_refl _⟩, ⟨by repeat (first | (with_reducible first | exact HB.out | apply below_alloc | apply pw_below_drewN | apply below_drew1) | exact HB.out)⟩⟩
            · rw [if_neg c18] at H
              have c18b0 : (t228 == 0) = false := beq_eq_false_iff_ne.mpr c18
              have c18b1 : (t228 != 0) = true := bne_iff_ne.mpr c18
              (first | rw [c18b0] | (simp only [i64_w, i32_w]; rw [c18b0]) | skip)
              by_cases c19 : t228 = (t227.size : Int)
              · rw [if_pos c19] at H
                have c19b0 : (t228 == (t227.size : Int)) = true := beq_iff_eq.mpr c19
                have c19b1 : (t228 != (t227.size : Int)) = false := bne_eq_false_iff_eq.mpr c19
                clear c19
                have H' := Aside0.mk H
                clear H
                go_wp2
                go_meet
                case rel => exact ⟨_, (true), (by first | rfl | (simp; done) | (simp [*]; done)), H', ⟨by first | omega | exact Nat.le_refl _⟩, ⟨by repeat (first | (with_reducible first | exact HB.out | apply below_alloc | apply pw_below_drewN | apply below_drew1) | exact HB.out)⟩⟩
              · rw [if_neg c19] at H
                have c19b0 : (t228 == (t227.size : Int)) = false := beq_eq_false_iff_ne.mpr c19
                have c19b1 : (t228 != (t227.size : Int)) = true := bne_iff_ne.mpr c19
                obtain ⟨ji20, hji20⟩ : ∃ j_ : Int, (wrap64 (t228 - 1)) = j_ := ⟨_, rfl⟩
                replace H : (if 0 ≤ (ji20) then (if (ji20) < (t227.size : Int) then (if (bt t227 (ji20)) = 46 then (chinoiserielaw06_HostBytes.j0 k a1 t227 t228 (((t227.extract 0 (t228 : Int).toNat) ++ (strOfNums y229)) ++ (t227.extract (t228 : Int).toNat t227.size)) true) else (if t228 < (t227.size : Int) then (chinoiserielaw06_HostBytes.j0 k a1 t227 t228 (((t227.extract 0 (t228 : Int).toNat) ++ (strOfNums y229)) ++ (t227.extract (t228 : Int).toNat t227.size)) ((bt t227 t228) == 46)) else (none))) else (none)) else (none)) = some r := by first | (rw [hji20] at H; exact H) | (simp only [hji20] at H ⊢; exact H)
                have hji20w : (IntKind.i64.wrap (t228 - 1)) = ji20 := (i64_w _).trans hji20
                by_cases c21 : 0 ≤ (ji20)
                · rw [if_pos c21] at H
                  have c21b0 : decide (0 ≤ (ji20)) = true := decide_eq_true c21
                  clear c21
                  by_cases c22 : (ji20) < (t227.size : Int)
                  · rw [if_pos c22] at H
                    have c22b0 : decide ((ji20) < (t227.size : Int)) = true := decide_eq_true c22
                    clear c22
                    by_cases c24 : (bt t227 (ji20)) = 46
                    · rw [if_pos c24] at H
                      have c24b0 : ((bt t227 (ji20)) == 46) = true := beq_iff_eq.mpr c24
                      have c24b1 : ((bt t227 (ji20)) != 46) = false := bne_eq_false_iff_eq.mpr c24
                      clear c24
                      have H' := Aside0.mk H
                      clear H
                      have p23 : 0 ≤ ((ji20) : Int) := of_decide_eq_true (by first | (with_reducible assumption) | assumption)
                      have q23 : (ji20) < (t227.size : Int) := of_decide_eq_true (by first | (with_reducible assumption) | assumption)
                      have hx23 := bt_at t227 (ji20)
                      replace p23 := eq_true p23
                      replace q23 := eq_true q23
                      go_wp2
                      go_meet
                      case rel => exact ⟨_, (true), (by first | rfl | (simp; done) | (simp [*]; done)), H', ⟨by first | omega | exact Nat.le_refl _⟩, ⟨by repeat (first | (with_reducible first | exact HB.out | apply below_alloc | apply pw_below_drewN | apply below_drew1) | exact HB.out)⟩⟩
                    · rw [if_neg c24] at H
                      have c24b0 : ((bt t227 (ji20)) == 46) = false := beq_eq_false_iff_ne.mpr c24
                      have c24b1 : ((bt t227 (ji20)) != 46) = true := bne_iff_ne.mpr c24
                      by_cases c25 : t228 < (t227.size : Int)
                      · rw [if_pos c25] at H
                        have c25b0 : decide (t228 < (t227.size : Int)) = true := decide_eq_true c25
                        clear c25
                        have H' := Aside0.mk H
                        clear H
                        have p23 : 0 ≤ ((ji20) : Int) := of_decide_eq_true (by first | (with_reducible assumption) | assumption)
                        have q23 : (ji20) < (t227.size : Int) := of_decide_eq_true (by first | (with_reducible assumption) | assumption)
                        have hx23 := bt_at t227 (ji20)
                        replace p23 := eq_true p23
                        replace q23 := eq_true q23
                        have p26 : 0 ≤ (t228 : Int) := of_decide_eq_true (by first | (with_reducible assumption) | assumption)
                        have q26 : t228 < (t227.size : Int) := of_decide_eq_true (by first | (with_reducible assumption) | assumption)
                        have hx26 := bt_at t227 t228
                        replace p26 := eq_true p26
                        replace q26 := eq_true q26
                        go_wp2
                        go_meet
                        case rel => exact ⟨_, (((bt t227 t228) == 46)), (by first | rfl | (simp; done) | (simp [*]; done)), H', ⟨by first | omega | exact Nat.le_refl _⟩, ⟨by repeat (first | (with_reducible first | exact HB.out | apply below_alloc | apply pw_below_drewN | apply below_drew1) | exact HB.out)⟩⟩
                      · rw [if_neg c25] at H
                        exact absurd H (by simp)
                  · rw [if_neg c22] at H
                    exact absurd H (by simp)
                · rw [if_neg c21] at H
                  exact absurd H (by simp)
          case rest =>
            clear HC12
            try clear c1
            try clear hcv1
            try clear c2
            try clear p2
            try clear q2
            try clear hx2
            try clear c6
            try clear c6b0
            try clear c6b1
            try clear p6
            try clear c7
            try clear c7b0
            try clear c7b1
            try clear c8
            try clear c8b0
            try clear c8b1
            try clear c8b2
            try clear c9
            try clear c9b0
            try clear c10
            try clear c10b0
            try clear c11
            try clear c11b0
            try clear c11b1
            try clear c11b2
            try clear hcv17
            try clear c18
            try clear c18b0
            try clear c18b1
            try clear c19
            try clear c19b0
            try clear c19b1
            try clear c21
            try clear c21b0
            try clear c22
            try clear c22b0
            try clear c23
            try clear p23
            try clear q23
            try clear hx23
            try clear c24
            try clear c24b0
            try clear c24b1
            try clear c25
            try clear c25b0
            try clear p26
            try clear q26
            try clear hx26
            try clear p23
            try clear p26
            try clear q23
            try clear q26
            obtain ⟨kq, x10_11, rfl, HA, HJ11, HB⟩ := hcut
            cases kq with
            | zero => exact absurd HA.out (by simp [chinoiserielaw06_HostBytes.j0])
            | succ kj11 =>
              have H := HA.out
              clear HA
              simp only [chinoiserielaw06_HostBytes.j0] at H
              have HC27 := Aside0.mk H
              clear H
              go_upto_region 5 with (fail)
              go_cut [11] (fun v11 wc => ∃ (kq : Nat) (x11_26 : Bool), v11 = .bool x11_26 ∧ Aside0 (chinoiserielaw06_HostBytes.j1 kq a1 t227 t228 (((t227.extract 0 (t228 : Int).toNat) ++ (strOfNums y229)) ++ (t227.extract (t228 : Int).toNat t227.size)) x10_11 x11_26 = some r) ∧ Aside0 (kq ≤ kj11) ∧ Aside0 (Below w.heap.size w wc))
              case first =>
                have H := HC27.out
                clear HC27
                by_cases c28 : a1 ≥ 97
                · rw [if_pos c28] at H
                  have c28b0 : decide (97 ≤ a1) = true := decide_eq_true c28
                  clear c28
                  (first | rw [c28b0] | (simp only [i64_w, i32_w]; rw [c28b0]) | skip)
                  by_cases c29 : a1 ≤ 122
                  · rw [if_pos c29] at H
                    have c29b0 : decide (a1 ≤ 122) = true := decide_eq_true c29
                    clear c29
                    have H' := Aside0.mk H
                    clear H
                    go_wp2
                    go_meet
                    case rel => exact ⟨_, (true), (by first | rfl | (simp; done) | (simp [*]; done)), H', ⟨by have := HJ11.out; first | omega | exact Nat.le_refl _⟩, ⟨by repeat (first | (with_reducible first | exact HB.out | apply below_alloc | apply pw_below_drewN | apply below_drew1) | exact HB.out)⟩⟩
                  · rw [if_neg c29] at H
                    have c29b0 : decide (a1 ≤ 122) = false := decide_eq_false c29
                    clear c29
                    by_cases c30 : a1 ≥ 48
                    · rw [if_pos c30] at H
                      have c30b0 : decide (48 ≤ a1) = true := decide_eq_true c30
                      clear c30
                      by_cases c31 : a1 ≤ 57
                      · rw [if_pos c31] at H
                        have c31b0 : decide (a1 ≤ 57) = true := decide_eq_true c31
                        clear c31
                        have H' := Aside0.mk H
                        clear H
                        go_wp2
                        go_meet
                        case rel => exact ⟨_, (true), (by first | rfl | (simp; done) | (simp [*]; done)), H', ⟨by have := HJ11.out; first | omega | exact Nat.le_refl _⟩, ⟨by repeat (first | (with_reducible first | exact HB.out | apply below_alloc | apply pw_below_drewN | apply below_drew1) | exact HB.out)⟩⟩
                      · rw [if_neg c31] at H
                        have c31b0 : decide (a1 ≤ 57) = false := decide_eq_false c31
                        clear c31
                        by_cases c32 : a1 = 45
                        · rw [if_pos c32] at H
                          have c32b0 : (a1 == 45) = true := beq_iff_eq.mpr c32
                          have c32b1 : (a1 != 45) = false := bne_eq_false_iff_eq.mpr c32
                          clear c32
                          have H' := Aside0.mk H
                          clear H
                          go_wp2
                          go_meet
                          case rel => exact ⟨_, (!x10_11), (by first | rfl | (simp; done) | (simp [*]; done)), H', ⟨by have := HJ11.out; first | omega | exact Nat.le_refl _⟩, ⟨by repeat (first | (with_reducible first | exact HB.out | apply below_alloc | apply pw_below_drewN | apply below_drew1) | exact HB.out)⟩⟩
                        · rw [if_neg c32] at H
                          have c32b0 : (a1 == 45) = false := beq_eq_false_iff_ne.mpr c32
                          have c32b1 : (a1 != 45) = true := bne_iff_ne.mpr c32
                          have H' := Aside0.mk H
                          clear H
                          go_wp2
                          go_meet
                          case rel => exact ⟨_, (false), (by first | rfl | (simp; done) | (simp [*]; done)), H', ⟨by have := HJ11.out; first | omega | exact Nat.le_refl _⟩, ⟨by repeat (first | (with_reducible first | exact HB.out | apply below_alloc | apply pw_below_drewN | apply below_drew1) | exact HB.out)⟩⟩
                    · rw [if_neg c30] at H
                      have c30b0 : decide (48 ≤ a1) = false := decide_eq_false c30
                      clear c30
                      by_cases c33 : a1 = 45
                      · rw [if_pos c33] at H
                        have c33b0 : (a1 == 45) = true := beq_iff_eq.mpr c33
                        have c33b1 : (a1 != 45) = false := bne_eq_false_iff_eq.mpr c33
                        clear c33
                        have H' := Aside0.mk H
                        clear H
                        go_wp2
                        go_meet
                        case rel => exact ⟨_, (!x10_11), (by first | rfl | (simp; done) | (simp [*]; done)), H', ⟨by have := HJ11.out; first | omega | exact Nat.le_refl _⟩, ⟨by repeat (first | (with_reducible first | exact HB.out | apply below_alloc | apply pw_below_drewN | apply below_drew1) | exact HB.out)⟩⟩
                      · rw [if_neg c33] at H
                        have c33b0 : (a1 == 45) = false := beq_eq_false_iff_ne.mpr c33
                        have c33b1 : (a1 != 45) = true := bne_iff_ne.mpr c33
                        have H' := Aside0.mk H
                        clear H
                        go_wp2
                        go_meet
                        case rel => exact ⟨_, (false), (by first | rfl | (simp; done) | (simp [*]; done)), H', ⟨by have := HJ11.out; first | omega | exact Nat.le_refl _⟩, ⟨by repeat (first | (with_reducible first | exact HB.out | apply below_alloc | apply pw_below_drewN | apply below_drew1) | exact HB.out)⟩⟩
                · rw [if_neg c28] at H
                  have c28b0 : decide (97 ≤ a1) = false := decide_eq_false c28
                  clear c28
                  (first | rw [c28b0] | (simp only [i64_w, i32_w]; rw [c28b0]) | skip)
                  by_cases c34 : a1 ≥ 48
                  · rw [if_pos c34] at H
                    have c34b0 : decide (48 ≤ a1) = true := decide_eq_true c34
                    clear c34
                    by_cases c35 : a1 ≤ 57
                    · rw [if_pos c35] at H
                      have c35b0 : decide (a1 ≤ 57) = true := decide_eq_true c35
                      clear c35
                      have H' := Aside0.mk H
                      clear H
                      go_wp2
                      go_meet
                      case rel => exact ⟨_, (true), (by first | rfl | (simp; done) | (simp [*]; done)), H', ⟨by have := HJ11.out; first | omega | exact Nat.le_refl _⟩, ⟨by repeat (first | (with_reducible first | exact HB.out | apply below_alloc | apply pw_below_drewN | apply below_drew1) | exact HB.out)⟩⟩
                    · rw [if_neg c35] at H
                      have c35b0 : decide (a1 ≤ 57) = false := decide_eq_false c35
                      clear c35
                      by_cases c36 : a1 = 45
                      · rw [if_pos c36] at H
                        have c36b0 : (a1 == 45) = true := beq_iff_eq.mpr c36
                        have c36b1 : (a1 != 45) = false := bne_eq_false_iff_eq.mpr c36
                        clear c36
                        have H' := Aside0.mk H
                        clear H
                        go_wp2
                        go_meet
                        case rel => exact ⟨_, (!x10_11), (by first | rfl | (simp; done) | (simp [*]; done)), H', ⟨by have := HJ11.out; first | omega | exact Nat.le_refl _⟩, ⟨by repeat (first | (with_reducible first | exact HB.out | apply below_alloc | apply pw_below_drewN | apply below_drew1) | exact HB.out)⟩⟩
                      · rw [if_neg c36] at H
                        have c36b0 : (a1 == 45) = false := beq_eq_false_iff_ne.mpr c36
                        have c36b1 : (a1 != 45) = true := bne_iff_ne.mpr c36
                        have H' := Aside0.mk H
                        clear H
                        go_wp2
                        go_meet
                        case rel => exact ⟨_, (false), (by first | rfl | (simp; done) | (simp [*]; done)), H', ⟨by have := HJ11.out; first | omega | exact Nat.le_refl _⟩, ⟨by repeat (first | (with_reducible first | exact HB.out | apply below_alloc | apply pw_below_drewN | apply below_drew1) | exact HB.out)⟩⟩
                  · rw [if_neg c34] at H
                    have c34b0 : decide (48 ≤ a1) = false := decide_eq_false c34
                    clear c34
                    by_cases c37 : a1 = 45
                    · rw [if_pos c37] at H
                      have c37b0 : (a1 == 45) = true := beq_iff_eq.mpr c37
                      have c37b1 : (a1 != 45) = false := bne_eq_false_iff_eq.mpr c37
                      clear c37
                      have H' := Aside0.mk H
                      clear H
                      go_wp2
                      go_meet
                      case rel => exact ⟨_, (!x10_11), (by first | rfl | (simp; done) | (simp [*]; done)), H', ⟨by have := HJ11.out; first | omega | exact Nat.le_refl _⟩, ⟨by repeat (first | (with_reducible first | exact HB.out | apply below_alloc | apply pw_below_drewN | apply below_drew1) | exact HB.out)⟩⟩
                    · rw [if_neg c37] at H
                      have c37b0 : (a1 == 45) = false := beq_eq_false_iff_ne.mpr c37
                      have c37b1 : (a1 != 45) = true := bne_iff_ne.mpr c37
                      have H' := Aside0.mk H
                      clear H
                      go_wp2
                      go_meet
                      case rel => exact ⟨_, (false), (by first | rfl | (simp; done) | (simp [*]; done)), H', ⟨by have := HJ11.out; first | omega | exact Nat.le_refl _⟩, ⟨by repeat (first | (with_reducible first | exact HB.out | apply below_alloc | apply pw_below_drewN | apply below_drew1) | exact HB.out)⟩⟩
              case rest =>
                clear HC27
                try clear c1
                try clear hcv1
                try clear c2
                try clear p2
                try clear q2
                try clear hx2
                try clear c3
                try clear c6
                try clear c6b0
                try clear c6b1
                try clear p6
                try clear c7
                try clear c7b0
                try clear c7b1
                try clear c8
                try clear c8b0
                try clear c8b1
                try clear c8b2
                try clear c9
                try clear c9b0
                try clear c10
                try clear c10b0
                try clear c11
                try clear c11b0
                try clear c11b1
                try clear c11b2
                try clear hcv17
                try clear c18
                try clear c18b0
                try clear c18b1
                try clear c19
                try clear c19b0
                try clear c19b1
                try clear c21
                try clear c21b0
                try clear c22
                try clear c22b0
                try clear c23
                try clear p23
                try clear q23
                try clear hx23
                try clear c24
                try clear c24b0
                try clear c24b1
                try clear c25
                try clear c25b0
                try clear p26
                try clear q26
                try clear hx26
                try clear c28
                try clear c28b0
                try clear c29
                try clear c29b0
                try clear c30
                try clear c30b0
                try clear c31
                try clear c31b0
                try clear c32
                try clear c32b0
                try clear c32b1
                try clear c33
                try clear c33b0
                try clear c33b1
                try clear c34
                try clear c34b0
                try clear c35
                try clear c35b0
                try clear c36
                try clear c36b0
                try clear c36b1
                try clear c37
                try clear c37b0
                try clear c37b1
                try clear p2
                try clear p23
                try clear p26
                try clear p6
                try clear q2
                try clear q23
                try clear q26
                obtain ⟨kq, x11_26, rfl, HA, HJ26, HB⟩ := hcut
                cases kq with
                | zero => exact absurd HA.out (by simp [chinoiserielaw06_HostBytes.j1])
                | succ kj26 =>
                  have H := HA.out
                  clear HA
                  simp only [chinoiserielaw06_HostBytes.j1] at H
                  have HC38 := Aside0.mk H
                  clear H
                  go_upto_block 0 with (fail)
                  go_cut [12] (fun v12 wc => ∃ (kq : Nat) (x12_37 : Int), v12 = .int .i64 x12_37 ∧ Aside0 (chinoiserielaw06_HostBytes.j3 kq a1 t227 t228 (((t227.extract 0 (t228 : Int).toNat) ++ (strOfNums y229)) ++ (t227.extract (t228 : Int).toNat t227.size)) x10_11 x11_26 x12_37 = some r) ∧ Aside0 (kq ≤ kj26) ∧ Aside0 (Below w.heap.size w wc))
                  case first =>
                    have H := HC38.out
                    clear HC38
                    have H' := Aside0.mk H
                    clear H
                    go_wp2
                    go_loopg [12, 13] kj26 (fun kq v12 v13 w' => ∃ (x12_3 : Int) (x13_3 : Int), v12 = .int .i64 x12_3 ∧ v13 = .int .i64 x13_3 ∧ Aside0 (chinoiserielaw06_HostBytes.l0 kq a1 t227 t228 (((t227.extract 0 (t228 : Int).toNat) ++ (strOfNums y229)) ++ (t227.extract (t228 : Int).toNat t227.size)) x10_11 x11_26 x12_3 x13_3 = some r) ∧ Aside0 (kq ≤ kj26) ∧ Aside0 (Below w.heap.size w w'))
                    case atStart => exact ⟨(1), (t228), (by first | rfl | (simp; done) | (simp [*]; done)), (by first | rfl | (simp; done) | (simp [*]; done)), H', ⟨Nat.le_refl _⟩, ⟨by repeat (first | (with_reducible first | exact HB.out | apply below_alloc | apply pw_below_drewN | apply below_drew1) | exact HB.out)⟩⟩
                    case round =>
                      clear H'
                      try clear c1
                      try clear hcv1
                      try clear c2
                      try clear p2
                      try clear q2
                      try clear hx2
                      try clear c3
                      try clear c6
                      try clear c6b0
                      try clear c6b1
                      try clear p6
                      try clear c7
                      try clear c7b0
                      try clear c7b1
                      try clear c8
                      try clear c8b0
                      try clear c8b1
                      try clear c8b2
                      try clear c9
                      try clear c9b0
                      try clear c10
                      try clear c10b0
                      try clear c11
                      try clear c11b0
                      try clear c11b1
                      try clear c11b2
                      try clear hcv17
                      try clear c18
                      try clear c18b0
                      try clear c18b1
                      try clear c19
                      try clear c19b0
                      try clear c19b1
                      try clear c21
                      try clear c21b0
                      try clear c22
                      try clear c22b0
                      try clear c23
                      try clear p23
                      try clear q23
                      try clear hx23
                      try clear c24
                      try clear c24b0
                      try clear c24b1
                      try clear c25
                      try clear c25b0
                      try clear p26
                      try clear q26
                      try clear hx26
                      try clear c28
                      try clear c28b0
                      try clear c29
                      try clear c29b0
                      try clear c30
                      try clear c30b0
                      try clear c31
                      try clear c31b0
                      try clear c32
                      try clear c32b0
                      try clear c32b1
                      try clear c33
                      try clear c33b0
                      try clear c33b1
                      try clear c34
                      try clear c34b0
                      try clear c35
                      try clear c35b0
                      try clear c36
                      try clear c36b0
                      try clear c36b1
                      try clear c37
                      try clear c37b0
                      try clear c37b1
                      try clear p2
                      try clear p23
                      try clear p26
                      try clear p6
                      try clear q2
                      try clear q23
                      try clear q26
                      obtain ⟨x12_3, x13_3, rfl, rfl, HA, HK3, HB⟩ := hrel
                      cases gk with
                      | zero => exact absurd HA.out (by simp [chinoiserielaw06_HostBytes.l0])
                      | succ k3 =>
                        have H := HA.out
                        clear HA
                        simp only [chinoiserielaw06_HostBytes.l0] at H
                        by_cases c39 : x13_3 < (t227.size : Int)
                        · rw [if_pos c39] at H
                          have c39b0 : decide (x13_3 < (t227.size : Int)) = true := decide_eq_true c39
                          clear c39
                          (first | rw [c39b0] | (simp only [i64_w, i32_w]; rw [c39b0]) | skip)
                          by_cases c40 : 0 ≤ x13_3
                          · rw [if_pos c40] at H
                            have c40b0 : decide (0 ≤ x13_3) = true := decide_eq_true c40
                            clear c40
                            by_cases c42 : (bt t227 x13_3) = 46
                            · rw [if_pos c42] at H
                              have c42b0 : ((bt t227 x13_3) == 46) = true := beq_iff_eq.mpr c42
                              have c42b1 : ((bt t227 x13_3) != 46) = false := bne_eq_false_iff_eq.mpr c42
                              clear c42
                              have H' := Aside0.mk H
                              clear H
                              have p41 : 0 ≤ (x13_3 : Int) := of_decide_eq_true (by first | (with_reducible assumption) | assumption)
                              have q41 : x13_3 < (t227.size : Int) := of_decide_eq_true (by first | (with_reducible assumption) | assumption)
                              have hx41 := bt_at t227 x13_3
                              replace p41 := eq_true p41
                              replace q41 := eq_true q41
                              go_wp2
                              go_meet
                              case rel => exact ⟨_, (x12_3), (by first | rfl | (simp; done) | (simp [*]; done)), H', ⟨by have := HJ11.out; have := HJ26.out; have := HK3.out; first | omega | exact Nat.le_refl _⟩, ⟨by repeat (first | (with_reducible first | exact HB.out | apply below_alloc | apply pw_below_drewN | apply below_drew1) | exact HB.out)⟩⟩
                            · rw [if_neg c42] at H
                              have c42b0 : ((bt t227 x13_3) == 46) = false := beq_eq_false_iff_ne.mpr c42
                              have c42b1 : ((bt t227 x13_3) != 46) = true := bne_iff_ne.mpr c42
                              have H' := Aside0.mk H
                              clear H
                              have p41 : 0 ≤ (x13_3 : Int) := of_decide_eq_true (by first | (with_reducible assumption) | assumption)
                              have q41 : x13_3 < (t227.size : Int) := of_decide_eq_true (by first | (with_reducible assumption) | assumption)
                              have hx41 := bt_at t227 x13_3
                              replace p41 := eq_true p41
                              replace q41 := eq_true q41
                              go_wp2
                              go_roundg k3
                              case measure => have := HJ11.out; have := HJ26.out; have := HK3.out; omega
                              case rel => exact ⟨(wrap64 (x12_3 + 1)), (wrap64 (x13_3 + 1)), (by first | rfl | (simp; done) | (simp [*]; done)), (by first | rfl | (simp; done) | (simp [*]; done)), H', ⟨by have := HJ11.out; have := HJ26.out; have := HK3.out; omega⟩, ⟨by repeat (first | (with_reducible first | exact HB.out | apply below_alloc | apply pw_below_drewN | apply below_drew1) | exact HB.out)⟩⟩
                          · rw [if_neg c40] at H
                            exact absurd H (by simp)
                        · rw [if_neg c39] at H
                          have c39b0 : decide (x13_3 < (t227.size : Int)) = false := decide_eq_false c39
                          clear c39
                          (first | rw [c39b0] | (simp only [i64_w, i32_w]; rw [c39b0]) | skip)
                          have H' := Aside0.mk H
                          clear H
                          go_wp2
                          go_meet
                          case rel => exact ⟨_, (x12_3), (by first | rfl | (simp; done) | (simp [*]; done)), H', ⟨by have := HJ11.out; have := HJ26.out; have := HK3.out; first | omega | exact Nat.le_refl _⟩, ⟨by repeat (first | (with_reducible first | exact HB.out | apply below_alloc | apply pw_below_drewN | apply below_drew1) | exact HB.out)⟩⟩
                  case rest =>
                    clear HC38
                    try clear c1
                    try clear hcv1
                    try clear c2
                    try clear p2
                    try clear q2
                    try clear hx2
                    try clear c3
                    try clear c4
                    try clear p4
                    try clear q4
                    try clear hx4
                    try clear c6
                    try clear c6b0
                    try clear c6b1
                    try clear p6
                    try clear c7
                    try clear c7b0
                    try clear c7b1
                    try clear c8
                    try clear c8b0
                    try clear c8b1
                    try clear c8b2
                    try clear c9
                    try clear c9b0
                    try clear c10
                    try clear c10b0
                    try clear c11
                    try clear c11b0
                    try clear c11b1
                    try clear c11b2
                    try clear hcv17
                    try clear c18
                    try clear c18b0
                    try clear c18b1
                    try clear c19
                    try clear c19b0
                    try clear c19b1
                    try clear c21
                    try clear c21b0
                    try clear c22
                    try clear c22b0
                    try clear c23
                    try clear p23
                    try clear q23
                    try clear hx23
                    try clear c24
                    try clear c24b0
                    try clear c24b1
                    try clear c25
                    try clear c25b0
                    try clear p26
                    try clear q26
                    try clear hx26
                    try clear c28
                    try clear c28b0
                    try clear c29
                    try clear c29b0
                    try clear c30
                    try clear c30b0
                    try clear c31
                    try clear c31b0
                    try clear c32
                    try clear c32b0
                    try clear c32b1
                    try clear c33
                    try clear c33b0
                    try clear c33b1
                    try clear c34
                    try clear c34b0
                    try clear c35
                    try clear c35b0
                    try clear c36
                    try clear c36b0
                    try clear c36b1
                    try clear c37
                    try clear c37b0
                    try clear c37b1
                    try clear c39
                    try clear c39b0
                    try clear c40
                    try clear c40b0
                    try clear p41
                    try clear q41
                    try clear hx41
                    try clear c42
                    try clear c42b0
                    try clear c42b1
                    try clear p2
                    try clear p23
                    try clear p26
                    try clear p41
                    try clear p6
                    try clear q2
                    try clear q23
                    try clear q26
                    try clear q41
                    obtain ⟨kq, x12_37, rfl, HA, HJ37, HB⟩ := hcut
                    cases kq with
                    | zero => exact absurd HA.out (by simp [chinoiserielaw06_HostBytes.j3])
                    | succ kj37 =>
                      have H := HA.out
                      clear HA
                      simp only [chinoiserielaw06_HostBytes.j3] at H
                      have HC43 := Aside0.mk H
                      clear H
                      go_upto_block 2 with (fail)
                      go_cut [12] (fun v12 wc => ∃ (kq : Nat) (x12_42 : Int), v12 = .int .i64 x12_42 ∧ Aside0 (chinoiserielaw06_HostBytes.j5 kq a1 t227 t228 (((t227.extract 0 (t228 : Int).toNat) ++ (strOfNums y229)) ++ (t227.extract (t228 : Int).toNat t227.size)) x10_11 x11_26 x12_42 = some r) ∧ Aside0 (kq ≤ kj37) ∧ Aside0 (Below w.heap.size w wc))
                      case first =>
                        have H := HC43.out
                        clear HC43
                        have H' := Aside0.mk H
                        clear H
                        go_wp2
                        go_loopg [12, 14] kj37 (fun kq v12 v14 w' => ∃ (x12_4 : Int) (x14_4 : Int), v12 = .int .i64 x12_4 ∧ v14 = .int .i64 x14_4 ∧ Aside0 (chinoiserielaw06_HostBytes.l1 kq a1 t227 t228 (((t227.extract 0 (t228 : Int).toNat) ++ (strOfNums y229)) ++ (t227.extract (t228 : Int).toNat t227.size)) x10_11 x11_26 x12_4 x14_4 = some r) ∧ Aside0 (kq ≤ kj37) ∧ Aside0 (Below w.heap.size w w'))
                        case atStart => exact ⟨(x12_37), (wrap64 (t228 - 1)), (by first | rfl | (simp; done) | (simp [*]; done)), (by first | rfl | (simp; done) | (simp [*]; done)), H', ⟨Nat.le_refl _⟩, ⟨by repeat (first | (with_reducible first | exact HB.out | apply below_alloc | apply pw_below_drewN | apply below_drew1) | exact HB.out)⟩⟩
                        case round =>
                          clear H'
                          try clear c1
                          try clear hcv1
                          try clear c2
                          try clear p2
                          try clear q2
                          try clear hx2
                          try clear c3
                          try clear c4
                          try clear p4
                          try clear q4
                          try clear hx4
                          try clear c6
                          try clear c6b0
                          try clear c6b1
                          try clear p6
                          try clear c7
                          try clear c7b0
                          try clear c7b1
                          try clear c8
                          try clear c8b0
                          try clear c8b1
                          try clear c8b2
                          try clear c9
                          try clear c9b0
                          try clear c10
                          try clear c10b0
                          try clear c11
                          try clear c11b0
                          try clear c11b1
                          try clear c11b2
                          try clear hcv17
                          try clear c18
                          try clear c18b0
                          try clear c18b1
                          try clear c19
                          try clear c19b0
                          try clear c19b1
                          try clear c21
                          try clear c21b0
                          try clear c22
                          try clear c22b0
                          try clear c23
                          try clear p23
                          try clear q23
                          try clear hx23
                          try clear c24
                          try clear c24b0
                          try clear c24b1
                          try clear c25
                          try clear c25b0
                          try clear p26
                          try clear q26
                          try clear hx26
                          try clear c28
                          try clear c28b0
                          try clear c29
                          try clear c29b0
                          try clear c30
                          try clear c30b0
                          try clear c31
                          try clear c31b0
                          try clear c32
                          try clear c32b0
                          try clear c32b1
                          try clear c33
                          try clear c33b0
                          try clear c33b1
                          try clear c34
                          try clear c34b0
                          try clear c35
                          try clear c35b0
                          try clear c36
                          try clear c36b0
                          try clear c36b1
                          try clear c37
                          try clear c37b0
                          try clear c37b1
                          try clear c39
                          try clear c39b0
                          try clear c40
                          try clear c40b0
                          try clear p41
                          try clear q41
                          try clear hx41
                          try clear c42
                          try clear c42b0
                          try clear c42b1
                          try clear p2
                          try clear p23
                          try clear p26
                          try clear p4
                          try clear p41
                          try clear p6
                          try clear q2
                          try clear q23
                          try clear q26
                          try clear q4
                          try clear q41
                          obtain ⟨x12_4, x14_4, rfl, rfl, HA, HK4, HB⟩ := hrel
                          cases gk with
                          | zero => exact absurd HA.out (by simp [chinoiserielaw06_HostBytes.l1])
                          | succ k4 =>
                            have H := HA.out
                            clear HA
                            simp only [chinoiserielaw06_HostBytes.l1] at H
                            by_cases c44 : x14_4 ≥ 0
                            · rw [if_pos c44] at H
                              have c44b0 : decide (0 ≤ x14_4) = true := decide_eq_true c44
                              clear c44
                              (first | rw [c44b0] | (simp only [i64_w, i32_w]; rw [c44b0]) | skip)
                              by_cases c45 : 0 ≤ x14_4
                              · rw [if_pos c45] at H
                                have c45b0 : decide (0 ≤ x14_4) = true := decide_eq_true c45
                                clear c45
                                by_cases c46 : x14_4 < (t227.size : Int)
                                · rw [if_pos c46] at H
                                  have c46b0 : decide (x14_4 < (t227.size : Int)) = true := decide_eq_true c46
                                  clear c46
                                  by_cases c48 : (bt t227 x14_4) = 46
                                  · rw [if_pos c48] at H
                                    have c48b0 : ((bt t227 x14_4) == 46) = true := beq_iff_eq.mpr c48
                                    have c48b1 : ((bt t227 x14_4) != 46) = false := bne_eq_false_iff_eq.mpr c48
                                    clear c48
                                    have H' := Aside0.mk H
                                    clear H
                                    have p47 : 0 ≤ (x14_4 : Int) := of_decide_eq_true (by first | (with_reducible assumption) | assumption)
                                    have q47 : x14_4 < (t227.size : Int) := of_decide_eq_true (by first | (with_reducible assumption) | assumption)
                                    have hx47 := bt_at t227 x14_4
                                    replace p47 := eq_true p47
                                    replace q47 := eq_true q47
                                    go_wp2
                                    go_meet
                                    case rel => exact ⟨_, (x12_4), (by first | rfl | (simp; done) | (simp [*]; done)), H', ⟨by have := HJ11.out; have := HJ26.out; have := HJ37.out; have := HK4.out; first | omega | exact Nat.le_refl _⟩, ⟨by repeat (first | (with_reducible first | exact HB.out | apply below_alloc | apply pw_below_drewN | apply below_drew1) | exact HB.out)⟩⟩
                                  · rw [if_neg c48] at H
                                    have c48b0 : ((bt t227 x14_4) == 46) = false := beq_eq_false_iff_ne.mpr c48
                                    have c48b1 : ((bt t227 x14_4) != 46) = true := bne_iff_ne.mpr c48
                                    have H' := Aside0.mk H
                                    clear H
                                    have p47 : 0 ≤ (x14_4 : Int) := of_decide_eq_true (by first | (with_reducible assumption) | assumption)
                                    have q47 : x14_4 < (t227.size : Int) := of_decide_eq_true (by first | (with_reducible assumption) | assumption)
                                    have hx47 := bt_at t227 x14_4
                                    replace p47 := eq_true p47
                                    replace q47 := eq_true q47
                                    go_wp2
                                    go_roundg k4
                                    case measure => have := HJ11.out; have := HJ26.out; have := HJ37.out; have := HK4.out; omega
                                    case rel => exact ⟨(wrap64 (x12_4 + 1)), (wrap64 (x14_4 - 1)), (by first | rfl | (simp; done) | (simp [*]; done)), (by first | rfl | (simp; done) | (simp [*]; done)), H', ⟨by have := HJ11.out; have := HJ26.out; have := HJ37.out; have := HK4.out; omega⟩, ⟨by repeat (first | (with_reducible first | exact HB.out | apply below_alloc | apply pw_below_drewN | apply below_drew1) | exact HB.out)⟩⟩
                                · rw [if_neg c46] at H
                                  exact absurd H (by simp)
                              · rw [if_neg c45] at H
                                exact absurd H (by simp)
                            · rw [if_neg c44] at H
                              have c44b0 : decide (0 ≤ x14_4) = false := decide_eq_false c44
                              clear c44
                              (first | rw [c44b0] | (simp only [i64_w, i32_w]; rw [c44b0]) | skip)
                              have H' := Aside0.mk H
                              clear H
                              go_wp2
                              go_meet
                              case rel => exact ⟨_, (x12_4), (by first | rfl | (simp; done) | (simp [*]; done)), H', ⟨by have := HJ11.out; have := HJ26.out; have := HJ37.out; have := HK4.out; first | omega | exact Nat.le_refl _⟩, ⟨by repeat (first | (with_reducible first | exact HB.out | apply below_alloc | apply pw_below_drewN | apply below_drew1) | exact HB.out)⟩⟩
                      case rest =>
                        clear HC43
                        try clear c1
                        try clear hcv1
                        try clear c2
                        try clear p2
                        try clear q2
                        try clear hx2
                        try clear c3
                        try clear c4
                        try clear p4
                        try clear q4
                        try clear hx4
                        try clear c6
                        try clear c6b0
                        try clear c6b1
                        try clear p6
                        try clear c7
                        try clear c7b0
                        try clear c7b1
                        try clear c8
                        try clear c8b0
                        try clear c8b1
                        try clear c8b2
                        try clear c9
                        try clear c9b0
                        try clear c10
                        try clear c10b0
                        try clear c11
                        try clear c11b0
                        try clear c11b1
                        try clear c11b2
                        try clear hcv17
                        try clear c18
                        try clear c18b0
                        try clear c18b1
                        try clear c19
                        try clear c19b0
                        try clear c19b1
                        try clear c21
                        try clear c21b0
                        try clear c22
                        try clear c22b0
                        try clear c23
                        try clear p23
                        try clear q23
                        try clear hx23
                        try clear c24
                        try clear c24b0
                        try clear c24b1
                        try clear c25
                        try clear c25b0
                        try clear p26
                        try clear q26
                        try clear hx26
                        try clear c28
                        try clear c28b0
                        try clear c29
                        try clear c29b0
                        try clear c30
                        try clear c30b0
                        try clear c31
                        try clear c31b0
                        try clear c32
                        try clear c32b0
                        try clear c32b1
                        try clear c33
                        try clear c33b0
                        try clear c33b1
                        try clear c34
                        try clear c34b0
                        try clear c35
                        try clear c35b0
                        try clear c36
                        try clear c36b0
                        try clear c36b1
                        try clear c37
                        try clear c37b0
                        try clear c37b1
                        try clear c39
                        try clear c39b0
                        try clear c40
                        try clear c40b0
                        try clear p41
                        try clear q41
                        try clear hx41
                        try clear c42
                        try clear c42b0
                        try clear c42b1
                        try clear c44
                        try clear c44b0
                        try clear c45
                        try clear c45b0
                        try clear c46
                        try clear c46b0
                        try clear p47
                        try clear q47
                        try clear hx47
                        try clear c48
                        try clear c48b0
                        try clear c48b1
                        try clear p2
                        try clear p23
                        try clear p26
                        try clear p4
                        try clear p41
                        try clear p47
                        try clear p6
                        try clear q2
                        try clear q23
                        try clear q26
                        try clear q4
                        try clear q41
                        try clear q47
                        obtain ⟨kq, x12_42, rfl, HA, HJ42, HB⟩ := hcut
                        cases kq with
                        | zero => exact absurd HA.out (by simp [chinoiserielaw06_HostBytes.j5])
                        | succ kj42 =>
                          have H := HA.out
                          clear HA
                          simp only [chinoiserielaw06_HostBytes.j5] at H
                          by_cases c49 : a1 = 46
                          · rw [if_pos c49] at H
                            have c49b0 : (a1 == 46) = true := beq_iff_eq.mpr c49
                            have c49b1 : (a1 != 46) = false := bne_eq_false_iff_eq.mpr c49
                            clear c49
                            by_cases c50 : x10_11 = true
                            · subst c50
                              have H1 : ((host_Plain.f (((t227.extract 0 (t228 : Int).toNat) ++ (strOfNums y229)) ++ (t227.extract (t228 : Int).toNat t227.size))).bind fun t232 => (if ((t232 == 0) == false) = true then ((chinoiserielaw06_works.f kj42).bind fun t233 => (some t233)) else (some false))) = some r := by rw [if_pos rfl] at H; exact H
                              clear H
                              have H := H1
                              clear H1
                              replace H := Option.bind_eq_some_iff.mp H
                              obtain ⟨t232, A510, H⟩ := H
                              replace H : (if ((t232 == 0) == false) = true then ((chinoiserielaw06_works.f kj42).bind fun t233 => (some t233)) else (some false)) = some r := H
                              have A51 := Aside0.mk A510
                              clear A510
                              by_cases c52 : ((t232 == 0) == false) = true
                              · rw [if_pos c52] at H
                                have c52b0 : ((t232 == 0) == false) = true := c52
                                (try (have c52b1 : decide ((t232 == 0) = false) = true := by simpa using c52))
                                (try (have c52b2 : ((t232 == 0) == false) = true := by simpa using c52))
                                clear c52
                                replace H := Option.bind_eq_some_iff.mp H
                                obtain ⟨t233, A530, H⟩ := H
                                replace H : (some t233) = some r := H
                                have A53 := Aside0.mk A530
                                clear A530
                                obtain rfl := Option.some.inj H
                                go_wp2_with (first | ((with_reducible refine gate_callee (f := 13) rfl ?_); refine goesL_ (some 123) rfl rfl Tryd.func13 (by kernel_rfl) rfl #[.string (((t227.extract 0 (t228 : Int).toNat) ++ (strOfNums y229)) ++ (t227.extract (t228 : Int).toNat t227.size))] rfl (by (try simp only [List.map_toArray, List.map_cons, List.map_nil]); first | done | rfl | (simp only [List.length_drop, List.length_take]; rfl)) ?_; (with_reducible refine (host_Plain.calls (((t227.extract 0 (t228 : Int).toNat) ++ (strOfNums y229)) ++ (t227.extract (t228 : Int).toNat t227.size)) t232 _ A51.out).mono ?_); rintro e w54 ⟨rfl, hb⟩; refine ⟨_, rfl, ?_⟩; have n0_ := Aside0.mk (below_step (by repeat (first | (with_reducible first | exact HB.out | apply below_alloc | apply pw_below_drewN | apply below_drew1) | exact HB.out)) hb); clear HB; have HB := n0_; clear n0_; (try clear hb); (try clear hb2); (try clear hk); (try clear hi)) | (go_at_call 17; (with_reducible refine (chinoiserielaw06_works.calls kj42  t233 _ A53.out).mono ?_); rintro e w55 ⟨rfl, hb⟩; have n0_ := Aside0.mk (below_step (by repeat (first | (with_reducible first | exact HB.out | apply below_alloc | apply pw_below_drewN | apply below_drew1) | exact HB.out)) hb); clear HB; have HB := n0_; clear n0_; (try clear hb); (try clear hb2); (try clear hk); (try clear hi)))
                                all_goals go_ret
                                all_goals exact ⟨by first | rfl | (simp [errW_none, errW_some] <;> rfl) | (simp [*, errW_none, errW_some] <;> rfl), by repeat (first | (with_reducible first | exact HB.out | apply below_alloc | apply pw_below_drewN | apply below_drew1) | exact HB.out)⟩
                              · rw [if_neg c52] at H
                                have c52b0 : ((t232 == 0) == false) = false := by simpa using c52
                                (try (have c52b1 : decide ((t232 == 0) = false) = false := by simpa using c52))
                                (try (have c52b2 : ((t232 == 0) == false) = false := by simpa using c52))
                                (try (have c52b3 : ¬ ((t232 == 0) = false) := by simpa using c52))
                                clear c52
                                obtain rfl := Option.some.inj H
                                go_wp2_with (first | ((with_reducible refine gate_callee (f := 13) rfl ?_); refine goesL_ (some 123) rfl rfl Tryd.func13 (by kernel_rfl) rfl #[.string (((t227.extract 0 (t228 : Int).toNat) ++ (strOfNums y229)) ++ (t227.extract (t228 : Int).toNat t227.size))] rfl (by (try simp only [List.map_toArray, List.map_cons, List.map_nil]); first | done | rfl | (simp only [List.length_drop, List.length_take]; rfl)) ?_; (with_reducible refine (host_Plain.calls (((t227.extract 0 (t228 : Int).toNat) ++ (strOfNums y229)) ++ (t227.extract (t228 : Int).toNat t227.size)) t232 _ A51.out).mono ?_); rintro e w56 ⟨rfl, hb⟩; refine ⟨_, rfl, ?_⟩; have n0_ := Aside0.mk (below_step (by repeat (first | (with_reducible first | exact HB.out | apply below_alloc | apply pw_below_drewN | apply below_drew1) | exact HB.out)) hb); clear HB; have HB := n0_; clear n0_; (try clear hb); (try clear hb2); (try clear hk); (try clear hi)))
                                all_goals go_ret
                                all_goals exact ⟨by first | rfl | (simp [errW_none, errW_some] <;> rfl) | (simp [*, errW_none, errW_some] <;> rfl), by repeat (first | (with_reducible first | exact HB.out | apply below_alloc | apply pw_below_drewN | apply below_drew1) | exact HB.out)⟩
                            · replace c50 := Bool.eq_false_iff.mpr c50
                              subst c50
                              have H1 : (if 0 ≤ (wrap64 (t228 - 1)) then (if (wrap64 (t228 - 1)) < (t227.size : Int) then (if (bt t227 (wrap64 (t228 - 1))) = 45 then ((host_Plain.f (((t227.extract 0 (t228 : Int).toNat) ++ (strOfNums y229)) ++ (t227.extract (t228 : Int).toNat t227.size))).bind fun t234 => (if ((t234 == 0) == false) = true then ((chinoiserielaw06_works.f kj42).bind fun t235 => (some t235)) else (some false))) else (if 0 ≤ t228 then (if t228 < (t227.size : Int) then ((host_Plain.f (((t227.extract 0 (t228 : Int).toNat) ++ (strOfNums y229)) ++ (t227.extract (t228 : Int).toNat t227.size))).bind fun t236 => (if (bt t227 t228) = 45 then (if ((t236 == 0) == false) = true then ((chinoiserielaw06_works.f kj42).bind fun t237 => (some t237)) else (some false)) else (if 1 ≤ 20 then (if ((t236 == 0) == (decide (((((t227.extract 0 (t228 : Int).toNat) ++ (strOfNums y229)) ++ (t227.extract (t228 : Int).toNat t227.size)).size : Int) ≤ 60))) = true then ((chinoiserielaw06_works.f kj42).bind fun t238 => (some t238)) else (some false)) else (if ((t236 == 0) == false) = true then ((chinoiserielaw06_works.f kj42).bind fun t239 => (some t239)) else (some false))))) else (none)) else (none))) else (none)) else (none)) = some r := by rw [if_neg (show ¬ (false = true) by decide)] at H; exact H
                              clear H
                              have H := H1
                              clear H1
                              obtain ⟨ji57, hji57⟩ : ∃ j_ : Int, (wrap64 (t228 - 1)) = j_ := ⟨_, rfl⟩
                              replace H : (if 0 ≤ (ji57) then (if (ji57) < (t227.size : Int) then (if (bt t227 (ji57)) = 45 then ((host_Plain.f (((t227.extract 0 (t228 : Int).toNat) ++ (strOfNums y229)) ++ (t227.extract (t228 : Int).toNat t227.size))).bind fun t234 => (if ((t234 == 0) == false) = true then ((chinoiserielaw06_works.f kj42).bind fun t235 => (some t235)) else (some false))) else (if 0 ≤ t228 then (if t228 < (t227.size : Int) then ((host_Plain.f (((t227.extract 0 (t228 : Int).toNat) ++ (strOfNums y229)) ++ (t227.extract (t228 : Int).toNat t227.size))).bind fun t236 => (if (bt t227 t228) = 45 then (if ((t236 == 0) == false) = true then ((chinoiserielaw06_works.f kj42).bind fun t237 => (some t237)) else (some false)) else (if 1 ≤ 20 then (if ((t236 == 0) == (decide (((((t227.extract 0 (t228 : Int).toNat) ++ (strOfNums y229)) ++ (t227.extract (t228 : Int).toNat t227.size)).size : Int) ≤ 60))) = true then ((chinoiserielaw06_works.f kj42).bind fun t238 => (some t238)) else (some false)) else (if ((t236 == 0) == false) = true then ((chinoiserielaw06_works.f kj42).bind fun t239 => (some t239)) else (some false))))) else (none)) else (none))) else (none)) else (none)) = some r := by first | (rw [hji57] at H; exact H) | (simp only [hji57] at H ⊢; exact H)
                              have hji57w : (IntKind.i64.wrap (t228 - 1)) = ji57 := (i64_w _).trans hji57
                              by_cases c58 : 0 ≤ (ji57)
                              · rw [if_pos c58] at H
                                have c58b0 : decide (0 ≤ (ji57)) = true := decide_eq_true c58
                                clear c58
                                by_cases c59 : (ji57) < (t227.size : Int)
                                · rw [if_pos c59] at H
                                  have c59b0 : decide ((ji57) < (t227.size : Int)) = true := decide_eq_true c59
                                  clear c59
                                  by_cases c61 : (bt t227 (ji57)) = 45
                                  · rw [if_pos c61] at H
                                    have c61b0 : ((bt t227 (ji57)) == 45) = true := beq_iff_eq.mpr c61
                                    have c61b1 : ((bt t227 (ji57)) != 45) = false := bne_eq_false_iff_eq.mpr c61
                                    clear c61
                                    replace H := Option.bind_eq_some_iff.mp H
                                    obtain ⟨t234, A620, H⟩ := H
                                    replace H : (if ((t234 == 0) == false) = true then ((chinoiserielaw06_works.f kj42).bind fun t235 => (some t235)) else (some false)) = some r := H
                                    have A62 := Aside0.mk A620
                                    clear A620
                                    by_cases c63 : ((t234 == 0) == false) = true
                                    · rw [if_pos c63] at H
                                      have c63b0 : ((t234 == 0) == false) = true := c63
                                      (try (have c63b1 : decide ((t234 == 0) = false) = true := by simpa using c63))
                                      (try (have c63b2 : ((t234 == 0) == false) = true := by simpa using c63))
                                      clear c63
                                      replace H := Option.bind_eq_some_iff.mp H
                                      obtain ⟨t235, A640, H⟩ := H
                                      replace H : (some t235) = some r := H
                                      have A64 := Aside0.mk A640
                                      clear A640
                                      obtain rfl := Option.some.inj H
                                      have p60 : 0 ≤ ((ji57) : Int) := of_decide_eq_true (by first | (with_reducible assumption) | assumption)
                                      have q60 : (ji57) < (t227.size : Int) := of_decide_eq_true (by first | (with_reducible assumption) | assumption)
                                      have hx60 := bt_at t227 (ji57)
                                      replace p60 := eq_true p60
                                      replace q60 := eq_true q60
                                      go_wp2_with (first | ((with_reducible refine gate_callee (f := 13) rfl ?_); refine goesL_ (some 123) rfl rfl Tryd.func13 (by kernel_rfl) rfl #[.string (((t227.extract 0 (t228 : Int).toNat) ++ (strOfNums y229)) ++ (t227.extract (t228 : Int).toNat t227.size))] rfl (by (try simp only [List.map_toArray, List.map_cons, List.map_nil]); first | done | rfl | (simp only [List.length_drop, List.length_take]; rfl)) ?_; (with_reducible refine (host_Plain.calls (((t227.extract 0 (t228 : Int).toNat) ++ (strOfNums y229)) ++ (t227.extract (t228 : Int).toNat t227.size)) t234 _ A62.out).mono ?_); rintro e w65 ⟨rfl, hb⟩; refine ⟨_, rfl, ?_⟩; have n0_ := Aside0.mk (below_step (by repeat (first | (with_reducible first | exact HB.out | apply below_alloc | apply pw_below_drewN | apply below_drew1) | exact HB.out)) hb); clear HB; have HB := n0_; clear n0_; (try clear hb); (try clear hb2); (try clear hk); (try clear hi)) | (go_at_call 17; (with_reducible refine (chinoiserielaw06_works.calls kj42  t235 _ A64.out).mono ?_); rintro e w66 ⟨rfl, hb⟩; have n0_ := Aside0.mk (below_step (by repeat (first | (with_reducible first | exact HB.out | apply below_alloc | apply pw_below_drewN | apply below_drew1) | exact HB.out)) hb); clear HB; have HB := n0_; clear n0_; (try clear hb); (try clear hb2); (try clear hk); (try clear hi)))
                                      all_goals go_ret
                                      all_goals exact ⟨by first | rfl | (simp [errW_none, errW_some] <;> rfl) | (simp only [← hji57]; first | rfl | (simp [errW_none, errW_some] <;> rfl)) | (simp [*, errW_none, errW_some] <;> rfl), by repeat (first | (with_reducible first | exact HB.out | apply below_alloc | apply pw_below_drewN | apply below_drew1) | exact HB.out)⟩
                                    · rw [if_neg c63] at H
                                      have c63b0 : ((t234 == 0) == false) = false := by simpa using c63
                                      (try (have c63b1 : decide ((t234 == 0) = false) = false := by simpa using c63))
                                      (try (have c63b2 : ((t234 == 0) == false) = false := by simpa using c63))
                                      (try (have c63b3 : ¬ ((t234 == 0) = false) := by simpa using c63))
                                      clear c63
                                      obtain rfl := Option.some.inj H
                                      have p60 : 0 ≤ ((ji57) : Int) := of_decide_eq_true (by first | (with_reducible assumption) | assumption)
                                      have q60 : (ji57) < (t227.size : Int) := of_decide_eq_true (by first | (with_reducible assumption) | assumption)
                                      have hx60 := bt_at t227 (ji57)
                                      replace p60 := eq_true p60
                                      replace q60 := eq_true q60
                                      go_wp2_with (first | ((with_reducible refine gate_callee (f := 13) rfl ?_); refine goesL_ (some 123) rfl rfl Tryd.func13 (by kernel_rfl) rfl #[.string (((t227.extract 0 (t228 : Int).toNat) ++ (strOfNums y229)) ++ (t227.extract (t228 : Int).toNat t227.size))] rfl (by (try simp only [List.map_toArray, List.map_cons, List.map_nil]); first | done | rfl | (simp only [List.length_drop, List.length_take]; rfl)) ?_; (with_reducible refine (host_Plain.calls (((t227.extract 0 (t228 : Int).toNat) ++ (strOfNums y229)) ++ (t227.extract (t228 : Int).toNat t227.size)) t234 _ A62.out).mono ?_); rintro e w67 ⟨rfl, hb⟩; refine ⟨_, rfl, ?_⟩; have n0_ := Aside0.mk (below_step (by repeat (first | (with_reducible first | exact HB.out | apply below_alloc | apply pw_below_drewN | apply below_drew1) | exact HB.out)) hb); clear HB; have HB := n0_; clear n0_; (try clear hb); (try clear hb2); (try clear hk); (try clear hi)))
                                      all_goals go_ret
                                      all_goals exact ⟨by first | rfl | (simp [errW_none, errW_some] <;> rfl) | (simp only [← hji57]; first | rfl | (simp [errW_none, errW_some] <;> rfl)) | (simp [*, errW_none, errW_some] <;> rfl), by repeat (first | (with_reducible first | exact HB.out | apply below_alloc | apply pw_below_drewN | apply below_drew1) | exact HB.out)⟩
                                  · rw [if_neg c61] at H
                                    have c61b0 : ((bt t227 (ji57)) == 45) = false := beq_eq_false_iff_ne.mpr c61
                                    have c61b1 : ((bt t227 (ji57)) != 45) = true := bne_iff_ne.mpr c61
                                    by_cases c68 : 0 ≤ t228
                                    · rw [if_pos c68] at H
                                      have c68b0 : decide (0 ≤ t228) = true := decide_eq_true c68
                                      clear c68
                                      by_cases c69 : t228 < (t227.size : Int)
                                      · rw [if_pos c69] at H
                                        have c69b0 : decide (t228 < (t227.size : Int)) = true := decide_eq_true c69
                                        clear c69
                                        replace H := Option.bind_eq_some_iff.mp H
                                        obtain ⟨t236, A710, H⟩ := H
                                        replace H : (if (bt t227 t228) = 45 then (if ((t236 == 0) == false) = true then ((chinoiserielaw06_works.f kj42).bind fun t237 => (some t237)) else (some false)) else (if 1 ≤ 20 then (if ((t236 == 0) == (decide (((((t227.extract 0 (t228 : Int).toNat) ++ (strOfNums y229)) ++ (t227.extract (t228 : Int).toNat t227.size)).size : Int) ≤ 60))) = true then ((chinoiserielaw06_works.f kj42).bind fun t238 => (some t238)) else (some false)) else (if ((t236 == 0) == false) = true then ((chinoiserielaw06_works.f kj42).bind fun t239 => (some t239)) else (some false)))) = some r := H
                                        have A71 := Aside0.mk A710
                                        clear A710
                                        by_cases c72 : (bt t227 t228) = 45
                                        · rw [if_pos c72] at H
                                          have c72b0 : ((bt t227 t228) == 45) = true := beq_iff_eq.mpr c72
                                          have c72b1 : ((bt t227 t228) != 45) = false := bne_eq_false_iff_eq.mpr c72
                                          clear c72
                                          by_cases c73 : ((t236 == 0) == false) = true
                                          · rw [if_pos c73] at H
                                            have c73b0 : ((t236 == 0) == false) = true := c73
                                            (try (have c73b1 : decide ((t236 == 0) = false) = true := by simpa using c73))
                                            (try (have c73b2 : ((t236 == 0) == false) = true := by simpa using c73))
                                            clear c73
                                            replace H := Option.bind_eq_some_iff.mp H
                                            obtain ⟨t237, A740, H⟩ := H
                                            replace H : (some t237) = some r := H
                                            have A74 := Aside0.mk A740
                                            clear A740
                                            obtain rfl := Option.some.inj H
                                            have p60 : 0 ≤ ((ji57) : Int) := of_decide_eq_true (by first | (with_reducible assumption) | assumption)
                                            have q60 : (ji57) < (t227.size : Int) := of_decide_eq_true (by first | (with_reducible assumption) | assumption)
                                            have hx60 := bt_at t227 (ji57)
                                            replace p60 := eq_true p60
                                            replace q60 := eq_true q60
                                            have p70 : 0 ≤ (t228 : Int) := of_decide_eq_true (by first | (with_reducible assumption) | assumption)
                                            have q70 : t228 < (t227.size : Int) := of_decide_eq_true (by first | (with_reducible assumption) | assumption)
                                            have hx70 := bt_at t227 t228
                                            replace p70 := eq_true p70
                                            replace q70 := eq_true q70
                                            go_wp2_with (first | ((with_reducible refine gate_callee (f := 13) rfl ?_); refine goesL_ (some 123) rfl rfl Tryd.func13 (by kernel_rfl) rfl #[.string (((t227.extract 0 (t228 : Int).toNat) ++ (strOfNums y229)) ++ (t227.extract (t228 : Int).toNat t227.size))] rfl (by (try simp only [List.map_toArray, List.map_cons, List.map_nil]); first | done | rfl | (simp only [List.length_drop, List.length_take]; rfl)) ?_; (with_reducible refine (host_Plain.calls (((t227.extract 0 (t228 : Int).toNat) ++ (strOfNums y229)) ++ (t227.extract (t228 : Int).toNat t227.size)) t236 _ A71.out).mono ?_); rintro e w75 ⟨rfl, hb⟩; refine ⟨_, rfl, ?_⟩; have n0_ := Aside0.mk (below_step (by repeat (first | (with_reducible first | exact HB.out | apply below_alloc | apply pw_below_drewN | apply below_drew1) | exact HB.out)) hb); clear HB; have HB := n0_; clear n0_; (try clear hb); (try clear hb2); (try clear hk); (try clear hi)) | (go_at_call 17; (with_reducible refine (chinoiserielaw06_works.calls kj42  t237 _ A74.out).mono ?_); rintro e w76 ⟨rfl, hb⟩; have n0_ := Aside0.mk (below_step (by repeat (first | (with_reducible first | exact HB.out | apply below_alloc | apply pw_below_drewN | apply below_drew1) | exact HB.out)) hb); clear HB; have HB := n0_; clear n0_; (try clear hb); (try clear hb2); (try clear hk); (try clear hi)))
                                            all_goals go_ret
                                            all_goals exact ⟨by first | rfl | (simp [errW_none, errW_some] <;> rfl) | (simp only [← hji57]; first | rfl | (simp [errW_none, errW_some] <;> rfl)) | (simp [*, errW_none, errW_some] <;> rfl), by repeat (first | (with_reducible first | exact HB.out | apply below_alloc | apply pw_below_drewN | apply below_drew1) | exact HB.out)⟩
                                          · rw [if_neg c73] at H
                                            have c73b0 : ((t236 == 0) == false) = false := by simpa using c73
                                            (try (have c73b1 : decide ((t236 == 0) = false) = false := by simpa using c73))
                                            (try (have c73b2 : ((t236 == 0) == false) = false := by simpa using c73))
                                            (try (have c73b3 : ¬ ((t236 == 0) = false) := by simpa using c73))
                                            clear c73
                                            obtain rfl := Option.some.inj H
                                            have p60 : 0 ≤ ((ji57) : Int) := of_decide_eq_true (by first | (with_reducible assumption) | assumption)
                                            have q60 : (ji57) < (t227.size : Int) := of_decide_eq_true (by first | (with_reducible assumption) | assumption)
                                            have hx60 := bt_at t227 (ji57)
                                            replace p60 := eq_true p60
                                            replace q60 := eq_true q60
                                            have p70 : 0 ≤ (t228 : Int) := of_decide_eq_true (by first | (with_reducible assumption) | assumption)
                                            have q70 : t228 < (t227.size : Int) := of_decide_eq_true (by first | (with_reducible assumption) | assumption)
                                            have hx70 := bt_at t227 t228
                                            replace p70 := eq_true p70
                                            replace q70 := eq_true q70
                                            go_wp2_with (first | ((with_reducible refine gate_callee (f := 13) rfl ?_); refine goesL_ (some 123) rfl rfl Tryd.func13 (by kernel_rfl) rfl #[.string (((t227.extract 0 (t228 : Int).toNat) ++ (strOfNums y229)) ++ (t227.extract (t228 : Int).toNat t227.size))] rfl (by (try simp only [List.map_toArray, List.map_cons, List.map_nil]); first | done | rfl | (simp only [List.length_drop, List.length_take]; rfl)) ?_; (with_reducible refine (host_Plain.calls (((t227.extract 0 (t228 : Int).toNat) ++ (strOfNums y229)) ++ (t227.extract (t228 : Int).toNat t227.size)) t236 _ A71.out).mono ?_); rintro e w77 ⟨rfl, hb⟩; refine ⟨_, rfl, ?_⟩; have n0_ := Aside0.mk (below_step (by repeat (first | (with_reducible first | exact HB.out | apply below_alloc | apply pw_below_drewN | apply below_drew1) | exact HB.out)) hb); clear HB; have HB := n0_; clear n0_; (try clear hb); (try clear hb2); (try clear hk); (try clear hi)))
                                            all_goals go_ret
                                            all_goals exact ⟨by first | rfl | (simp [errW_none, errW_some] <;> rfl) | (simp only [← hji57]; first | rfl | (simp [errW_none, errW_some] <;> rfl)) | (simp [*, errW_none, errW_some] <;> rfl), by repeat (first | (with_reducible first | exact HB.out | apply below_alloc | apply pw_below_drewN | apply below_drew1) | exact HB.out)⟩
                                        · rw [if_neg c72] at H
                                          have c72b0 : ((bt t227 t228) == 45) = false := beq_eq_false_iff_ne.mpr c72
                                          have c72b1 : ((bt t227 t228) != 45) = true := bne_iff_ne.mpr c72
                                          by_cases c78 : 1 ≤ 20
                                          · rw [if_pos c78] at H
                                            have c78b0 : decide (1 ≤ 20) = true := decide_eq_true c78
                                            clear c78
                                            have c79hz : ((((t227.extract 0 (t228 : Int).toNat) ++ (strOfNums y229)) ++ (t227.extract (t228 : Int).toNat t227.size)).size : Int) = max t228 0 + ((strOfNums y229).size : Int) + (((t227).size - (t228).toNat : Nat) : Int) := by simp only [ByteArray.size_append, ByteArray.size_extract, hmin_]; omega
                                            by_cases c79 : ((t236 == 0) == (decide (((((t227.extract 0 (t228 : Int).toNat) ++ (strOfNums y229)) ++ (t227.extract (t228 : Int).toNat t227.size)).size : Int) ≤ 60))) = true
                                            · rw [if_pos c79] at H
                                              try have c79b7 := c79
                                              try simp only [c79hz] at c79b7
                                              try have c79b8 := c79b7
                                              try simp only [beq_iff_eq] at c79b8
                                              have c79b0 : ((t236 == 0) == (decide (((((t227.extract 0 (t228 : Int).toNat) ++ (strOfNums y229)) ++ (t227.extract (t228 : Int).toNat t227.size)).size : Int) ≤ 60))) = true := c79
                                              (try (have c79b1 : decide ((t236 == 0) = (decide (((((t227.extract 0 (t228 : Int).toNat) ++ (strOfNums y229)) ++ (t227.extract (t228 : Int).toNat t227.size)).size : Int) ≤ 60))) = true := by simpa using c79))
                                              (try (have c79b2 : ((t236 == 0) == (decide (((((t227.extract 0 (t228 : Int).toNat) ++ (strOfNums y229)) ++ (t227.extract (t228 : Int).toNat t227.size)).size : Int) ≤ 60))) = true := by simpa using c79))
                                              clear c79
                                              replace H := Option.bind_eq_some_iff.mp H
                                              obtain ⟨t238, A800, H⟩ := H
                                              replace H : (some t238) = some r := H
                                              have A80 := Aside0.mk A800
                                              clear A800
                                              obtain rfl := Option.some.inj H
                                              have p60 : 0 ≤ ((ji57) : Int) := of_decide_eq_true (by first | (with_reducible assumption) | assumption)
                                              have q60 : (ji57) < (t227.size : Int) := of_decide_eq_true (by first | (with_reducible assumption) | assumption)
                                              have hx60 := bt_at t227 (ji57)
                                              replace p60 := eq_true p60
                                              replace q60 := eq_true q60
                                              have p70 : 0 ≤ (t228 : Int) := of_decide_eq_true (by first | (with_reducible assumption) | assumption)
                                              have q70 : t228 < (t227.size : Int) := of_decide_eq_true (by first | (with_reducible assumption) | assumption)
                                              have hx70 := bt_at t227 t228
                                              replace p70 := eq_true p70
                                              replace q70 := eq_true q70
                                              go_wp2_with (first | ((with_reducible refine gate_callee (f := 13) rfl ?_); refine goesL_ (some 123) rfl rfl Tryd.func13 (by kernel_rfl) rfl #[.string (((t227.extract 0 (t228 : Int).toNat) ++ (strOfNums y229)) ++ (t227.extract (t228 : Int).toNat t227.size))] rfl (by (try simp only [List.map_toArray, List.map_cons, List.map_nil]); first | done | rfl | (simp only [List.length_drop, List.length_take]; rfl)) ?_; (with_reducible refine (host_Plain.calls (((t227.extract 0 (t228 : Int).toNat) ++ (strOfNums y229)) ++ (t227.extract (t228 : Int).toNat t227.size)) t236 _ A71.out).mono ?_); rintro e w81 ⟨rfl, hb⟩; refine ⟨_, rfl, ?_⟩; have n0_ := Aside0.mk (below_step (by repeat (first | (with_reducible first | exact HB.out | apply below_alloc | apply pw_below_drewN | apply below_drew1) | exact HB.out)) hb); clear HB; have HB := n0_; clear n0_; (try clear hb); (try clear hb2); (try clear hk); (try clear hi)) | (go_at_call 17; (with_reducible refine (chinoiserielaw06_works.calls kj42  t238 _ A80.out).mono ?_); rintro e w82 ⟨rfl, hb⟩; have n0_ := Aside0.mk (below_step (by repeat (first | (with_reducible first | exact HB.out | apply below_alloc | apply pw_below_drewN | apply below_drew1) | exact HB.out)) hb); clear HB; have HB := n0_; clear n0_; (try clear hb); (try clear hb2); (try clear hk); (try clear hi)))
                                              all_goals go_ret
                                              all_goals exact ⟨by first | rfl | (simp [errW_none, errW_some] <;> rfl) | (simp only [← hji57]; first | rfl | (simp [errW_none, errW_some] <;> rfl)) | (simp [*, errW_none, errW_some] <;> rfl), by repeat (first | (with_reducible first | exact HB.out | apply below_alloc | apply pw_below_drewN | apply below_drew1) | exact HB.out)⟩
                                            · rw [if_neg c79] at H
                                              try have c79b7 := c79
                                              try simp only [c79hz] at c79b7
                                              try have c79b8 := c79b7
                                              try simp only [beq_iff_eq] at c79b8
                                              have c79b0 : ((t236 == 0) == (decide (((((t227.extract 0 (t228 : Int).toNat) ++ (strOfNums y229)) ++ (t227.extract (t228 : Int).toNat t227.size)).size : Int) ≤ 60))) = false := by simpa using c79
                                              (try (have c79b1 : decide ((t236 == 0) = (decide (((((t227.extract 0 (t228 : Int).toNat) ++ (strOfNums y229)) ++ (t227.extract (t228 : Int).toNat t227.size)).size : Int) ≤ 60))) = false := by simpa using c79))
                                              (try (have c79b2 : ((t236 == 0) == (decide (((((t227.extract 0 (t228 : Int).toNat) ++ (strOfNums y229)) ++ (t227.extract (t228 : Int).toNat t227.size)).size : Int) ≤ 60))) = false := by simpa using c79))
                                              (try (have c79b3 : ¬ ((t236 == 0) = (decide (((((t227.extract 0 (t228 : Int).toNat) ++ (strOfNums y229)) ++ (t227.extract (t228 : Int).toNat t227.size)).size : Int) ≤ 60))) := by simpa using c79))
                                              clear c79
                                              obtain rfl := Option.some.inj H
                                              have p60 : 0 ≤ ((ji57) : Int) := of_decide_eq_true (by first | (with_reducible assumption) | assumption)
                                              have q60 : (ji57) < (t227.size : Int) := of_decide_eq_true (by first | (with_reducible assumption) | assumption)
                                              have hx60 := bt_at t227 (ji57)
                                              replace p60 := eq_true p60
                                              replace q60 := eq_true q60
                                              have p70 : 0 ≤ (t228 : Int) := of_decide_eq_true (by first | (with_reducible assumption) | assumption)
                                              have q70 : t228 < (t227.size : Int) := of_decide_eq_true (by first | (with_reducible assumption) | assumption)
                                              have hx70 := bt_at t227 t228
                                              replace p70 := eq_true p70
                                              replace q70 := eq_true q70
                                              go_wp2_with (first | ((with_reducible refine gate_callee (f := 13) rfl ?_); refine goesL_ (some 123) rfl rfl Tryd.func13 (by kernel_rfl) rfl #[.string (((t227.extract 0 (t228 : Int).toNat) ++ (strOfNums y229)) ++ (t227.extract (t228 : Int).toNat t227.size))] rfl (by (try simp only [List.map_toArray, List.map_cons, List.map_nil]); first | done | rfl | (simp only [List.length_drop, List.length_take]; rfl)) ?_; (with_reducible refine (host_Plain.calls (((t227.extract 0 (t228 : Int).toNat) ++ (strOfNums y229)) ++ (t227.extract (t228 : Int).toNat t227.size)) t236 _ A71.out).mono ?_); rintro e w83 ⟨rfl, hb⟩; refine ⟨_, rfl, ?_⟩; have n0_ := Aside0.mk (below_step (by repeat (first | (with_reducible first | exact HB.out | apply below_alloc | apply pw_below_drewN | apply below_drew1) | exact HB.out)) hb); clear HB; have HB := n0_; clear n0_; (try clear hb); (try clear hb2); (try clear hk); (try clear hi)))
                                              all_goals go_ret
                                              all_goals exact ⟨by first | rfl | (simp [errW_none, errW_some] <;> rfl) | (simp only [← hji57]; first | rfl | (simp [errW_none, errW_some] <;> rfl)) | (simp [*, errW_none, errW_some] <;> rfl), by repeat (first | (with_reducible first | exact HB.out | apply below_alloc | apply pw_below_drewN | apply below_drew1) | exact HB.out)⟩
                                          · rw [if_neg c78] at H
                                            have c78b0 : decide (1 ≤ 20) = false := decide_eq_false c78
                                            clear c78
                                            by_cases c84 : ((t236 == 0) == false) = true
                                            · rw [if_pos c84] at H
                                              have c84b0 : ((t236 == 0) == false) = true := c84
                                              (try (have c84b1 : decide ((t236 == 0) = false) = true := by simpa using c84))
                                              (try (have c84b2 : ((t236 == 0) == false) = true := by simpa using c84))
                                              clear c84
                                              replace H := Option.bind_eq_some_iff.mp H
                                              obtain ⟨t239, A850, H⟩ := H
                                              replace H : (some t239) = some r := H
                                              have A85 := Aside0.mk A850
                                              clear A850
                                              obtain rfl := Option.some.inj H
                                              have p60 : 0 ≤ ((ji57) : Int) := of_decide_eq_true (by first | (with_reducible assumption) | assumption)
                                              have q60 : (ji57) < (t227.size : Int) := of_decide_eq_true (by first | (with_reducible assumption) | assumption)
                                              have hx60 := bt_at t227 (ji57)
                                              replace p60 := eq_true p60
                                              replace q60 := eq_true q60
                                              have p70 : 0 ≤ (t228 : Int) := of_decide_eq_true (by first | (with_reducible assumption) | assumption)
                                              have q70 : t228 < (t227.size : Int) := of_decide_eq_true (by first | (with_reducible assumption) | assumption)
                                              have hx70 := bt_at t227 t228
                                              replace p70 := eq_true p70
                                              replace q70 := eq_true q70
                                              go_wp2_with (first | ((with_reducible refine gate_callee (f := 13) rfl ?_); refine goesL_ (some 123) rfl rfl Tryd.func13 (by kernel_rfl) rfl #[.string (((t227.extract 0 (t228 : Int).toNat) ++ (strOfNums y229)) ++ (t227.extract (t228 : Int).toNat t227.size))] rfl (by (try simp only [List.map_toArray, List.map_cons, List.map_nil]); first | done | rfl | (simp only [List.length_drop, List.length_take]; rfl)) ?_; (with_reducible refine (host_Plain.calls (((t227.extract 0 (t228 : Int).toNat) ++ (strOfNums y229)) ++ (t227.extract (t228 : Int).toNat t227.size)) t236 _ A71.out).mono ?_); rintro e w86 ⟨rfl, hb⟩; refine ⟨_, rfl, ?_⟩; have n0_ := Aside0.mk (below_step (by repeat (first | (with_reducible first | exact HB.out | apply below_alloc | apply pw_below_drewN | apply below_drew1) | exact HB.out)) hb); clear HB; have HB := n0_; clear n0_; (try clear hb); (try clear hb2); (try clear hk); (try clear hi)) | (go_at_call 17; (with_reducible refine (chinoiserielaw06_works.calls kj42  t239 _ A85.out).mono ?_); rintro e w87 ⟨rfl, hb⟩; have n0_ := Aside0.mk (below_step (by repeat (first | (with_reducible first | exact HB.out | apply below_alloc | apply pw_below_drewN | apply below_drew1) | exact HB.out)) hb); clear HB; have HB := n0_; clear n0_; (try clear hb); (try clear hb2); (try clear hk); (try clear hi)))
                                              all_goals go_ret
                                              all_goals exact ⟨by first | rfl | (simp [errW_none, errW_some] <;> rfl) | (simp only [← hji57]; first | rfl | (simp [errW_none, errW_some] <;> rfl)) | (simp [*, errW_none, errW_some] <;> rfl), by repeat (first | (with_reducible first | exact HB.out | apply below_alloc | apply pw_below_drewN | apply below_drew1) | exact HB.out)⟩
                                            · rw [if_neg c84] at H
                                              have c84b0 : ((t236 == 0) == false) = false := by simpa using c84
                                              (try (have c84b1 : decide ((t236 == 0) = false) = false := by simpa using c84))
                                              (try (have c84b2 : ((t236 == 0) == false) = false := by simpa using c84))
                                              (try (have c84b3 : ¬ ((t236 == 0) = false) := by simpa using c84))
                                              clear c84
                                              obtain rfl := Option.some.inj H
                                              have p60 : 0 ≤ ((ji57) : Int) := of_decide_eq_true (by first | (with_reducible assumption) | assumption)
                                              have q60 : (ji57) < (t227.size : Int) := of_decide_eq_true (by first | (with_reducible assumption) | assumption)
                                              have hx60 := bt_at t227 (ji57)
                                              replace p60 := eq_true p60
                                              replace q60 := eq_true q60
                                              have p70 : 0 ≤ (t228 : Int) := of_decide_eq_true (by first | (with_reducible assumption) | assumption)
                                              have q70 : t228 < (t227.size : Int) := of_decide_eq_true (by first | (with_reducible assumption) | assumption)
                                              have hx70 := bt_at t227 t228
                                              replace p70 := eq_true p70
                                              replace q70 := eq_true q70
                                              go_wp2_with (first | ((with_reducible refine gate_callee (f := 13) rfl ?_); refine goesL_ (some 123) rfl rfl Tryd.func13 (by kernel_rfl) rfl #[.string (((t227.extract 0 (t228 : Int).toNat) ++ (strOfNums y229)) ++ (t227.extract (t228 : Int).toNat t227.size))] rfl (by (try simp only [List.map_toArray, List.map_cons, List.map_nil]); first | done | rfl | (simp only [List.length_drop, List.length_take]; rfl)) ?_; (with_reducible refine (host_Plain.calls (((t227.extract 0 (t228 : Int).toNat) ++ (strOfNums y229)) ++ (t227.extract (t228 : Int).toNat t227.size)) t236 _ A71.out).mono ?_); rintro e w88 ⟨rfl, hb⟩; refine ⟨_, rfl, ?_⟩; have n0_ := Aside0.mk (below_step (by repeat (first | (with_reducible first | exact HB.out | apply below_alloc | apply pw_below_drewN | apply below_drew1) | exact HB.out)) hb); clear HB; have HB := n0_; clear n0_; (try clear hb); (try clear hb2); (try clear hk); (try clear hi)))
                                              all_goals go_ret
                                              all_goals exact ⟨by first | rfl | (simp [errW_none, errW_some] <;> rfl) | (simp only [← hji57]; first | rfl | (simp [errW_none, errW_some] <;> rfl)) | (simp [*, errW_none, errW_some] <;> rfl), by repeat (first | (with_reducible first | exact HB.out | apply below_alloc | apply pw_below_drewN | apply below_drew1) | exact HB.out)⟩
                                      · rw [if_neg c69] at H
                                        exact absurd H (by simp)
                                    · rw [if_neg c68] at H
                                      exact absurd H (by simp)
                                · rw [if_neg c59] at H
                                  exact absurd H (by simp)
                              · rw [if_neg c58] at H
                                exact absurd H (by simp)
                          · rw [if_neg c49] at H
                            have c49b0 : (a1 == 46) = false := beq_eq_false_iff_ne.mpr c49
                            have c49b1 : (a1 != 46) = true := bne_iff_ne.mpr c49
                            replace H := Option.bind_eq_some_iff.mp H
                            obtain ⟨t240, A890, H⟩ := H
                            replace H : (if x11_26 = true then (if x12_42 ≤ 20 then (if ((t240 == 0) == (decide (((((t227.extract 0 (t228 : Int).toNat) ++ (strOfNums y229)) ++ (t227.extract (t228 : Int).toNat t227.size)).size : Int) ≤ 60))) = true then ((chinoiserielaw06_works.f kj42).bind fun t241 => (some t241)) else (some false)) else (if ((t240 == 0) == false) = true then ((chinoiserielaw06_works.f kj42).bind fun t242 => (some t242)) else (some false))) else (if ((t240 == 0) == false) = true then ((chinoiserielaw06_works.f kj42).bind fun t243 => (some t243)) else (some false))) = some r := H
                            have A89 := Aside0.mk A890
                            clear A890
                            by_cases c90 : x11_26 = true
                            · subst c90
                              have H1 : (if x12_42 ≤ 20 then (if ((t240 == 0) == (decide (((((t227.extract 0 (t228 : Int).toNat) ++ (strOfNums y229)) ++ (t227.extract (t228 : Int).toNat t227.size)).size : Int) ≤ 60))) = true then ((chinoiserielaw06_works.f kj42).bind fun t241 => (some t241)) else (some false)) else (if ((t240 == 0) == false) = true then ((chinoiserielaw06_works.f kj42).bind fun t242 => (some t242)) else (some false))) = some r := by rw [if_pos rfl] at H; exact H
                              clear H
                              have H := H1
                              clear H1
                              by_cases c91 : x12_42 ≤ 20
                              · rw [if_pos c91] at H
                                have c91b0 : decide (x12_42 ≤ 20) = true := decide_eq_true c91
                                clear c91
                                have c92hz : ((((t227.extract 0 (t228 : Int).toNat) ++ (strOfNums y229)) ++ (t227.extract (t228 : Int).toNat t227.size)).size : Int) = max t228 0 + ((strOfNums y229).size : Int) + (((t227).size - (t228).toNat : Nat) : Int) := by simp only [ByteArray.size_append, ByteArray.size_extract, hmin_]; omega
                                by_cases c92 : ((t240 == 0) == (decide (((((t227.extract 0 (t228 : Int).toNat) ++ (strOfNums y229)) ++ (t227.extract (t228 : Int).toNat t227.size)).size : Int) ≤ 60))) = true
                                · rw [if_pos c92] at H
                                  try have c92b7 := c92
                                  try simp only [c92hz] at c92b7
                                  try have c92b8 := c92b7
                                  try simp only [beq_iff_eq] at c92b8
                                  have c92b0 : ((t240 == 0) == (decide (((((t227.extract 0 (t228 : Int).toNat) ++ (strOfNums y229)) ++ (t227.extract (t228 : Int).toNat t227.size)).size : Int) ≤ 60))) = true := c92
                                  (try (have c92b1 : decide ((t240 == 0) = (decide (((((t227.extract 0 (t228 : Int).toNat) ++ (strOfNums y229)) ++ (t227.extract (t228 : Int).toNat t227.size)).size : Int) ≤ 60))) = true := by simpa using c92))
                                  (try (have c92b2 : ((t240 == 0) == (decide (((((t227.extract 0 (t228 : Int).toNat) ++ (strOfNums y229)) ++ (t227.extract (t228 : Int).toNat t227.size)).size : Int) ≤ 60))) = true := by simpa using c92))
                                  clear c92
                                  replace H := Option.bind_eq_some_iff.mp H
                                  obtain ⟨t241, A930, H⟩ := H
                                  replace H : (some t241) = some r := H
                                  have A93 := Aside0.mk A930
                                  clear A930
                                  obtain rfl := Option.some.inj H
                                  go_wp2_with (first | ((with_reducible refine gate_callee (f := 13) rfl ?_); refine goesL_ (some 123) rfl rfl Tryd.func13 (by kernel_rfl) rfl #[.string (((t227.extract 0 (t228 : Int).toNat) ++ (strOfNums y229)) ++ (t227.extract (t228 : Int).toNat t227.size))] rfl (by (try simp only [List.map_toArray, List.map_cons, List.map_nil]); first | done | rfl | (simp only [List.length_drop, List.length_take]; rfl)) ?_; (with_reducible refine (host_Plain.calls (((t227.extract 0 (t228 : Int).toNat) ++ (strOfNums y229)) ++ (t227.extract (t228 : Int).toNat t227.size)) t240 _ A89.out).mono ?_); rintro e w94 ⟨rfl, hb⟩; refine ⟨_, rfl, ?_⟩; have n0_ := Aside0.mk (below_step (by repeat (first | (with_reducible first | exact HB.out | apply below_alloc | apply pw_below_drewN | apply below_drew1) | exact HB.out)) hb); clear HB; have HB := n0_; clear n0_; (try clear hb); (try clear hb2); (try clear hk); (try clear hi)) | (go_at_call 17; (with_reducible refine (chinoiserielaw06_works.calls kj42  t241 _ A93.out).mono ?_); rintro e w95 ⟨rfl, hb⟩; have n0_ := Aside0.mk (below_step (by repeat (first | (with_reducible first | exact HB.out | apply below_alloc | apply pw_below_drewN | apply below_drew1) | exact HB.out)) hb); clear HB; have HB := n0_; clear n0_; (try clear hb); (try clear hb2); (try clear hk); (try clear hi)))
                                  all_goals go_ret
                                  all_goals exact ⟨by first | rfl | (simp [errW_none, errW_some] <;> rfl) | (simp [*, errW_none, errW_some] <;> rfl), by repeat (first | (with_reducible first | exact HB.out | apply below_alloc | apply pw_below_drewN | apply below_drew1) | exact HB.out)⟩
                                · rw [if_neg c92] at H
                                  try have c92b7 := c92
                                  try simp only [c92hz] at c92b7
                                  try have c92b8 := c92b7
                                  try simp only [beq_iff_eq] at c92b8
                                  have c92b0 : ((t240 == 0) == (decide (((((t227.extract 0 (t228 : Int).toNat) ++ (strOfNums y229)) ++ (t227.extract (t228 : Int).toNat t227.size)).size : Int) ≤ 60))) = false := by simpa using c92
                                  (try (have c92b1 : decide ((t240 == 0) = (decide (((((t227.extract 0 (t228 : Int).toNat) ++ (strOfNums y229)) ++ (t227.extract (t228 : Int).toNat t227.size)).size : Int) ≤ 60))) = false := by simpa using c92))
                                  (try (have c92b2 : ((t240 == 0) == (decide (((((t227.extract 0 (t228 : Int).toNat) ++ (strOfNums y229)) ++ (t227.extract (t228 : Int).toNat t227.size)).size : Int) ≤ 60))) = false := by simpa using c92))
                                  (try (have c92b3 : ¬ ((t240 == 0) = (decide (((((t227.extract 0 (t228 : Int).toNat) ++ (strOfNums y229)) ++ (t227.extract (t228 : Int).toNat t227.size)).size : Int) ≤ 60))) := by simpa using c92))
                                  clear c92
                                  obtain rfl := Option.some.inj H
                                  go_wp2_with (first | ((with_reducible refine gate_callee (f := 13) rfl ?_); refine goesL_ (some 123) rfl rfl Tryd.func13 (by kernel_rfl) rfl #[.string (((t227.extract 0 (t228 : Int).toNat) ++ (strOfNums y229)) ++ (t227.extract (t228 : Int).toNat t227.size))] rfl (by (try simp only [List.map_toArray, List.map_cons, List.map_nil]); first | done | rfl | (simp only [List.length_drop, List.length_take]; rfl)) ?_; (with_reducible refine (host_Plain.calls (((t227.extract 0 (t228 : Int).toNat) ++ (strOfNums y229)) ++ (t227.extract (t228 : Int).toNat t227.size)) t240 _ A89.out).mono ?_); rintro e w96 ⟨rfl, hb⟩; refine ⟨_, rfl, ?_⟩; have n0_ := Aside0.mk (below_step (by repeat (first | (with_reducible first | exact HB.out | apply below_alloc | apply pw_below_drewN | apply below_drew1) | exact HB.out)) hb); clear HB; have HB := n0_; clear n0_; (try clear hb); (try clear hb2); (try clear hk); (try clear hi)))
                                  all_goals go_ret
                                  all_goals exact ⟨by first | rfl | (simp [errW_none, errW_some] <;> rfl) | (simp [*, errW_none, errW_some] <;> rfl), by repeat (first | (with_reducible first | exact HB.out | apply below_alloc | apply pw_below_drewN | apply below_drew1) | exact HB.out)⟩
                              · rw [if_neg c91] at H
                                have c91b0 : decide (x12_42 ≤ 20) = false := decide_eq_false c91
                                clear c91
                                by_cases c97 : ((t240 == 0) == false) = true
                                · rw [if_pos c97] at H
                                  have c97b0 : ((t240 == 0) == false) = true := c97
                                  (try (have c97b1 : decide ((t240 == 0) = false) = true := by simpa using c97))
                                  (try (have c97b2 : ((t240 == 0) == false) = true := by simpa using c97))
                                  clear c97
                                  replace H := Option.bind_eq_some_iff.mp H
                                  obtain ⟨t242, A980, H⟩ := H
                                  replace H : (some t242) = some r := H
                                  have A98 := Aside0.mk A980
                                  clear A980
                                  obtain rfl := Option.some.inj H
                                  go_wp2_with (first | ((with_reducible refine gate_callee (f := 13) rfl ?_); refine goesL_ (some 123) rfl rfl Tryd.func13 (by kernel_rfl) rfl #[.string (((t227.extract 0 (t228 : Int).toNat) ++ (strOfNums y229)) ++ (t227.extract (t228 : Int).toNat t227.size))] rfl (by (try simp only [List.map_toArray, List.map_cons, List.map_nil]); first | done | rfl | (simp only [List.length_drop, List.length_take]; rfl)) ?_; (with_reducible refine (host_Plain.calls (((t227.extract 0 (t228 : Int).toNat) ++ (strOfNums y229)) ++ (t227.extract (t228 : Int).toNat t227.size)) t240 _ A89.out).mono ?_); rintro e w99 ⟨rfl, hb⟩; refine ⟨_, rfl, ?_⟩; have n0_ := Aside0.mk (below_step (by repeat (first | (with_reducible first | exact HB.out | apply below_alloc | apply pw_below_drewN | apply below_drew1) | exact HB.out)) hb); clear HB; have HB := n0_; clear n0_; (try clear hb); (try clear hb2); (try clear hk); (try clear hi)) | (go_at_call 17; (with_reducible refine (chinoiserielaw06_works.calls kj42  t242 _ A98.out).mono ?_); rintro e w100 ⟨rfl, hb⟩; have n0_ := Aside0.mk (below_step (by repeat (first | (with_reducible first | exact HB.out | apply below_alloc | apply pw_below_drewN | apply below_drew1) | exact HB.out)) hb); clear HB; have HB := n0_; clear n0_; (try clear hb); (try clear hb2); (try clear hk); (try clear hi)))
                                  all_goals go_ret
                                  all_goals exact ⟨by first | rfl | (simp [errW_none, errW_some] <;> rfl) | (simp [*, errW_none, errW_some] <;> rfl), by repeat (first | (with_reducible first | exact HB.out | apply below_alloc | apply pw_below_drewN | apply below_drew1) | exact HB.out)⟩
                                · rw [if_neg c97] at H
                                  have c97b0 : ((t240 == 0) == false) = false := by simpa using c97
                                  (try (have c97b1 : decide ((t240 == 0) = false) = false := by simpa using c97))
                                  (try (have c97b2 : ((t240 == 0) == false) = false := by simpa using c97))
                                  (try (have c97b3 : ¬ ((t240 == 0) = false) := by simpa using c97))
                                  clear c97
                                  obtain rfl := Option.some.inj H
                                  go_wp2_with (first | ((with_reducible refine gate_callee (f := 13) rfl ?_); refine goesL_ (some 123) rfl rfl Tryd.func13 (by kernel_rfl) rfl #[.string (((t227.extract 0 (t228 : Int).toNat) ++ (strOfNums y229)) ++ (t227.extract (t228 : Int).toNat t227.size))] rfl (by (try simp only [List.map_toArray, List.map_cons, List.map_nil]); first | done | rfl | (simp only [List.length_drop, List.length_take]; rfl)) ?_; (with_reducible refine (host_Plain.calls (((t227.extract 0 (t228 : Int).toNat) ++ (strOfNums y229)) ++ (t227.extract (t228 : Int).toNat t227.size)) t240 _ A89.out).mono ?_); rintro e w101 ⟨rfl, hb⟩; refine ⟨_, rfl, ?_⟩; have n0_ := Aside0.mk (below_step (by repeat (first | (with_reducible first | exact HB.out | apply below_alloc | apply pw_below_drewN | apply below_drew1) | exact HB.out)) hb); clear HB; have HB := n0_; clear n0_; (try clear hb); (try clear hb2); (try clear hk); (try clear hi)))
                                  all_goals go_ret
                                  all_goals exact ⟨by first | rfl | (simp [errW_none, errW_some] <;> rfl) | (simp [*, errW_none, errW_some] <;> rfl), by repeat (first | (with_reducible first | exact HB.out | apply below_alloc | apply pw_below_drewN | apply below_drew1) | exact HB.out)⟩
                            · replace c90 := Bool.eq_false_iff.mpr c90
                              subst c90
                              have H1 : (if ((t240 == 0) == false) = true then ((chinoiserielaw06_works.f kj42).bind fun t243 => (some t243)) else (some false)) = some r := by rw [if_neg (show ¬ (false = true) by decide)] at H; exact H
                              clear H
                              have H := H1
                              clear H1
                              by_cases c102 : ((t240 == 0) == false) = true
                              · rw [if_pos c102] at H
                                have c102b0 : ((t240 == 0) == false) = true := c102
                                (try (have c102b1 : decide ((t240 == 0) = false) = true := by simpa using c102))
                                (try (have c102b2 : ((t240 == 0) == false) = true := by simpa using c102))
                                clear c102
                                replace H := Option.bind_eq_some_iff.mp H
                                obtain ⟨t243, A1030, H⟩ := H
                                replace H : (some t243) = some r := H
                                have A103 := Aside0.mk A1030
                                clear A1030
                                obtain rfl := Option.some.inj H
                                go_wp2_with (first | ((with_reducible refine gate_callee (f := 13) rfl ?_); refine goesL_ (some 123) rfl rfl Tryd.func13 (by kernel_rfl) rfl #[.string (((t227.extract 0 (t228 : Int).toNat) ++ (strOfNums y229)) ++ (t227.extract (t228 : Int).toNat t227.size))] rfl (by (try simp only [List.map_toArray, List.map_cons, List.map_nil]); first | done | rfl | (simp only [List.length_drop, List.length_take]; rfl)) ?_; (with_reducible refine (host_Plain.calls (((t227.extract 0 (t228 : Int).toNat) ++ (strOfNums y229)) ++ (t227.extract (t228 : Int).toNat t227.size)) t240 _ A89.out).mono ?_); rintro e w104 ⟨rfl, hb⟩; refine ⟨_, rfl, ?_⟩; have n0_ := Aside0.mk (below_step (by repeat (first | (with_reducible first | exact HB.out | apply below_alloc | apply pw_below_drewN | apply below_drew1) | exact HB.out)) hb); clear HB; have HB := n0_; clear n0_; (try clear hb); (try clear hb2); (try clear hk); (try clear hi)) | (go_at_call 17; (with_reducible refine (chinoiserielaw06_works.calls kj42  t243 _ A103.out).mono ?_); rintro e w105 ⟨rfl, hb⟩; have n0_ := Aside0.mk (below_step (by repeat (first | (with_reducible first | exact HB.out | apply below_alloc | apply pw_below_drewN | apply below_drew1) | exact HB.out)) hb); clear HB; have HB := n0_; clear n0_; (try clear hb); (try clear hb2); (try clear hk); (try clear hi)))
                                all_goals go_ret
                                all_goals exact ⟨by first | rfl | (simp [errW_none, errW_some] <;> rfl) | (simp [*, errW_none, errW_some] <;> rfl), by repeat (first | (with_reducible first | exact HB.out | apply below_alloc | apply pw_below_drewN | apply below_drew1) | exact HB.out)⟩
                              · rw [if_neg c102] at H
                                have c102b0 : ((t240 == 0) == false) = false := by simpa using c102
                                (try (have c102b1 : decide ((t240 == 0) = false) = false := by simpa using c102))
                                (try (have c102b2 : ((t240 == 0) == false) = false := by simpa using c102))
                                (try (have c102b3 : ¬ ((t240 == 0) = false) := by simpa using c102))
                                clear c102
                                obtain rfl := Option.some.inj H
                                go_wp2_with (first | ((with_reducible refine gate_callee (f := 13) rfl ?_); refine goesL_ (some 123) rfl rfl Tryd.func13 (by kernel_rfl) rfl #[.string (((t227.extract 0 (t228 : Int).toNat) ++ (strOfNums y229)) ++ (t227.extract (t228 : Int).toNat t227.size))] rfl (by (try simp only [List.map_toArray, List.map_cons, List.map_nil]); first | done | rfl | (simp only [List.length_drop, List.length_take]; rfl)) ?_; (with_reducible refine (host_Plain.calls (((t227.extract 0 (t228 : Int).toNat) ++ (strOfNums y229)) ++ (t227.extract (t228 : Int).toNat t227.size)) t240 _ A89.out).mono ?_); rintro e w106 ⟨rfl, hb⟩; refine ⟨_, rfl, ?_⟩; have n0_ := Aside0.mk (below_step (by repeat (first | (with_reducible first | exact HB.out | apply below_alloc | apply pw_below_drewN | apply below_drew1) | exact HB.out)) hb); clear HB; have HB := n0_; clear n0_; (try clear hb); (try clear hb2); (try clear hk); (try clear hi)))
                                all_goals go_ret
                                all_goals exact ⟨by first | rfl | (simp [errW_none, errW_some] <;> rfl) | (simp [*, errW_none, errW_some] <;> rfl), by repeat (first | (with_reducible first | exact HB.out | apply below_alloc | apply pw_below_drewN | apply below_drew1) | exact HB.out)⟩
        · rw [if_neg c11] at H
          exact absurd H (by simp)
      · rw [if_neg c8] at H
        exact absurd H (by simp)
    · rw [if_neg c7] at H
      exact absurd H (by simp)
  · rw [if_neg c6] at H
    exact absurd H (by simp)

end Go.Proofs.YtipmnecfbbjahaaDoor.PHost
