-- Printed by a program of this session (wip/tools/xprint.py) out of the translation. Not trusted: Lean checks it.
import Derived.Test.YtipmnecfbbjahaaDoorPHostx0
import Derived.Test.YtipmnecfbbjahaaDoorPHostx3
import Derived.Test.YtipmnecfbbjahaaDoorPHostx4
import Derived.Test.YtipmnecfbbjahaaDoorPHostx5
import Derived.Test.YtipmnecfbbjahaaDoorExtD
namespace Go.Proofs.YtipmnecfbbjahaaDoor.PHost
open Go.RowKit Go.Proofs.YtipmnecfbbjahaaDoorW.PrintWords Go.Proofs.YtipmnecfbbjahaaDoorW.PrintLast Go.Proofs.YtipmnecfbbjahaaDoorW.PrintMore
attribute [local go_sem] max2_int min2_int max_two min_two max_three min_three max_four min_four   -- for this text's walks alone
set_option linter.unusedVariables false
set_option linter.unusedSimpArgs false

/-! ### chinoiserielaw06_HostKnown: function 9 -/
mutual
def chinoiserielaw06_HostKnown.l0 : Nat → Int → Option (Bool)
  | 0, _ => none
  | k + 1, x1 => if x1 < 256 then ((some (([(x1) % 256] : List Int) : List Int)).bind fun y244 => ((chinoiserielaw06_HostNorms.f k (strOfNums y244)).bind fun t247 => (if t247 = true then (if 1 + (strOfNums y244).size ≤ 9223372036854775807 then ((chinoiserielaw06_HostNorms.f k ((⟨#[97]⟩ : ByteArray) ++ (strOfNums y244))).bind fun t248 => (if t248 = true then (if ((⟨#[97]⟩ : ByteArray) ++ (strOfNums y244)).size + 1 ≤ 9223372036854775807 then ((chinoiserielaw06_HostNorms.f k (((⟨#[97]⟩ : ByteArray) ++ (strOfNums y244)) ++ (⟨#[98]⟩ : ByteArray))).bind fun t249 => (if t249 = true then (if ((⟨#[42]⟩ : ByteArray) ++ (strOfNums y244)).size + 1 ≤ 9223372036854775807 then ((chinoiserielaw06_HostNorms.f k (((⟨#[42]⟩ : ByteArray) ++ (strOfNums y244)) ++ (⟨#[97]⟩ : ByteArray))).bind fun t250 => (if t250 = true then (if 2 + (strOfNums y244).size ≤ 9223372036854775807 then ((chinoiserielaw06_HostWrites.f k ((⟨#[97]⟩ : ByteArray) ++ (strOfNums y244)) ((⟨#[42, 46]⟩ : ByteArray) ++ (strOfNums y244)) x1).bind fun t251 => (if t251 = true then (chinoiserielaw06_HostKnown.l0 k (wrap64 (x1 + 1))) else (some false))) else (none)) else (some false))) else (none)) else (some false))) else (none)) else (some false))) else (none)) else (some false)))) else (if 20 + 1 ≤ 9223372036854775807 then (if 20 + 20 ≤ 9223372036854775807 then (if (((⟨#[97, 98, 99, 100, 101, 102, 103, 104, 105, 106, 48, 49, 50, 51, 52, 53, 54, 55, 56, 57]⟩ : ByteArray) ++ (⟨#[46]⟩ : ByteArray)) ++ (⟨#[97, 98, 99, 100, 101, 102, 103, 104, 105, 106, 48, 49, 50, 51, 52, 53, 54, 55, 56, 57]⟩ : ByteArray)).size + 1 ≤ 9223372036854775807 then (if 0 ≤ 18 then (if 18 ≤ 20 then (if ((((⟨#[97, 98, 99, 100, 101, 102, 103, 104, 105, 106, 48, 49, 50, 51, 52, 53, 54, 55, 56, 57]⟩ : ByteArray) ++ (⟨#[46]⟩ : ByteArray)) ++ (⟨#[97, 98, 99, 100, 101, 102, 103, 104, 105, 106, 48, 49, 50, 51, 52, 53, 54, 55, 56, 57]⟩ : ByteArray)) ++ (⟨#[46]⟩ : ByteArray)).size + ((⟨#[97, 98, 99, 100, 101, 102, 103, 104, 105, 106, 48, 49, 50, 51, 52, 53, 54, 55, 56, 57]⟩ : ByteArray).extract 0 18).size ≤ 9223372036854775807 then (if (((((⟨#[97, 98, 99, 100, 101, 102, 103, 104, 105, 106, 48, 49, 50, 51, 52, 53, 54, 55, 56, 57]⟩ : ByteArray) ++ (⟨#[46]⟩ : ByteArray)) ++ (⟨#[97, 98, 99, 100, 101, 102, 103, 104, 105, 106, 48, 49, 50, 51, 52, 53, 54, 55, 56, 57]⟩ : ByteArray)) ++ (⟨#[46]⟩ : ByteArray)) ++ ((⟨#[97, 98, 99, 100, 101, 102, 103, 104, 105, 106, 48, 49, 50, 51, 52, 53, 54, 55, 56, 57]⟩ : ByteArray).extract 0 18)).size + 1 ≤ 9223372036854775807 then (if 0 ≤ 59 then (if 59 ≤ ((((((⟨#[97, 98, 99, 100, 101, 102, 103, 104, 105, 106, 48, 49, 50, 51, 52, 53, 54, 55, 56, 57]⟩ : ByteArray) ++ (⟨#[46]⟩ : ByteArray)) ++ (⟨#[97, 98, 99, 100, 101, 102, 103, 104, 105, 106, 48, 49, 50, 51, 52, 53, 54, 55, 56, 57]⟩ : ByteArray)) ++ (⟨#[46]⟩ : ByteArray)) ++ ((⟨#[97, 98, 99, 100, 101, 102, 103, 104, 105, 106, 48, 49, 50, 51, 52, 53, 54, 55, 56, 57]⟩ : ByteArray).extract 0 18)).size : Int) then (if ((((((⟨#[97, 98, 99, 100, 101, 102, 103, 104, 105, 106, 48, 49, 50, 51, 52, 53, 54, 55, 56, 57]⟩ : ByteArray) ++ (⟨#[46]⟩ : ByteArray)) ++ (⟨#[97, 98, 99, 100, 101, 102, 103, 104, 105, 106, 48, 49, 50, 51, 52, 53, 54, 55, 56, 57]⟩ : ByteArray)) ++ (⟨#[46]⟩ : ByteArray)) ++ ((⟨#[97, 98, 99, 100, 101, 102, 103, 104, 105, 106, 48, 49, 50, 51, 52, 53, 54, 55, 56, 57]⟩ : ByteArray).extract 0 18)).extract 0 59).size + 1 ≤ 9223372036854775807 then (if 0 ≤ 58 then (if 58 ≤ ((((((⟨#[97, 98, 99, 100, 101, 102, 103, 104, 105, 106, 48, 49, 50, 51, 52, 53, 54, 55, 56, 57]⟩ : ByteArray) ++ (⟨#[46]⟩ : ByteArray)) ++ (⟨#[97, 98, 99, 100, 101, 102, 103, 104, 105, 106, 48, 49, 50, 51, 52, 53, 54, 55, 56, 57]⟩ : ByteArray)) ++ (⟨#[46]⟩ : ByteArray)) ++ ((⟨#[97, 98, 99, 100, 101, 102, 103, 104, 105, 106, 48, 49, 50, 51, 52, 53, 54, 55, 56, 57]⟩ : ByteArray).extract 0 18)).size : Int) then (if 2 + ((((((⟨#[97, 98, 99, 100, 101, 102, 103, 104, 105, 106, 48, 49, 50, 51, 52, 53, 54, 55, 56, 57]⟩ : ByteArray) ++ (⟨#[46]⟩ : ByteArray)) ++ (⟨#[97, 98, 99, 100, 101, 102, 103, 104, 105, 106, 48, 49, 50, 51, 52, 53, 54, 55, 56, 57]⟩ : ByteArray)) ++ (⟨#[46]⟩ : ByteArray)) ++ ((⟨#[97, 98, 99, 100, 101, 102, 103, 104, 105, 106, 48, 49, 50, 51, 52, 53, 54, 55, 56, 57]⟩ : ByteArray).extract 0 18)).extract 0 58).size ≤ 9223372036854775807 then (if 2 + ((((((⟨#[97, 98, 99, 100, 101, 102, 103, 104, 105, 106, 48, 49, 50, 51, 52, 53, 54, 55, 56, 57]⟩ : ByteArray) ++ (⟨#[46]⟩ : ByteArray)) ++ (⟨#[97, 98, 99, 100, 101, 102, 103, 104, 105, 106, 48, 49, 50, 51, 52, 53, 54, 55, 56, 57]⟩ : ByteArray)) ++ (⟨#[46]⟩ : ByteArray)) ++ ((⟨#[97, 98, 99, 100, 101, 102, 103, 104, 105, 106, 48, 49, 50, 51, 52, 53, 54, 55, 56, 57]⟩ : ByteArray).extract 0 18)).extract 0 59).size ≤ 9223372036854775807 then (if (((((⟨#[97, 98, 99, 100, 101, 102, 103, 104, 105, 106, 48, 49, 50, 51, 52, 53, 54, 55, 56, 57]⟩ : ByteArray) ++ (⟨#[46]⟩ : ByteArray)) ++ (⟨#[97, 98, 99, 100, 101, 102, 103, 104, 105, 106, 48, 49, 50, 51, 52, 53, 54, 55, 56, 57]⟩ : ByteArray)) ++ (⟨#[46]⟩ : ByteArray)) ++ ((⟨#[97, 98, 99, 100, 101, 102, 103, 104, 105, 106, 48, 49, 50, 51, 52, 53, 54, 55, 56, 57]⟩ : ByteArray).extract 0 18)).size + 6 ≤ 9223372036854775807 then (chinoiserielaw06_HostKnown.l1 k (([(⟨#[97, 98, 99, 100, 101, 102, 103, 104, 105, 106, 48, 49, 50, 51, 52, 53, 54, 55, 56, 57]⟩ : ByteArray), (⟨#[97, 98, 99, 100, 101, 102, 103, 104, 105, 106, 48, 49, 50, 51, 52, 53, 54, 55, 56, 57]⟩ : ByteArray) ++ (⟨#[120]⟩ : ByteArray), ((((⟨#[97, 98, 99, 100, 101, 102, 103, 104, 105, 106, 48, 49, 50, 51, 52, 53, 54, 55, 56, 57]⟩ : ByteArray) ++ (⟨#[46]⟩ : ByteArray)) ++ (⟨#[97, 98, 99, 100, 101, 102, 103, 104, 105, 106, 48, 49, 50, 51, 52, 53, 54, 55, 56, 57]⟩ : ByteArray)) ++ (⟨#[46]⟩ : ByteArray)) ++ ((⟨#[97, 98, 99, 100, 101, 102, 103, 104, 105, 106, 48, 49, 50, 51, 52, 53, 54, 55, 56, 57]⟩ : ByteArray).extract 0 18), (((((⟨#[97, 98, 99, 100, 101, 102, 103, 104, 105, 106, 48, 49, 50, 51, 52, 53, 54, 55, 56, 57]⟩ : ByteArray) ++ (⟨#[46]⟩ : ByteArray)) ++ (⟨#[97, 98, 99, 100, 101, 102, 103, 104, 105, 106, 48, 49, 50, 51, 52, 53, 54, 55, 56, 57]⟩ : ByteArray)) ++ (⟨#[46]⟩ : ByteArray)) ++ ((⟨#[97, 98, 99, 100, 101, 102, 103, 104, 105, 106, 48, 49, 50, 51, 52, 53, 54, 55, 56, 57]⟩ : ByteArray).extract 0 18)) ++ (⟨#[120]⟩ : ByteArray), ((((((⟨#[97, 98, 99, 100, 101, 102, 103, 104, 105, 106, 48, 49, 50, 51, 52, 53, 54, 55, 56, 57]⟩ : ByteArray) ++ (⟨#[46]⟩ : ByteArray)) ++ (⟨#[97, 98, 99, 100, 101, 102, 103, 104, 105, 106, 48, 49, 50, 51, 52, 53, 54, 55, 56, 57]⟩ : ByteArray)) ++ (⟨#[46]⟩ : ByteArray)) ++ ((⟨#[97, 98, 99, 100, 101, 102, 103, 104, 105, 106, 48, 49, 50, 51, 52, 53, 54, 55, 56, 57]⟩ : ByteArray).extract 0 18)).extract 0 59) ++ (⟨#[46]⟩ : ByteArray), (⟨#[42, 46]⟩ : ByteArray) ++ ((((((⟨#[97, 98, 99, 100, 101, 102, 103, 104, 105, 106, 48, 49, 50, 51, 52, 53, 54, 55, 56, 57]⟩ : ByteArray) ++ (⟨#[46]⟩ : ByteArray)) ++ (⟨#[97, 98, 99, 100, 101, 102, 103, 104, 105, 106, 48, 49, 50, 51, 52, 53, 54, 55, 56, 57]⟩ : ByteArray)) ++ (⟨#[46]⟩ : ByteArray)) ++ ((⟨#[97, 98, 99, 100, 101, 102, 103, 104, 105, 106, 48, 49, 50, 51, 52, 53, 54, 55, 56, 57]⟩ : ByteArray).extract 0 18)).extract 0 58), (⟨#[42, 46]⟩ : ByteArray) ++ ((((((⟨#[97, 98, 99, 100, 101, 102, 103, 104, 105, 106, 48, 49, 50, 51, 52, 53, 54, 55, 56, 57]⟩ : ByteArray) ++ (⟨#[46]⟩ : ByteArray)) ++ (⟨#[97, 98, 99, 100, 101, 102, 103, 104, 105, 106, 48, 49, 50, 51, 52, 53, 54, 55, 56, 57]⟩ : ByteArray)) ++ (⟨#[46]⟩ : ByteArray)) ++ ((⟨#[97, 98, 99, 100, 101, 102, 103, 104, 105, 106, 48, 49, 50, 51, 52, 53, 54, 55, 56, 57]⟩ : ByteArray).extract 0 18)).extract 0 59), (⟨#[42, 46]⟩ : ByteArray), (⟨#[42]⟩ : ByteArray), (⟨#[42, 46, 42, 46, 97]⟩ : ByteArray), (⟨#[97, 46, 42, 46, 98]⟩ : ByteArray), (⟨#[97, 58, 49]⟩ : ByteArray), (⟨#[97, 58, 54, 53, 53, 51, 53]⟩ : ByteArray), (⟨#[97, 58, 54, 53, 53, 51, 54]⟩ : ByteArray), (⟨#[97, 58, 57, 57, 57, 57, 57]⟩ : ByteArray), (⟨#[97, 58, 48, 56, 48]⟩ : ByteArray), (⟨#[97, 58, 56, 32]⟩ : ByteArray), (⟨#[97, 58, 58, 49]⟩ : ByteArray), (⟨#[58, 56, 48]⟩ : ByteArray), (⟨#[97, 58, 56, 48, 58, 56, 48]⟩ : ByteArray), (⟨#[65, 58, 49]⟩ : ByteArray), (⟨#[97, 46]⟩ : ByteArray), (⟨#[46, 97]⟩ : ByteArray), (⟨#[97, 45]⟩ : ByteArray), (⟨#[97, 45, 46, 98]⟩ : ByteArray), (⟨#[120, 110, 45, 45, 97]⟩ : ByteArray), (((((⟨#[97, 98, 99, 100, 101, 102, 103, 104, 105, 106, 48, 49, 50, 51, 52, 53, 54, 55, 56, 57]⟩ : ByteArray) ++ (⟨#[46]⟩ : ByteArray)) ++ (⟨#[97, 98, 99, 100, 101, 102, 103, 104, 105, 106, 48, 49, 50, 51, 52, 53, 54, 55, 56, 57]⟩ : ByteArray)) ++ (⟨#[46]⟩ : ByteArray)) ++ ((⟨#[97, 98, 99, 100, 101, 102, 103, 104, 105, 106, 48, 49, 50, 51, 52, 53, 54, 55, 56, 57]⟩ : ByteArray).extract 0 18)) ++ (⟨#[58, 54, 53, 53, 51, 53]⟩ : ByteArray)] : List ByteArray)) 0) else (none)) else (none)) else (none)) else (none)) else (none)) else (none)) else (none)) else (none)) else (none)) else (none)) else (none)) else (none)) else (none)) else (none)) else (none))
def chinoiserielaw06_HostKnown.l1 : Nat → List ByteArray → Int → Option (Bool)
  | 0, _, _ => none
  | k + 1, x5, x6 => if x6 < (x5.length : Int) then (if 0 ≤ x6 then ((chinoiserielaw06_HostNorms.f k (rdOf ByteArray.empty x5 x6)).bind fun t256 => (if t256 = true then (chinoiserielaw06_HostKnown.l2 k x5 x6 0) else (some false))) else (none)) else (chinoiserielaw06_HostKnown.l3 k (([(-9223372036854775808), (-1), 0, 1, 79, 80, 81, 65535, 65536, 9223372036854775807] : List Int)) 0)
def chinoiserielaw06_HostKnown.l2 : Nat → List ByteArray → Int → Int → Option (Bool)
  | 0, _, _, _ => none
  | k + 1, x5, x6, x7 => if x7 < (x5.length : Int) then (if 0 ≤ x6 then (if x6 < (x5.length : Int) then (if 0 ≤ x7 then ((chinoiserielaw06_HostWrites.f k (rdOf ByteArray.empty x5 x6) (rdOf ByteArray.empty x5 x7) x6).bind fun t259 => (if t259 = true then (chinoiserielaw06_HostKnown.l2 k x5 x6 (wrap64 (x7 + 1))) else (some false))) else (none)) else (none)) else (none)) else (chinoiserielaw06_HostKnown.l1 k x5 (wrap64 (x6 + 1)))
def chinoiserielaw06_HostKnown.l3 : Nat → List Int → Int → Option (Bool)
  | 0, _, _ => none
  | k + 1, x8, x9 => if x9 < (x8.length : Int) then (if 0 ≤ x9 then ((chinoiserielaw06_HostWrites.f k (⟨#[97, 46, 98]⟩ : ByteArray) (⟨#[98]⟩ : ByteArray) (rd x8 x9)).bind fun t264 => (if t264 = true then (chinoiserielaw06_HostKnown.l3 k x8 (wrap64 (x9 + 1))) else (some false))) else (none)) else ((chinoiserielaw06_works.f k).bind fun t265 => (some t265))
end
def chinoiserielaw06_HostKnown.f (k : Nat)  : Option (Bool) := chinoiserielaw06_HostKnown.l0 k 0
theorem chinoiserielaw06_HostKnown.mono_l : ∀ k, (∀ y0, LeO (chinoiserielaw06_HostKnown.l0 k y0) (chinoiserielaw06_HostKnown.l0 (k + 1) y0)) ∧ (∀ y0 y1, LeO (chinoiserielaw06_HostKnown.l1 k y0 y1) (chinoiserielaw06_HostKnown.l1 (k + 1) y0 y1)) ∧ (∀ y0 y1 y2, LeO (chinoiserielaw06_HostKnown.l2 k y0 y1 y2) (chinoiserielaw06_HostKnown.l2 (k + 1) y0 y1 y2)) ∧ (∀ y0 y1, LeO (chinoiserielaw06_HostKnown.l3 k y0 y1) (chinoiserielaw06_HostKnown.l3 (k + 1) y0 y1))
  | 0 => ⟨fun _ r h => by simp [chinoiserielaw06_HostKnown.l0] at h, fun _ _ r h => by simp [chinoiserielaw06_HostKnown.l1] at h, fun _ _ _ r h => by simp [chinoiserielaw06_HostKnown.l2] at h, fun _ _ r h => by simp [chinoiserielaw06_HostKnown.l3] at h⟩
  | k + 1 => by
    obtain ⟨ih0, ih1, ih2, ih3⟩ := chinoiserielaw06_HostKnown.mono_l k
    refine ⟨?_, ?_, ?_, ?_⟩
    · intro y0
      unfold chinoiserielaw06_HostKnown.l0
      repeat' first
      | (with_reducible exact ih0 _)
      | (with_reducible exact ih1 _ _)
      | (with_reducible exact ih2 _ _ _)
      | (with_reducible exact ih3 _ _)
      | (with_reducible exact chinoiserielaw06_HostNorms.mono _ _)
      | (with_reducible exact chinoiserielaw06_HostWrites.mono _ _ _ _)
      | (with_reducible exact chinoiserielaw06_works.mono _)
      | (with_reducible exact LeO.refl _)
      | (with_reducible exact LeO.none _)
      | (with_reducible refine LeO.ite ?_ ?_)
      | (with_reducible refine LeO.bind ?_ (fun _ => ?_))
      | exact ih0 _
      | exact ih1 _ _
      | exact ih2 _ _ _
      | exact ih3 _ _
      | exact chinoiserielaw06_HostNorms.mono _ _
      | exact chinoiserielaw06_HostWrites.mono _ _ _ _
      | exact chinoiserielaw06_works.mono _
      | exact LeO.none _
      | refine LeO.ite ?_ ?_
      | refine LeO.bind ?_ (fun _ => ?_)
    · intro y0 y1
      unfold chinoiserielaw06_HostKnown.l1
      repeat' first
      | (with_reducible exact ih0 _)
      | (with_reducible exact ih1 _ _)
      | (with_reducible exact ih2 _ _ _)
      | (with_reducible exact ih3 _ _)
      | (with_reducible exact chinoiserielaw06_HostNorms.mono _ _)
      | (with_reducible exact chinoiserielaw06_HostWrites.mono _ _ _ _)
      | (with_reducible exact chinoiserielaw06_works.mono _)
      | (with_reducible exact LeO.refl _)
      | (with_reducible exact LeO.none _)
      | (with_reducible refine LeO.ite ?_ ?_)
      | (with_reducible refine LeO.bind ?_ (fun _ => ?_))
      | exact ih0 _
      | exact ih1 _ _
      | exact ih2 _ _ _
      | exact ih3 _ _
      | exact chinoiserielaw06_HostNorms.mono _ _
      | exact chinoiserielaw06_HostWrites.mono _ _ _ _
      | exact chinoiserielaw06_works.mono _
      | exact LeO.none _
      | refine LeO.ite ?_ ?_
      | refine LeO.bind ?_ (fun _ => ?_)
    · intro y0 y1 y2
      unfold chinoiserielaw06_HostKnown.l2
      repeat' first
      | (with_reducible exact ih0 _)
      | (with_reducible exact ih1 _ _)
      | (with_reducible exact ih2 _ _ _)
      | (with_reducible exact ih3 _ _)
      | (with_reducible exact chinoiserielaw06_HostNorms.mono _ _)
      | (with_reducible exact chinoiserielaw06_HostWrites.mono _ _ _ _)
      | (with_reducible exact chinoiserielaw06_works.mono _)
      | (with_reducible exact LeO.refl _)
      | (with_reducible exact LeO.none _)
      | (with_reducible refine LeO.ite ?_ ?_)
      | (with_reducible refine LeO.bind ?_ (fun _ => ?_))
      | exact ih0 _
      | exact ih1 _ _
      | exact ih2 _ _ _
      | exact ih3 _ _
      | exact chinoiserielaw06_HostNorms.mono _ _
      | exact chinoiserielaw06_HostWrites.mono _ _ _ _
      | exact chinoiserielaw06_works.mono _
      | exact LeO.none _
      | refine LeO.ite ?_ ?_
      | refine LeO.bind ?_ (fun _ => ?_)
    · intro y0 y1
      unfold chinoiserielaw06_HostKnown.l3
      repeat' first
      | (with_reducible exact ih0 _)
      | (with_reducible exact ih1 _ _)
      | (with_reducible exact ih2 _ _ _)
      | (with_reducible exact ih3 _ _)
      | (with_reducible exact chinoiserielaw06_HostNorms.mono _ _)
      | (with_reducible exact chinoiserielaw06_HostWrites.mono _ _ _ _)
      | (with_reducible exact chinoiserielaw06_works.mono _)
      | (with_reducible exact LeO.refl _)
      | (with_reducible exact LeO.none _)
      | (with_reducible refine LeO.ite ?_ ?_)
      | (with_reducible refine LeO.bind ?_ (fun _ => ?_))
      | exact ih0 _
      | exact ih1 _ _
      | exact ih2 _ _ _
      | exact ih3 _ _
      | exact chinoiserielaw06_HostNorms.mono _ _
      | exact chinoiserielaw06_HostWrites.mono _ _ _ _
      | exact chinoiserielaw06_works.mono _
      | exact LeO.none _
      | refine LeO.ite ?_ ?_
      | refine LeO.bind ?_ (fun _ => ?_)
theorem chinoiserielaw06_HostKnown.mono : ∀ k, LeO (chinoiserielaw06_HostKnown.f k ) (chinoiserielaw06_HostKnown.f (k + 1) ) := by
  intro  k
  obtain ⟨ih0, ih1, ih2, ih3⟩ := chinoiserielaw06_HostKnown.mono_l k
  unfold chinoiserielaw06_HostKnown.f
  repeat' first
      | (with_reducible exact ih0 _)
      | (with_reducible exact ih1 _ _)
      | (with_reducible exact ih2 _ _ _)
      | (with_reducible exact ih3 _ _)
      | (with_reducible exact chinoiserielaw06_HostNorms.mono _ _)
      | (with_reducible exact chinoiserielaw06_HostWrites.mono _ _ _ _)
      | (with_reducible exact chinoiserielaw06_works.mono _)
      | (with_reducible exact LeO.refl _)
      | (with_reducible exact LeO.none _)
      | (with_reducible refine LeO.ite ?_ ?_)
      | (with_reducible refine LeO.bind ?_ (fun _ => ?_))
      | exact ih0 _
      | exact ih1 _ _
      | exact ih2 _ _ _
      | exact ih3 _ _
      | exact chinoiserielaw06_HostNorms.mono _ _
      | exact chinoiserielaw06_HostWrites.mono _ _ _ _
      | exact chinoiserielaw06_works.mono _
      | exact LeO.none _
      | refine LeO.ite ?_ ?_
      | refine LeO.bind ?_ (fun _ => ?_)
def chinoiserielaw06_HostKnown.T9 : Bool × List (List Nat × List Nat) := (true, [([], []), ([], []), ([1], [1]), ([], []), ([], []), ([4], [4]), ([], []), ([6], [6]), ([7], [7]), ([], []), ([9], [9]), ([10], [10]), ([], []), ([12], [12]), ([13], [13]), ([], []), ([15], [15]), ([0, 2, 3, 5, 8, 11, 14, 16], [0, 2, 3, 5, 8, 11, 14, 16]), ([17, 0, 1, 2, 3, 4, 5, 6, 7, 8, 9, 10, 11, 12, 13, 14, 15, 16, 17], [17])])
def chinoiserielaw06_HostKnown.B9 : List Nat := [0, 0, 2, 0, 0, 16, 0, 64, 192, 0, 512, 1536, 0, 4096, 12288, 0, 32768, 131071, 262143]
theorem chinoiserielaw06_HostKnown.tab9 : rtab .any (opsOf Tryd.f9 9) = chinoiserielaw06_HostKnown.T9 := by kernel_rfl
theorem chinoiserielaw06_HostKnown.bits9 : waitsOk chinoiserielaw06_HostKnown.T9.2 chinoiserielaw06_HostKnown.B9 = true := by kernel_rfl
def chinoiserielaw06_HostKnown.T18 : Bool × List (List Nat × List Nat) := (true, [([], []), ([], []), ([0, 1], [0, 1]), ([2], [2]), ([], []), ([], []), ([4, 5], [4, 5]), ([6], [6]), ([], []), ([3, 7, 8], [3, 7, 8]), ([9], [9])])
def chinoiserielaw06_HostKnown.B18 : List Nat := [0, 0, 3, 7, 0, 0, 48, 112, 0, 511, 1023]
theorem chinoiserielaw06_HostKnown.tab18 : rtab .any (opsOf Tryd.f9 18) = chinoiserielaw06_HostKnown.T18 := by kernel_rfl
theorem chinoiserielaw06_HostKnown.bits18 : waitsOk chinoiserielaw06_HostKnown.T18.2 chinoiserielaw06_HostKnown.B18 = true := by kernel_rfl
set_option maxHeartbeats 8000000 in
set_option maxRecDepth 100000 in
theorem chinoiserielaw06_HostKnown.calls (k : Nat)  (r : Bool) (w : World) (h : chinoiserielaw06_HostKnown.f k  = some r) (hL : LW w := by first | exact hL | exact LW.below hL (by repeat (first | (with_reducible first | exact HB.out | apply below_alloc | apply pw_below_drewN | apply below_drew1) | exact HB.out))) :
    Calls Tryd.prog 9 #[] w fun e w' => e = .returned (.bool r) ∧ Below w.heap.size w w' := by
  have HB := Aside0.mk (Below.refl w.heap.size w)
  have H : (chinoiserielaw06_HostKnown.l0 k 0) = some r := h
  clear h
  have H' := Aside0.mk H
  clear H
  go_enter Tryd.func9, Tryd.ntmps9
  go_wp2
  go_loopg [1] k (fun kq v1 w' => ∃ (x1_1 : Int), v1 = .int .i64 x1_1 ∧ Aside0 (chinoiserielaw06_HostKnown.l0 kq x1_1 = some r) ∧ Aside0 (kq ≤ k) ∧ Aside0 (Below w.heap.size w w'))
  case atStart => exact ⟨(0), (by first | rfl | (simp; done) | (simp [*]; done)), H', ⟨Nat.le_refl _⟩, ⟨by repeat (first | (with_reducible first | exact HB.out | apply below_alloc | apply pw_below_drewN | apply below_drew1) | exact HB.out)⟩⟩
  case round =>
    clear H'
    obtain ⟨x1_1, rfl, HA, HK1, HB⟩ := hrel
    cases gk with
    | zero => exact absurd HA.out (by simp [chinoiserielaw06_HostKnown.l0])
    | succ k1 =>
      have H := HA.out
      clear HA
      simp only [chinoiserielaw06_HostKnown.l0] at H
      by_cases c1 : x1_1 < 256
      · rw [if_pos c1] at H
        have c1b0 : decide (x1_1 < 256) = true := decide_eq_true c1
        clear c1
        obtain ⟨y244, hy244⟩ : ∃ y_ : List Int, y_ = (([(x1_1) % 256] : List Int)) := ⟨_, rfl⟩
        replace H : ((chinoiserielaw06_HostNorms.f k1 (strOfNums y244)).bind fun t247 => (if t247 = true then (if 1 + (strOfNums y244).size ≤ 9223372036854775807 then ((chinoiserielaw06_HostNorms.f k1 ((⟨#[97]⟩ : ByteArray) ++ (strOfNums y244))).bind fun t248 => (if t248 = true then (if ((⟨#[97]⟩ : ByteArray) ++ (strOfNums y244)).size + 1 ≤ 9223372036854775807 then ((chinoiserielaw06_HostNorms.f k1 (((⟨#[97]⟩ : ByteArray) ++ (strOfNums y244)) ++ (⟨#[98]⟩ : ByteArray))).bind fun t249 => (if t249 = true then (if ((⟨#[42]⟩ : ByteArray) ++ (strOfNums y244)).size + 1 ≤ 9223372036854775807 then ((chinoiserielaw06_HostNorms.f k1 (((⟨#[42]⟩ : ByteArray) ++ (strOfNums y244)) ++ (⟨#[97]⟩ : ByteArray))).bind fun t250 => (if t250 = true then (if 2 + (strOfNums y244).size ≤ 9223372036854775807 then ((chinoiserielaw06_HostWrites.f k1 ((⟨#[97]⟩ : ByteArray) ++ (strOfNums y244)) ((⟨#[42, 46]⟩ : ByteArray) ++ (strOfNums y244)) x1_1).bind fun t251 => (if t251 = true then (chinoiserielaw06_HostKnown.l0 k1 (wrap64 (x1_1 + 1))) else (some false))) else (none)) else (some false))) else (none)) else (some false))) else (none)) else (some false))) else (none)) else (some false))) = some r := by first | (rw [hy244]; with_reducible exact H) | (have H2_ := (Option.bind_some _ _).symm.trans H; rw [hy244]; with_reducible exact H2_) | (have H2_ := (Option.bind_some _ _).symm.trans H; with_reducible exact H2_) | with_reducible exact H | (rw [hy244]; exact H) | exact H
        have Ny244 := Aside0.mk hy244
        clear hy244
        replace H := Option.bind_eq_some_iff.mp H
        obtain ⟨t247, A20, H⟩ := H
        replace H : (if t247 = true then (if 1 + (strOfNums y244).size ≤ 9223372036854775807 then ((chinoiserielaw06_HostNorms.f k1 ((⟨#[97]⟩ : ByteArray) ++ (strOfNums y244))).bind fun t248 => (if t248 = true then (if ((⟨#[97]⟩ : ByteArray) ++ (strOfNums y244)).size + 1 ≤ 9223372036854775807 then ((chinoiserielaw06_HostNorms.f k1 (((⟨#[97]⟩ : ByteArray) ++ (strOfNums y244)) ++ (⟨#[98]⟩ : ByteArray))).bind fun t249 => (if t249 = true then (if ((⟨#[42]⟩ : ByteArray) ++ (strOfNums y244)).size + 1 ≤ 9223372036854775807 then ((chinoiserielaw06_HostNorms.f k1 (((⟨#[42]⟩ : ByteArray) ++ (strOfNums y244)) ++ (⟨#[97]⟩ : ByteArray))).bind fun t250 => (if t250 = true then (if 2 + (strOfNums y244).size ≤ 9223372036854775807 then ((chinoiserielaw06_HostWrites.f k1 ((⟨#[97]⟩ : ByteArray) ++ (strOfNums y244)) ((⟨#[42, 46]⟩ : ByteArray) ++ (strOfNums y244)) x1_1).bind fun t251 => (if t251 = true then (chinoiserielaw06_HostKnown.l0 k1 (wrap64 (x1_1 + 1))) else (some false))) else (none)) else (some false))) else (none)) else (some false))) else (none)) else (some false))) else (none)) else (some false)) = some r := H
        have A2 := Aside0.mk A20
        clear A20
        by_cases c3 : t247 = true
        · subst c3
          have H1 : (if 1 + (strOfNums y244).size ≤ 9223372036854775807 then ((chinoiserielaw06_HostNorms.f k1 ((⟨#[97]⟩ : ByteArray) ++ (strOfNums y244))).bind fun t248 => (if t248 = true then (if ((⟨#[97]⟩ : ByteArray) ++ (strOfNums y244)).size + 1 ≤ 9223372036854775807 then ((chinoiserielaw06_HostNorms.f k1 (((⟨#[97]⟩ : ByteArray) ++ (strOfNums y244)) ++ (⟨#[98]⟩ : ByteArray))).bind fun t249 => (if t249 = true then (if ((⟨#[42]⟩ : ByteArray) ++ (strOfNums y244)).size + 1 ≤ 9223372036854775807 then ((chinoiserielaw06_HostNorms.f k1 (((⟨#[42]⟩ : ByteArray) ++ (strOfNums y244)) ++ (⟨#[97]⟩ : ByteArray))).bind fun t250 => (if t250 = true then (if 2 + (strOfNums y244).size ≤ 9223372036854775807 then ((chinoiserielaw06_HostWrites.f k1 ((⟨#[97]⟩ : ByteArray) ++ (strOfNums y244)) ((⟨#[42, 46]⟩ : ByteArray) ++ (strOfNums y244)) x1_1).bind fun t251 => (if t251 = true then (chinoiserielaw06_HostKnown.l0 k1 (wrap64 (x1_1 + 1))) else (some false))) else (none)) else (some false))) else (none)) else (some false))) else (none)) else (some false))) else (none)) = some r := by rw [if_pos rfl] at H; exact H
          clear H
          have H := H1
          clear H1
          by_cases c4 : 1 + (strOfNums y244).size ≤ 9223372036854775807
          · rw [if_pos c4] at H
            have c4b0 := eq_true c4
            have c4b1 : decide (1 + (strOfNums y244).size ≤ 9223372036854775807) = true := decide_eq_true c4
            try have c4b2 : (9223372036854775807 < 1 + (strOfNums y244).size) = False := eq_false (Nat.not_lt.2 c4)
            replace H := Option.bind_eq_some_iff.mp H
            obtain ⟨t248, A50, H⟩ := H
            replace H : (if t248 = true then (if ((⟨#[97]⟩ : ByteArray) ++ (strOfNums y244)).size + 1 ≤ 9223372036854775807 then ((chinoiserielaw06_HostNorms.f k1 (((⟨#[97]⟩ : ByteArray) ++ (strOfNums y244)) ++ (⟨#[98]⟩ : ByteArray))).bind fun t249 => (if t249 = true then (if ((⟨#[42]⟩ : ByteArray) ++ (strOfNums y244)).size + 1 ≤ 9223372036854775807 then ((chinoiserielaw06_HostNorms.f k1 (((⟨#[42]⟩ : ByteArray) ++ (strOfNums y244)) ++ (⟨#[97]⟩ : ByteArray))).bind fun t250 => (if t250 = true then (if 2 + (strOfNums y244).size ≤ 9223372036854775807 then ((chinoiserielaw06_HostWrites.f k1 ((⟨#[97]⟩ : ByteArray) ++ (strOfNums y244)) ((⟨#[42, 46]⟩ : ByteArray) ++ (strOfNums y244)) x1_1).bind fun t251 => (if t251 = true then (chinoiserielaw06_HostKnown.l0 k1 (wrap64 (x1_1 + 1))) else (some false))) else (none)) else (some false))) else (none)) else (some false))) else (none)) else (some false)) = some r := H
            have A5 := Aside0.mk A50
            clear A50
            by_cases c6 : t248 = true
            · subst c6
              have H1 : (if ((⟨#[97]⟩ : ByteArray) ++ (strOfNums y244)).size + 1 ≤ 9223372036854775807 then ((chinoiserielaw06_HostNorms.f k1 (((⟨#[97]⟩ : ByteArray) ++ (strOfNums y244)) ++ (⟨#[98]⟩ : ByteArray))).bind fun t249 => (if t249 = true then (if ((⟨#[42]⟩ : ByteArray) ++ (strOfNums y244)).size + 1 ≤ 9223372036854775807 then ((chinoiserielaw06_HostNorms.f k1 (((⟨#[42]⟩ : ByteArray) ++ (strOfNums y244)) ++ (⟨#[97]⟩ : ByteArray))).bind fun t250 => (if t250 = true then (if 2 + (strOfNums y244).size ≤ 9223372036854775807 then ((chinoiserielaw06_HostWrites.f k1 ((⟨#[97]⟩ : ByteArray) ++ (strOfNums y244)) ((⟨#[42, 46]⟩ : ByteArray) ++ (strOfNums y244)) x1_1).bind fun t251 => (if t251 = true then (chinoiserielaw06_HostKnown.l0 k1 (wrap64 (x1_1 + 1))) else (some false))) else (none)) else (some false))) else (none)) else (some false))) else (none)) = some r := by rw [if_pos rfl] at H; exact H
              clear H
              have H := H1
              clear H1
              by_cases c7 : ((⟨#[97]⟩ : ByteArray) ++ (strOfNums y244)).size + 1 ≤ 9223372036854775807
              · rw [if_pos c7] at H
                have c7b0 := eq_true c7
                have c7b1 : decide (((⟨#[97]⟩ : ByteArray) ++ (strOfNums y244)).size + 1 ≤ 9223372036854775807) = true := decide_eq_true c7
                try have c7b2 : (9223372036854775807 < ((⟨#[97]⟩ : ByteArray) ++ (strOfNums y244)).size + 1) = False := eq_false (Nat.not_lt.2 c7)
                try have c7b3 : (9223372036854775807 < 1 + (strOfNums y244).size + 1) = False := eq_false (fun h_ => absurd c7 (by simp only [ByteArray.size_append]; exact Nat.not_le.2 h_))
                replace H := Option.bind_eq_some_iff.mp H
                obtain ⟨t249, A80, H⟩ := H
                replace H : (if t249 = true then (if ((⟨#[42]⟩ : ByteArray) ++ (strOfNums y244)).size + 1 ≤ 9223372036854775807 then ((chinoiserielaw06_HostNorms.f k1 (((⟨#[42]⟩ : ByteArray) ++ (strOfNums y244)) ++ (⟨#[97]⟩ : ByteArray))).bind fun t250 => (if t250 = true then (if 2 + (strOfNums y244).size ≤ 9223372036854775807 then ((chinoiserielaw06_HostWrites.f k1 ((⟨#[97]⟩ : ByteArray) ++ (strOfNums y244)) ((⟨#[42, 46]⟩ : ByteArray) ++ (strOfNums y244)) x1_1).bind fun t251 => (if t251 = true then (chinoiserielaw06_HostKnown.l0 k1 (wrap64 (x1_1 + 1))) else (some false))) else (none)) else (some false))) else (none)) else (some false)) = some r := H
                have A8 := Aside0.mk A80
                clear A80
                by_cases c9 : t249 = true
                · subst c9
                  have H1 : (if ((⟨#[42]⟩ : ByteArray) ++ (strOfNums y244)).size + 1 ≤ 9223372036854775807 then ((chinoiserielaw06_HostNorms.f k1 (((⟨#[42]⟩ : ByteArray) ++ (strOfNums y244)) ++ (⟨#[97]⟩ : ByteArray))).bind fun t250 => (if t250 = true then (if 2 + (strOfNums y244).size ≤ 9223372036854775807 then ((chinoiserielaw06_HostWrites.f k1 ((⟨#[97]⟩ : ByteArray) ++ (strOfNums y244)) ((⟨#[42, 46]⟩ : ByteArray) ++ (strOfNums y244)) x1_1).bind fun t251 => (if t251 = true then (chinoiserielaw06_HostKnown.l0 k1 (wrap64 (x1_1 + 1))) else (some false))) else (none)) else (some false))) else (none)) = some r := by rw [if_pos rfl] at H; exact H
                  clear H
                  have H := H1
                  clear H1
                  by_cases c10 : ((⟨#[42]⟩ : ByteArray) ++ (strOfNums y244)).size + 1 ≤ 9223372036854775807
                  · rw [if_pos c10] at H
                    have c10b0 := eq_true c10
                    have c10b1 : decide (((⟨#[42]⟩ : ByteArray) ++ (strOfNums y244)).size + 1 ≤ 9223372036854775807) = true := decide_eq_true c10
                    try have c10b2 : (9223372036854775807 < ((⟨#[42]⟩ : ByteArray) ++ (strOfNums y244)).size + 1) = False := eq_false (Nat.not_lt.2 c10)
                    try have c10b3 : (9223372036854775807 < 1 + (strOfNums y244).size + 1) = False := eq_false (fun h_ => absurd c10 (by simp only [ByteArray.size_append]; exact Nat.not_le.2 h_))
                    replace H := Option.bind_eq_some_iff.mp H
                    obtain ⟨t250, A110, H⟩ := H
                    replace H : (if t250 = true then (if 2 + (strOfNums y244).size ≤ 9223372036854775807 then ((chinoiserielaw06_HostWrites.f k1 ((⟨#[97]⟩ : ByteArray) ++ (strOfNums y244)) ((⟨#[42, 46]⟩ : ByteArray) ++ (strOfNums y244)) x1_1).bind fun t251 => (if t251 = true then (chinoiserielaw06_HostKnown.l0 k1 (wrap64 (x1_1 + 1))) else (some false))) else (none)) else (some false)) = some r := H
                    have A11 := Aside0.mk A110
                    clear A110
                    by_cases c12 : t250 = true
                    · subst c12
                      have H1 : (if 2 + (strOfNums y244).size ≤ 9223372036854775807 then ((chinoiserielaw06_HostWrites.f k1 ((⟨#[97]⟩ : ByteArray) ++ (strOfNums y244)) ((⟨#[42, 46]⟩ : ByteArray) ++ (strOfNums y244)) x1_1).bind fun t251 => (if t251 = true then (chinoiserielaw06_HostKnown.l0 k1 (wrap64 (x1_1 + 1))) else (some false))) else (none)) = some r := by rw [if_pos rfl] at H; exact H
                      clear H
                      have H := H1
                      clear H1
                      by_cases c13 : 2 + (strOfNums y244).size ≤ 9223372036854775807
                      · rw [if_pos c13] at H
                        have c13b0 := eq_true c13
                        have c13b1 : decide (2 + (strOfNums y244).size ≤ 9223372036854775807) = true := decide_eq_true c13
                        try have c13b2 : (9223372036854775807 < 2 + (strOfNums y244).size) = False := eq_false (Nat.not_lt.2 c13)
                        replace H := Option.bind_eq_some_iff.mp H
                        obtain ⟨t251, A140, H⟩ := H
                        replace H : (if t251 = true then (chinoiserielaw06_HostKnown.l0 k1 (wrap64 (x1_1 + 1))) else (some false)) = some r := H
                        have A14 := Aside0.mk A140
                        clear A140
                        by_cases c15 : t251 = true
                        · subst c15
                          have H1 : (chinoiserielaw06_HostKnown.l0 k1 (wrap64 (x1_1 + 1))) = some r := by rw [if_pos rfl] at H; exact H
                          clear H
                          have H := H1
                          clear H1
                          have H' := Aside0.mk H
                          clear H
                          go_wp2_with (first | ((with_reducible refine gate_dst (N := 16) rfl ?_); refine Kd.R_lit (Kd.int .u8) _ 5 ?hg (N := 16) ?hd (xs := ([(x1_1) % 256] : List Int)) (inner := [.int .u8 ((x1_1) % 256)]) (ok := fun _ => True) (okp := fun _ => True) ?hr ?hp (fun _ hk => hk) trivial (Below.refl _ _) (Nat.le_refl _) (by simp) ?_; (case hd => rfl); (case hg => rfl); (case hr => first | (go_simp; done) | (go_simp; rfl)); (case hp => exact (Reps.one (show Kd.M (Kd.int .u8) _ _ _ ((x1_1) % 256) [.int .u8 ((x1_1) % 256)] from rfl) (Reps.none _ _))); intro v245 w16 ho17 hb hg_ hnew_; clear hg_ hnew_; (first | rw [← Ny244.out] at ho17 | (simp only [Int.reduceToNat] at ho17; rw [← Ny244.out] at ho17)); have n0_ := Aside0.mk (Kd.R_lower ho17 (below_size (by repeat (first | (with_reducible first | exact HB.out | apply below_alloc | apply pw_below_drewN | apply below_drew1) | exact HB.out)))); have n1_ := Aside0.mk (below_step (by repeat (first | (with_reducible first | exact HB.out | apply below_alloc | apply pw_below_drewN | apply below_drew1) | exact HB.out)) hb); clear HB; have HO246 := n0_; have HB := n1_; clear n0_ n1_; clear hb ho17; have hcv18 := own_string (P := Tryd.prog) Tryd.underlying40 Tryd.underlying5 Tryd.underlying9 (Kd.own_of_R HO246.out)) | ((with_reducible refine gate_callee (f := 3) rfl ?_); refine goesL_ (some 19) rfl rfl Tryd.func3 (by kernel_rfl) rfl #[.string (strOfNums y244)] rfl (by (try simp only [List.map_toArray, List.map_cons, List.map_nil]); first | done | rfl | (simp only [List.length_drop, List.length_take]; rfl)) ?_; (with_reducible refine (chinoiserielaw06_HostNorms.calls k1 (strOfNums y244) true _ A2.out).mono ?_); rintro e w19 ⟨rfl, hb⟩; refine ⟨_, rfl, ?_⟩; have n0_ := Aside0.mk (Kd.R_below (by (with_reducible repeat (first | apply Kd.R_alloc | apply Kd.R_drewN | apply Kd.R_drew)); exact HO246.out) hb); have n1_ := Aside0.mk (below_step (by repeat (first | (with_reducible first | exact HB.out | apply below_alloc | apply pw_below_drewN | apply below_drew1) | exact HB.out)) hb); clear HO246; clear HB; have HO246 := n0_; have HB := n1_; clear n0_ n1_; (try clear hb); (try clear hb2); (try clear hk); (try clear hi)) | (go_at_call 3; (with_reducible refine (chinoiserielaw06_HostNorms.calls k1 ((⟨#[97]⟩ : ByteArray) ++ (strOfNums y244)) true _ A5.out).mono ?_); rintro e w20 ⟨rfl, hb⟩; have n0_ := Aside0.mk (Kd.R_below (by (with_reducible repeat (first | apply Kd.R_alloc | apply Kd.R_drewN | apply Kd.R_drew)); exact HO246.out) hb); have n1_ := Aside0.mk (below_step (by repeat (first | (with_reducible first | exact HB.out | apply below_alloc | apply pw_below_drewN | apply below_drew1) | exact HB.out)) hb); clear HO246; clear HB; have HO246 := n0_; have HB := n1_; clear n0_ n1_; (try clear hb); (try clear hb2); (try clear hk); (try clear hi)) | (go_at_call 3; (with_reducible refine (chinoiserielaw06_HostNorms.calls k1 (((⟨#[97]⟩ : ByteArray) ++ (strOfNums y244)) ++ (⟨#[98]⟩ : ByteArray)) true _ A8.out).mono ?_); rintro e w21 ⟨rfl, hb⟩; have n0_ := Aside0.mk (Kd.R_below (by (with_reducible repeat (first | apply Kd.R_alloc | apply Kd.R_drewN | apply Kd.R_drew)); exact HO246.out) hb); have n1_ := Aside0.mk (below_step (by repeat (first | (with_reducible first | exact HB.out | apply below_alloc | apply pw_below_drewN | apply below_drew1) | exact HB.out)) hb); clear HO246; clear HB; have HO246 := n0_; have HB := n1_; clear n0_ n1_; (try clear hb); (try clear hb2); (try clear hk); (try clear hi)) | (go_at_call 3; (with_reducible refine (chinoiserielaw06_HostNorms.calls k1 (((⟨#[42]⟩ : ByteArray) ++ (strOfNums y244)) ++ (⟨#[97]⟩ : ByteArray)) true _ A11.out).mono ?_); rintro e w22 ⟨rfl, hb⟩; have n0_ := Aside0.mk (Kd.R_below (by (with_reducible repeat (first | apply Kd.R_alloc | apply Kd.R_drewN | apply Kd.R_drew)); exact HO246.out) hb); have n1_ := Aside0.mk (below_step (by repeat (first | (with_reducible first | exact HB.out | apply below_alloc | apply pw_below_drewN | apply below_drew1) | exact HB.out)) hb); clear HO246; clear HB; have HO246 := n0_; have HB := n1_; clear n0_ n1_; (try clear hb); (try clear hb2); (try clear hk); (try clear hi)) | (go_at_call 4; (with_reducible refine (chinoiserielaw06_HostWrites.calls k1 ((⟨#[97]⟩ : ByteArray) ++ (strOfNums y244)) ((⟨#[42, 46]⟩ : ByteArray) ++ (strOfNums y244)) x1_1 true _ A14.out).mono ?_); rintro e w23 ⟨rfl, hb⟩; have n0_ := Aside0.mk (Kd.R_below (by (with_reducible repeat (first | apply Kd.R_alloc | apply Kd.R_drewN | apply Kd.R_drew)); exact HO246.out) hb); have n1_ := Aside0.mk (below_step (by repeat (first | (with_reducible first | exact HB.out | apply below_alloc | apply pw_below_drewN | apply below_drew1) | exact HB.out)) hb); clear HO246; clear HB; have HO246 := n0_; have HB := n1_; clear n0_ n1_; (try clear hb); (try clear hb2); (try clear hk); (try clear hi)))
                          go_roundg k1
                          case measure => have := HK1.out; omega
                          case rel => exact ⟨(wrap64 (x1_1 + 1)), (by first | rfl | (simp; done) | (simp [*]; done)), H', ⟨by have := HK1.out; omega⟩, ⟨by repeat (first | (with_reducible first | exact HB.out | apply below_alloc | apply pw_below_drewN | apply below_drew1) | exact HB.out)⟩⟩
                        · replace c15 := Bool.eq_false_iff.mpr c15
                          subst c15
                          have H1 : (some false) = some r := by rw [if_neg (show ¬ (false = true) by decide)] at H; exact H
                          clear H
                          have H := H1
                          clear H1
                          obtain rfl := Option.some.inj H
                          go_wp2_with (first | ((with_reducible refine gate_dst (N := 16) rfl ?_); refine Kd.R_lit (Kd.int .u8) _ 5 ?hg (N := 16) ?hd (xs := ([(x1_1) % 256] : List Int)) (inner := [.int .u8 ((x1_1) % 256)]) (ok := fun _ => True) (okp := fun _ => True) ?hr ?hp (fun _ hk => hk) trivial (Below.refl _ _) (Nat.le_refl _) (by simp) ?_; (case hd => rfl); (case hg => rfl); (case hr => first | (go_simp; done) | (go_simp; rfl)); (case hp => exact (Reps.one (show Kd.M (Kd.int .u8) _ _ _ ((x1_1) % 256) [.int .u8 ((x1_1) % 256)] from rfl) (Reps.none _ _))); intro v245 w24 ho25 hb hg_ hnew_; clear hg_ hnew_; (first | rw [← Ny244.out] at ho25 | (simp only [Int.reduceToNat] at ho25; rw [← Ny244.out] at ho25)); have n0_ := Aside0.mk (Kd.R_lower ho25 (below_size (by repeat (first | (with_reducible first | exact HB.out | apply below_alloc | apply pw_below_drewN | apply below_drew1) | exact HB.out)))); have n1_ := Aside0.mk (below_step (by repeat (first | (with_reducible first | exact HB.out | apply below_alloc | apply pw_below_drewN | apply below_drew1) | exact HB.out)) hb); clear HB; have HO246 := n0_; have HB := n1_; clear n0_ n1_; clear hb ho25; have hcv26 := own_string (P := Tryd.prog) Tryd.underlying40 Tryd.underlying5 Tryd.underlying9 (Kd.own_of_R HO246.out)) | ((with_reducible refine gate_callee (f := 3) rfl ?_); refine goesL_ (some 19) rfl rfl Tryd.func3 (by kernel_rfl) rfl #[.string (strOfNums y244)] rfl (by (try simp only [List.map_toArray, List.map_cons, List.map_nil]); first | done | rfl | (simp only [List.length_drop, List.length_take]; rfl)) ?_; (with_reducible refine (chinoiserielaw06_HostNorms.calls k1 (strOfNums y244) true _ A2.out).mono ?_); rintro e w27 ⟨rfl, hb⟩; refine ⟨_, rfl, ?_⟩; have n0_ := Aside0.mk (Kd.R_below (by (with_reducible repeat (first | apply Kd.R_alloc | apply Kd.R_drewN | apply Kd.R_drew)); exact HO246.out) hb); have n1_ := Aside0.mk (below_step (by repeat (first | (with_reducible first | exact HB.out | apply below_alloc | apply pw_below_drewN | apply below_drew1) | exact HB.out)) hb); clear HO246; clear HB; have HO246 := n0_; have HB := n1_; clear n0_ n1_; (try clear hb); (try clear hb2); (try clear hk); (try clear hi)) | (go_at_call 3; (with_reducible refine (chinoiserielaw06_HostNorms.calls k1 ((⟨#[97]⟩ : ByteArray) ++ (strOfNums y244)) true _ A5.out).mono ?_); rintro e w28 ⟨rfl, hb⟩; have n0_ := Aside0.mk (Kd.R_below (by (with_reducible repeat (first | apply Kd.R_alloc | apply Kd.R_drewN | apply Kd.R_drew)); exact HO246.out) hb); have n1_ := Aside0.mk (below_step (by repeat (first | (with_reducible first | exact HB.out | apply below_alloc | apply pw_below_drewN | apply below_drew1) | exact HB.out)) hb); clear HO246; clear HB; have HO246 := n0_; have HB := n1_; clear n0_ n1_; (try clear hb); (try clear hb2); (try clear hk); (try clear hi)) | (go_at_call 3; (with_reducible refine (chinoiserielaw06_HostNorms.calls k1 (((⟨#[97]⟩ : ByteArray) ++ (strOfNums y244)) ++ (⟨#[98]⟩ : ByteArray)) true _ A8.out).mono ?_); rintro e w29 ⟨rfl, hb⟩; have n0_ := Aside0.mk (Kd.R_below (by (with_reducible repeat (first | apply Kd.R_alloc | apply Kd.R_drewN | apply Kd.R_drew)); exact HO246.out) hb); have n1_ := Aside0.mk (below_step (by repeat (first | (with_reducible first | exact HB.out | apply below_alloc | apply pw_below_drewN | apply below_drew1) | exact HB.out)) hb); clear HO246; clear HB; have HO246 := n0_; have HB := n1_; clear n0_ n1_; (try clear hb); (try clear hb2); (try clear hk); (try clear hi)) | (go_at_call 3; (with_reducible refine (chinoiserielaw06_HostNorms.calls k1 (((⟨#[42]⟩ : ByteArray) ++ (strOfNums y244)) ++ (⟨#[97]⟩ : ByteArray)) true _ A11.out).mono ?_); rintro e w30 ⟨rfl, hb⟩; have n0_ := Aside0.mk (Kd.R_below (by (with_reducible repeat (first | apply Kd.R_alloc | apply Kd.R_drewN | apply Kd.R_drew)); exact HO246.out) hb); have n1_ := Aside0.mk (below_step (by repeat (first | (with_reducible first | exact HB.out | apply below_alloc | apply pw_below_drewN | apply below_drew1) | exact HB.out)) hb); clear HO246; clear HB; have HO246 := n0_; have HB := n1_; clear n0_ n1_; (try clear hb); (try clear hb2); (try clear hk); (try clear hi)) | (go_at_call 4; (with_reducible refine (chinoiserielaw06_HostWrites.calls k1 ((⟨#[97]⟩ : ByteArray) ++ (strOfNums y244)) ((⟨#[42, 46]⟩ : ByteArray) ++ (strOfNums y244)) x1_1 false _ A14.out).mono ?_); rintro e w31 ⟨rfl, hb⟩; have n0_ := Aside0.mk (Kd.R_below (by (with_reducible repeat (first | apply Kd.R_alloc | apply Kd.R_drewN | apply Kd.R_drew)); exact HO246.out) hb); have n1_ := Aside0.mk (below_step (by repeat (first | (with_reducible first | exact HB.out | apply below_alloc | apply pw_below_drewN | apply below_drew1) | exact HB.out)) hb); clear HO246; clear HB; have HO246 := n0_; have HB := n1_; clear n0_ n1_; (try clear hb); (try clear hb2); (try clear hk); (try clear hi)))
                          go_ret
                          exact ⟨by first | rfl | (simp [errW_none, errW_some] <;> rfl) | (simp [*, errW_none, errW_some] <;> rfl), by repeat (first | (with_reducible first | exact HB.out | apply below_alloc | apply pw_below_drewN | apply below_drew1) | exact HB.out)⟩
                      · rw [if_neg c13] at H
                        exact absurd H (by simp)
                    · replace c12 := Bool.eq_false_iff.mpr c12
                      subst c12
                      have H1 : (some false) = some r := by rw [if_neg (show ¬ (false = true) by decide)] at H; exact H
                      clear H
                      have H := H1
                      clear H1
                      obtain rfl := Option.some.inj H
                      go_wp2_with (first | ((with_reducible refine gate_dst (N := 16) rfl ?_); refine Kd.R_lit (Kd.int .u8) _ 5 ?hg (N := 16) ?hd (xs := ([(x1_1) % 256] : List Int)) (inner := [.int .u8 ((x1_1) % 256)]) (ok := fun _ => True) (okp := fun _ => True) ?hr ?hp (fun _ hk => hk) trivial (Below.refl _ _) (Nat.le_refl _) (by simp) ?_; (case hd => rfl); (case hg => rfl); (case hr => first | (go_simp; done) | (go_simp; rfl)); (case hp => exact (Reps.one (show Kd.M (Kd.int .u8) _ _ _ ((x1_1) % 256) [.int .u8 ((x1_1) % 256)] from rfl) (Reps.none _ _))); intro v245 w32 ho33 hb hg_ hnew_; clear hg_ hnew_; (first | rw [← Ny244.out] at ho33 | (simp only [Int.reduceToNat] at ho33; rw [← Ny244.out] at ho33)); have n0_ := Aside0.mk (Kd.R_lower ho33 (below_size (by repeat (first | (with_reducible first | exact HB.out | apply below_alloc | apply pw_below_drewN | apply below_drew1) | exact HB.out)))); have n1_ := Aside0.mk (below_step (by repeat (first | (with_reducible first | exact HB.out | apply below_alloc | apply pw_below_drewN | apply below_drew1) | exact HB.out)) hb); clear HB; have HO246 := n0_; have HB := n1_; clear n0_ n1_; clear hb ho33; have hcv34 := own_string (P := Tryd.prog) Tryd.underlying40 Tryd.underlying5 Tryd.underlying9 (Kd.own_of_R HO246.out)) | ((with_reducible refine gate_callee (f := 3) rfl ?_); refine goesL_ (some 19) rfl rfl Tryd.func3 (by kernel_rfl) rfl #[.string (strOfNums y244)] rfl (by (try simp only [List.map_toArray, List.map_cons, List.map_nil]); first | done | rfl | (simp only [List.length_drop, List.length_take]; rfl)) ?_; (with_reducible refine (chinoiserielaw06_HostNorms.calls k1 (strOfNums y244) true _ A2.out).mono ?_); rintro e w35 ⟨rfl, hb⟩; refine ⟨_, rfl, ?_⟩; have n0_ := Aside0.mk (Kd.R_below (by (with_reducible repeat (first | apply Kd.R_alloc | apply Kd.R_drewN | apply Kd.R_drew)); exact HO246.out) hb); have n1_ := Aside0.mk (below_step (by repeat (first | (with_reducible first | exact HB.out | apply below_alloc | apply pw_below_drewN | apply below_drew1) | exact HB.out)) hb); clear HO246; clear HB; have HO246 := n0_; have HB := n1_; clear n0_ n1_; (try clear hb); (try clear hb2); (try clear hk); (try clear hi)) | (go_at_call 3; (with_reducible refine (chinoiserielaw06_HostNorms.calls k1 ((⟨#[97]⟩ : ByteArray) ++ (strOfNums y244)) true _ A5.out).mono ?_); rintro e w36 ⟨rfl, hb⟩; have n0_ := Aside0.mk (Kd.R_below (by (with_reducible repeat (first | apply Kd.R_alloc | apply Kd.R_drewN | apply Kd.R_drew)); exact HO246.out) hb); have n1_ := Aside0.mk (below_step (by repeat (first | (with_reducible first | exact HB.out | apply below_alloc | apply pw_below_drewN | apply below_drew1) | exact HB.out)) hb); clear HO246; clear HB; have HO246 := n0_; have HB := n1_; clear n0_ n1_; (try clear hb); (try clear hb2); (try clear hk); (try clear hi)) | (go_at_call 3; (with_reducible refine (chinoiserielaw06_HostNorms.calls k1 (((⟨#[97]⟩ : ByteArray) ++ (strOfNums y244)) ++ (⟨#[98]⟩ : ByteArray)) true _ A8.out).mono ?_); rintro e w37 ⟨rfl, hb⟩; have n0_ := Aside0.mk (Kd.R_below (by (with_reducible repeat (first | apply Kd.R_alloc | apply Kd.R_drewN | apply Kd.R_drew)); exact HO246.out) hb); have n1_ := Aside0.mk (below_step (by repeat (first | (with_reducible first | exact HB.out | apply below_alloc | apply pw_below_drewN | apply below_drew1) | exact HB.out)) hb); clear HO246; clear HB; have HO246 := n0_; have HB := n1_; clear n0_ n1_; (try clear hb); (try clear hb2); (try clear hk); (try clear hi)) | (go_at_call 3; (with_reducible refine (chinoiserielaw06_HostNorms.calls k1 (((⟨#[42]⟩ : ByteArray) ++ (strOfNums y244)) ++ (⟨#[97]⟩ : ByteArray)) false _ A11.out).mono ?_); rintro e w38 ⟨rfl, hb⟩; have n0_ := Aside0.mk (Kd.R_below (by (with_reducible repeat (first | apply Kd.R_alloc | apply Kd.R_drewN | apply Kd.R_drew)); exact HO246.out) hb); have n1_ := Aside0.mk (below_step (by repeat (first | (with_reducible first | exact HB.out | apply below_alloc | apply pw_below_drewN | apply below_drew1) | exact HB.out)) hb); clear HO246; clear HB; have HO246 := n0_; have HB := n1_; clear n0_ n1_; (try clear hb); (try clear hb2); (try clear hk); (try clear hi)))
                      go_ret
                      exact ⟨by first | rfl | (simp [errW_none, errW_some] <;> rfl) | (simp [*, errW_none, errW_some] <;> rfl), by repeat (first | (with_reducible first | exact HB.out | apply below_alloc | apply pw_below_drewN | apply below_drew1) | exact HB.out)⟩
                  · rw [if_neg c10] at H
                    exact absurd H (by simp)
                · replace c9 := Bool.eq_false_iff.mpr c9
                  subst c9
                  have H1 : (some false) = some r := by rw [if_neg (show ¬ (false = true) by decide)] at H; exact H
                  clear H
                  have H := H1
                  clear H1
                  obtain rfl := Option.some.inj H
                  go_wp2_with (first | ((with_reducible refine gate_dst (N := 16) rfl ?_); refine Kd.R_lit (Kd.int .u8) _ 5 ?hg (N := 16) ?hd (xs := ([(x1_1) % 256] : List Int)) (inner := [.int .u8 ((x1_1) % 256)]) (ok := fun _ => True) (okp := fun _ => True) ?hr ?hp (fun _ hk => hk) trivial (Below.refl _ _) (Nat.le_refl _) (by simp) ?_; (case hd => rfl); (case hg => rfl); (case hr => first | (go_simp; done) | (go_simp; rfl)); (case hp => exact (Reps.one (show Kd.M (Kd.int .u8) _ _ _ ((x1_1) % 256) [.int .u8 ((x1_1) % 256)] from rfl) (Reps.none _ _))); intro v245 w39 ho40 hb hg_ hnew_; clear hg_ hnew_; (first | rw [← Ny244.out] at ho40 | (simp only [Int.reduceToNat] at ho40; rw [← Ny244.out] at ho40)); have n0_ := Aside0.mk (Kd.R_lower ho40 (below_size (by repeat (first | (with_reducible first | exact HB.out | apply below_alloc | apply pw_below_drewN | apply below_drew1) | exact HB.out)))); have n1_ := Aside0.mk (below_step (by repeat (first | (with_reducible first | exact HB.out | apply below_alloc | apply pw_below_drewN | apply below_drew1) | exact HB.out)) hb); clear HB; have HO246 := n0_; have HB := n1_; clear n0_ n1_; clear hb ho40; have hcv41 := own_string (P := Tryd.prog) Tryd.underlying40 Tryd.underlying5 Tryd.underlying9 (Kd.own_of_R HO246.out)) | ((with_reducible refine gate_callee (f := 3) rfl ?_); refine goesL_ (some 19) rfl rfl Tryd.func3 (by kernel_rfl) rfl #[.string (strOfNums y244)] rfl (by (try simp only [List.map_toArray, List.map_cons, List.map_nil]); first | done | rfl | (simp only [List.length_drop, List.length_take]; rfl)) ?_; (with_reducible refine (chinoiserielaw06_HostNorms.calls k1 (strOfNums y244) true _ A2.out).mono ?_); rintro e w42 ⟨rfl, hb⟩; refine ⟨_, rfl, ?_⟩; have n0_ := Aside0.mk (Kd.R_below (by (with_reducible repeat (first | apply Kd.R_alloc | apply Kd.R_drewN | apply Kd.R_drew)); exact HO246.out) hb); have n1_ := Aside0.mk (below_step (by repeat (first | (with_reducible first | exact HB.out | apply below_alloc | apply pw_below_drewN | apply below_drew1) | exact HB.out)) hb); clear HO246; clear HB; have HO246 := n0_; have HB := n1_; clear n0_ n1_; (try clear hb); (try clear hb2); (try clear hk); (try clear hi)) | (go_at_call 3; (with_reducible refine (chinoiserielaw06_HostNorms.calls k1 ((⟨#[97]⟩ : ByteArray) ++ (strOfNums y244)) true _ A5.out).mono ?_); rintro e w43 ⟨rfl, hb⟩; have n0_ := Aside0.mk (Kd.R_below (by (with_reducible repeat (first | apply Kd.R_alloc | apply Kd.R_drewN | apply Kd.R_drew)); exact HO246.out) hb); have n1_ := Aside0.mk (below_step (by repeat (first | (with_reducible first | exact HB.out | apply below_alloc | apply pw_below_drewN | apply below_drew1) | exact HB.out)) hb); clear HO246; clear HB; have HO246 := n0_; have HB := n1_; clear n0_ n1_; (try clear hb); (try clear hb2); (try clear hk); (try clear hi)) | (go_at_call 3; (with_reducible refine (chinoiserielaw06_HostNorms.calls k1 (((⟨#[97]⟩ : ByteArray) ++ (strOfNums y244)) ++ (⟨#[98]⟩ : ByteArray)) false _ A8.out).mono ?_); rintro e w44 ⟨rfl, hb⟩; have n0_ := Aside0.mk (Kd.R_below (by (with_reducible repeat (first | apply Kd.R_alloc | apply Kd.R_drewN | apply Kd.R_drew)); exact HO246.out) hb); have n1_ := Aside0.mk (below_step (by repeat (first | (with_reducible first | exact HB.out | apply below_alloc | apply pw_below_drewN | apply below_drew1) | exact HB.out)) hb); clear HO246; clear HB; have HO246 := n0_; have HB := n1_; clear n0_ n1_; (try clear hb); (try clear hb2); (try clear hk); (try clear hi)))
                  go_ret
                  exact ⟨by first | rfl | (simp [errW_none, errW_some] <;> rfl) | (simp [*, errW_none, errW_some] <;> rfl), by repeat (first | (with_reducible first | exact HB.out | apply below_alloc | apply pw_below_drewN | apply below_drew1) | exact HB.out)⟩
              · rw [if_neg c7] at H
                exact absurd H (by simp)
            · replace c6 := Bool.eq_false_iff.mpr c6
              subst c6
              have H1 : (some false) = some r := by rw [if_neg (show ¬ (false = true) by decide)] at H; exact H
              clear H
              have H := H1
              clear H1
              obtain rfl := Option.some.inj H
              go_wp2_with (first | ((with_reducible refine gate_dst (N := 16) rfl ?_); refine Kd.R_lit (Kd.int .u8) _ 5 ?hg (N := 16) ?hd (xs := ([(x1_1) % 256] : List Int)) (inner := [.int .u8 ((x1_1) % 256)]) (ok := fun _ => True) (okp := fun _ => True) ?hr ?hp (fun _ hk => hk) trivial (Below.refl _ _) (Nat.le_refl _) (by simp) ?_; (case hd => rfl); (case hg => rfl); (case hr => first | (go_simp; done) | (go_simp; rfl)); (case hp => exact (Reps.one (show Kd.M (Kd.int .u8) _ _ _ ((x1_1) % 256) [.int .u8 ((x1_1) % 256)] from rfl) (Reps.none _ _))); intro v245 w45 ho46 hb hg_ hnew_; clear hg_ hnew_; (first | rw [← Ny244.out] at ho46 | (simp only [Int.reduceToNat] at ho46; rw [← Ny244.out] at ho46)); have n0_ := Aside0.mk (Kd.R_lower ho46 (below_size (by repeat (first | (with_reducible first | exact HB.out | apply below_alloc | apply pw_below_drewN | apply below_drew1) | exact HB.out)))); have n1_ := Aside0.mk (below_step (by repeat (first | (with_reducible first | exact HB.out | apply below_alloc | apply pw_below_drewN | apply below_drew1) | exact HB.out)) hb); clear HB; have HO246 := n0_; have HB := n1_; clear n0_ n1_; clear hb ho46; have hcv47 := own_string (P := Tryd.prog) Tryd.underlying40 Tryd.underlying5 Tryd.underlying9 (Kd.own_of_R HO246.out)) | ((with_reducible refine gate_callee (f := 3) rfl ?_); refine goesL_ (some 19) rfl rfl Tryd.func3 (by kernel_rfl) rfl #[.string (strOfNums y244)] rfl (by (try simp only [List.map_toArray, List.map_cons, List.map_nil]); first | done | rfl | (simp only [List.length_drop, List.length_take]; rfl)) ?_; (with_reducible refine (chinoiserielaw06_HostNorms.calls k1 (strOfNums y244) true _ A2.out).mono ?_); rintro e w48 ⟨rfl, hb⟩; refine ⟨_, rfl, ?_⟩; have n0_ := Aside0.mk (Kd.R_below (by (with_reducible repeat (first | apply Kd.R_alloc | apply Kd.R_drewN | apply Kd.R_drew)); exact HO246.out) hb); have n1_ := Aside0.mk (below_step (by repeat (first | (with_reducible first | exact HB.out | apply below_alloc | apply pw_below_drewN | apply below_drew1) | exact HB.out)) hb); clear HO246; clear HB; have HO246 := n0_; have HB := n1_; clear n0_ n1_; (try clear hb); (try clear hb2); (try clear hk); (try clear hi)) | (go_at_call 3; (with_reducible refine (chinoiserielaw06_HostNorms.calls k1 ((⟨#[97]⟩ : ByteArray) ++ (strOfNums y244)) false _ A5.out).mono ?_); rintro e w49 ⟨rfl, hb⟩; have n0_ := Aside0.mk (Kd.R_below (by (with_reducible repeat (first | apply Kd.R_alloc | apply Kd.R_drewN | apply Kd.R_drew)); exact HO246.out) hb); have n1_ := Aside0.mk (below_step (by repeat (first | (with_reducible first | exact HB.out | apply below_alloc | apply pw_below_drewN | apply below_drew1) | exact HB.out)) hb); clear HO246; clear HB; have HO246 := n0_; have HB := n1_; clear n0_ n1_; (try clear hb); (try clear hb2); (try clear hk); (try clear hi)))
              go_ret
              exact ⟨by first | rfl | (simp [errW_none, errW_some] <;> rfl) | (simp [*, errW_none, errW_some] <;> rfl), by repeat (first | (with_reducible first | exact HB.out | apply below_alloc | apply pw_below_drewN | apply below_drew1) | exact HB.out)⟩
          · rw [if_neg c4] at H
            exact absurd H (by simp)
        · replace c3 := Bool.eq_false_iff.mpr c3
          subst c3
          have H1 : (some false) = some r := by rw [if_neg (show ¬ (false = true) by decide)] at H; exact H
          clear H
          have H := H1
          clear H1
          obtain rfl := Option.some.inj H
          go_wp2_with (first | ((with_reducible refine gate_dst (N := 16) rfl ?_); refine Kd.R_lit (Kd.int .u8) _ 5 ?hg (N := 16) ?hd (xs := ([(x1_1) % 256] : List Int)) (inner := [.int .u8 ((x1_1) % 256)]) (ok := fun _ => True) (okp := fun _ => True) ?hr ?hp (fun _ hk => hk) trivial (Below.refl _ _) (Nat.le_refl _) (by simp) ?_; (case hd => rfl); (case hg => rfl); (case hr => first | (go_simp; done) | (go_simp; rfl)); (case hp => exact (Reps.one (show Kd.M (Kd.int .u8) _ _ _ ((x1_1) % 256) [.int .u8 ((x1_1) % 256)] from rfl) (Reps.none _ _))); intro v245 w50 ho51 hb hg_ hnew_; clear hg_ hnew_; (first | rw [← Ny244.out] at ho51 | (simp only [Int.reduceToNat] at ho51; rw [← Ny244.out] at ho51)); have n0_ := Aside0.mk (Kd.R_lower ho51 (below_size (by repeat (first | (with_reducible first | exact HB.out | apply below_alloc | apply pw_below_drewN | apply below_drew1) | exact HB.out)))); have n1_ := Aside0.mk (below_step (by repeat (first | (with_reducible first | exact HB.out | apply below_alloc | apply pw_below_drewN | apply below_drew1) | exact HB.out)) hb); clear HB; have HO246 := n0_; have HB := n1_; clear n0_ n1_; clear hb ho51; have hcv52 := own_string (P := Tryd.prog) Tryd.underlying40 Tryd.underlying5 Tryd.underlying9 (Kd.own_of_R HO246.out)) | ((with_reducible refine gate_callee (f := 3) rfl ?_); refine goesL_ (some 19) rfl rfl Tryd.func3 (by kernel_rfl) rfl #[.string (strOfNums y244)] rfl (by (try simp only [List.map_toArray, List.map_cons, List.map_nil]); first | done | rfl | (simp only [List.length_drop, List.length_take]; rfl)) ?_; (with_reducible refine (chinoiserielaw06_HostNorms.calls k1 (strOfNums y244) false _ A2.out).mono ?_); rintro e w53 ⟨rfl, hb⟩; refine ⟨_, rfl, ?_⟩; have n0_ := Aside0.mk (Kd.R_below (by (with_reducible repeat (first | apply Kd.R_alloc | apply Kd.R_drewN | apply Kd.R_drew)); exact HO246.out) hb); have n1_ := Aside0.mk (below_step (by repeat (first | (with_reducible first | exact HB.out | apply below_alloc | apply pw_below_drewN | apply below_drew1) | exact HB.out)) hb); clear HO246; clear HB; have HO246 := n0_; have HB := n1_; clear n0_ n1_; (try clear hb); (try clear hb2); (try clear hk); (try clear hi)))
          go_ret
          exact ⟨by first | rfl | (simp [errW_none, errW_some] <;> rfl) | (simp [*, errW_none, errW_some] <;> rfl), by repeat (first | (with_reducible first | exact HB.out | apply below_alloc | apply pw_below_drewN | apply below_drew1) | exact HB.out)⟩
      · rw [if_neg c1] at H
        have c1b0 : decide (x1_1 < 256) = false := decide_eq_false c1
        clear c1
        by_cases c54 : 20 + 1 ≤ 9223372036854775807
        · rw [if_pos c54] at H
          have c54b0 := eq_true c54
          have c54b1 : decide (20 + 1 ≤ 9223372036854775807) = true := decide_eq_true c54
          try have c54b2 : (9223372036854775807 < 20 + 1) = False := eq_false (Nat.not_lt.2 c54)
          by_cases c55 : 20 + 20 ≤ 9223372036854775807
          · rw [if_pos c55] at H
            have c55b0 := eq_true c55
            have c55b1 : decide (20 + 20 ≤ 9223372036854775807) = true := decide_eq_true c55
            try have c55b2 : (9223372036854775807 < 20 + 20) = False := eq_false (Nat.not_lt.2 c55)
            by_cases c56 : (((⟨#[97, 98, 99, 100, 101, 102, 103, 104, 105, 106, 48, 49, 50, 51, 52, 53, 54, 55, 56, 57]⟩ : ByteArray) ++ (⟨#[46]⟩ : ByteArray)) ++ (⟨#[97, 98, 99, 100, 101, 102, 103, 104, 105, 106, 48, 49, 50, 51, 52, 53, 54, 55, 56, 57]⟩ : ByteArray)).size + 1 ≤ 9223372036854775807
            · rw [if_pos c56] at H
              have c56b0 := eq_true c56
              have c56b1 : decide ((((⟨#[97, 98, 99, 100, 101, 102, 103, 104, 105, 106, 48, 49, 50, 51, 52, 53, 54, 55, 56, 57]⟩ : ByteArray) ++ (⟨#[46]⟩ : ByteArray)) ++ (⟨#[97, 98, 99, 100, 101, 102, 103, 104, 105, 106, 48, 49, 50, 51, 52, 53, 54, 55, 56, 57]⟩ : ByteArray)).size + 1 ≤ 9223372036854775807) = true := decide_eq_true c56
              try have c56b2 : (9223372036854775807 < (((⟨#[97, 98, 99, 100, 101, 102, 103, 104, 105, 106, 48, 49, 50, 51, 52, 53, 54, 55, 56, 57]⟩ : ByteArray) ++ (⟨#[46]⟩ : ByteArray)) ++ (⟨#[97, 98, 99, 100, 101, 102, 103, 104, 105, 106, 48, 49, 50, 51, 52, 53, 54, 55, 56, 57]⟩ : ByteArray)).size + 1) = False := eq_false (Nat.not_lt.2 c56)
              try have c56b3 : (9223372036854775807 < 20 + 1 + 20 + 1) = False := eq_false (fun h_ => absurd c56 (by simp only [ByteArray.size_append]; exact Nat.not_le.2 h_))
              by_cases c57 : 0 ≤ 18
              · rw [if_pos c57] at H
                have c57b0 := eq_true c57
                have c57b1 : decide (0 ≤ 18) = true := decide_eq_true c57
                clear c57
                by_cases c58 : 18 ≤ 20
                · rw [if_pos c58] at H
                  have c58b0 := eq_true c58
                  have c58b1 : decide (18 ≤ 20) = true := decide_eq_true c58
                  clear c58
                  by_cases c59 : ((((⟨#[97, 98, 99, 100, 101, 102, 103, 104, 105, 106, 48, 49, 50, 51, 52, 53, 54, 55, 56, 57]⟩ : ByteArray) ++ (⟨#[46]⟩ : ByteArray)) ++ (⟨#[97, 98, 99, 100, 101, 102, 103, 104, 105, 106, 48, 49, 50, 51, 52, 53, 54, 55, 56, 57]⟩ : ByteArray)) ++ (⟨#[46]⟩ : ByteArray)).size + ((⟨#[97, 98, 99, 100, 101, 102, 103, 104, 105, 106, 48, 49, 50, 51, 52, 53, 54, 55, 56, 57]⟩ : ByteArray).extract 0 18).size ≤ 9223372036854775807
                  · rw [if_pos c59] at H
                    have c59b0 := eq_true c59
                    have c59b1 : decide (((((⟨#[97, 98, 99, 100, 101, 102, 103, 104, 105, 106, 48, 49, 50, 51, 52, 53, 54, 55, 56, 57]⟩ : ByteArray) ++ (⟨#[46]⟩ : ByteArray)) ++ (⟨#[97, 98, 99, 100, 101, 102, 103, 104, 105, 106, 48, 49, 50, 51, 52, 53, 54, 55, 56, 57]⟩ : ByteArray)) ++ (⟨#[46]⟩ : ByteArray)).size + ((⟨#[97, 98, 99, 100, 101, 102, 103, 104, 105, 106, 48, 49, 50, 51, 52, 53, 54, 55, 56, 57]⟩ : ByteArray).extract 0 18).size ≤ 9223372036854775807) = true := decide_eq_true c59
                    try have c59b2 : (9223372036854775807 < ((((⟨#[97, 98, 99, 100, 101, 102, 103, 104, 105, 106, 48, 49, 50, 51, 52, 53, 54, 55, 56, 57]⟩ : ByteArray) ++ (⟨#[46]⟩ : ByteArray)) ++ (⟨#[97, 98, 99, 100, 101, 102, 103, 104, 105, 106, 48, 49, 50, 51, 52, 53, 54, 55, 56, 57]⟩ : ByteArray)) ++ (⟨#[46]⟩ : ByteArray)).size + ((⟨#[97, 98, 99, 100, 101, 102, 103, 104, 105, 106, 48, 49, 50, 51, 52, 53, 54, 55, 56, 57]⟩ : ByteArray).extract 0 18).size) = False := eq_false (Nat.not_lt.2 c59)
                    try have c59b5 := c59b2
                    try simp only [ByteArray.size_extract, Nat.min_self] at c59b5
                    try have c59b3 : (9223372036854775807 < 20 + 1 + 20 + 1 + ((⟨#[97, 98, 99, 100, 101, 102, 103, 104, 105, 106, 48, 49, 50, 51, 52, 53, 54, 55, 56, 57]⟩ : ByteArray).extract 0 18).size) = False := eq_false (fun h_ => absurd c59 (by simp only [ByteArray.size_append]; exact Nat.not_le.2 h_))
                    by_cases c60 : (((((⟨#[97, 98, 99, 100, 101, 102, 103, 104, 105, 106, 48, 49, 50, 51, 52, 53, 54, 55, 56, 57]⟩ : ByteArray) ++ (⟨#[46]⟩ : ByteArray)) ++ (⟨#[97, 98, 99, 100, 101, 102, 103, 104, 105, 106, 48, 49, 50, 51, 52, 53, 54, 55, 56, 57]⟩ : ByteArray)) ++ (⟨#[46]⟩ : ByteArray)) ++ ((⟨#[97, 98, 99, 100, 101, 102, 103, 104, 105, 106, 48, 49, 50, 51, 52, 53, 54, 55, 56, 57]⟩ : ByteArray).extract 0 18)).size + 1 ≤ 9223372036854775807
                    · rw [if_pos c60] at H
                      have c60b0 := eq_true c60
                      have c60b1 : decide ((((((⟨#[97, 98, 99, 100, 101, 102, 103, 104, 105, 106, 48, 49, 50, 51, 52, 53, 54, 55, 56, 57]⟩ : ByteArray) ++ (⟨#[46]⟩ : ByteArray)) ++ (⟨#[97, 98, 99, 100, 101, 102, 103, 104, 105, 106, 48, 49, 50, 51, 52, 53, 54, 55, 56, 57]⟩ : ByteArray)) ++ (⟨#[46]⟩ : ByteArray)) ++ ((⟨#[97, 98, 99, 100, 101, 102, 103, 104, 105, 106, 48, 49, 50, 51, 52, 53, 54, 55, 56, 57]⟩ : ByteArray).extract 0 18)).size + 1 ≤ 9223372036854775807) = true := decide_eq_true c60
                      try have c60b2 : (9223372036854775807 < (((((⟨#[97, 98, 99, 100, 101, 102, 103, 104, 105, 106, 48, 49, 50, 51, 52, 53, 54, 55, 56, 57]⟩ : ByteArray) ++ (⟨#[46]⟩ : ByteArray)) ++ (⟨#[97, 98, 99, 100, 101, 102, 103, 104, 105, 106, 48, 49, 50, 51, 52, 53, 54, 55, 56, 57]⟩ : ByteArray)) ++ (⟨#[46]⟩ : ByteArray)) ++ ((⟨#[97, 98, 99, 100, 101, 102, 103, 104, 105, 106, 48, 49, 50, 51, 52, 53, 54, 55, 56, 57]⟩ : ByteArray).extract 0 18)).size + 1) = False := eq_false (Nat.not_lt.2 c60)
                      try have c60b5 := c60b2
                      try simp only [ByteArray.size_extract, Nat.min_self] at c60b5
                      try have c60b3 : (9223372036854775807 < 20 + 1 + 20 + 1 + ((⟨#[97, 98, 99, 100, 101, 102, 103, 104, 105, 106, 48, 49, 50, 51, 52, 53, 54, 55, 56, 57]⟩ : ByteArray).extract 0 18).size + 1) = False := eq_false (fun h_ => absurd c60 (by simp only [ByteArray.size_append]; exact Nat.not_le.2 h_))
                      by_cases c61 : 0 ≤ 59
                      · rw [if_pos c61] at H
                        have c61b0 := eq_true c61
                        have c61b1 : decide (0 ≤ 59) = true := decide_eq_true c61
                        clear c61
                        by_cases c62 : 59 ≤ ((((((⟨#[97, 98, 99, 100, 101, 102, 103, 104, 105, 106, 48, 49, 50, 51, 52, 53, 54, 55, 56, 57]⟩ : ByteArray) ++ (⟨#[46]⟩ : ByteArray)) ++ (⟨#[97, 98, 99, 100, 101, 102, 103, 104, 105, 106, 48, 49, 50, 51, 52, 53, 54, 55, 56, 57]⟩ : ByteArray)) ++ (⟨#[46]⟩ : ByteArray)) ++ ((⟨#[97, 98, 99, 100, 101, 102, 103, 104, 105, 106, 48, 49, 50, 51, 52, 53, 54, 55, 56, 57]⟩ : ByteArray).extract 0 18)).size : Int)
                        · rw [if_pos c62] at H
                          have c62b0 := eq_true c62
                          have c62b1 : decide (59 ≤ ((((((⟨#[97, 98, 99, 100, 101, 102, 103, 104, 105, 106, 48, 49, 50, 51, 52, 53, 54, 55, 56, 57]⟩ : ByteArray) ++ (⟨#[46]⟩ : ByteArray)) ++ (⟨#[97, 98, 99, 100, 101, 102, 103, 104, 105, 106, 48, 49, 50, 51, 52, 53, 54, 55, 56, 57]⟩ : ByteArray)) ++ (⟨#[46]⟩ : ByteArray)) ++ ((⟨#[97, 98, 99, 100, 101, 102, 103, 104, 105, 106, 48, 49, 50, 51, 52, 53, 54, 55, 56, 57]⟩ : ByteArray).extract 0 18)).size : Int)) = true := decide_eq_true c62
                          by_cases c63 : ((((((⟨#[97, 98, 99, 100, 101, 102, 103, 104, 105, 106, 48, 49, 50, 51, 52, 53, 54, 55, 56, 57]⟩ : ByteArray) ++ (⟨#[46]⟩ : ByteArray)) ++ (⟨#[97, 98, 99, 100, 101, 102, 103, 104, 105, 106, 48, 49, 50, 51, 52, 53, 54, 55, 56, 57]⟩ : ByteArray)) ++ (⟨#[46]⟩ : ByteArray)) ++ ((⟨#[97, 98, 99, 100, 101, 102, 103, 104, 105, 106, 48, 49, 50, 51, 52, 53, 54, 55, 56, 57]⟩ : ByteArray).extract 0 18)).extract 0 59).size + 1 ≤ 9223372036854775807
                          · rw [if_pos c63] at H
                            have c63b0 := eq_true c63
                            have c63b1 : decide (((((((⟨#[97, 98, 99, 100, 101, 102, 103, 104, 105, 106, 48, 49, 50, 51, 52, 53, 54, 55, 56, 57]⟩ : ByteArray) ++ (⟨#[46]⟩ : ByteArray)) ++ (⟨#[97, 98, 99, 100, 101, 102, 103, 104, 105, 106, 48, 49, 50, 51, 52, 53, 54, 55, 56, 57]⟩ : ByteArray)) ++ (⟨#[46]⟩ : ByteArray)) ++ ((⟨#[97, 98, 99, 100, 101, 102, 103, 104, 105, 106, 48, 49, 50, 51, 52, 53, 54, 55, 56, 57]⟩ : ByteArray).extract 0 18)).extract 0 59).size + 1 ≤ 9223372036854775807) = true := decide_eq_true c63
                            try have c63b2 : (9223372036854775807 < ((((((⟨#[97, 98, 99, 100, 101, 102, 103, 104, 105, 106, 48, 49, 50, 51, 52, 53, 54, 55, 56, 57]⟩ : ByteArray) ++ (⟨#[46]⟩ : ByteArray)) ++ (⟨#[97, 98, 99, 100, 101, 102, 103, 104, 105, 106, 48, 49, 50, 51, 52, 53, 54, 55, 56, 57]⟩ : ByteArray)) ++ (⟨#[46]⟩ : ByteArray)) ++ ((⟨#[97, 98, 99, 100, 101, 102, 103, 104, 105, 106, 48, 49, 50, 51, 52, 53, 54, 55, 56, 57]⟩ : ByteArray).extract 0 18)).extract 0 59).size + 1) = False := eq_false (Nat.not_lt.2 c63)
                            try have c63b5 := c63b2
                            try simp only [ByteArray.size_extract, Nat.min_self] at c63b5
                            try have c63b3 : (9223372036854775807 < ((((((⟨#[97, 98, 99, 100, 101, 102, 103, 104, 105, 106, 48, 49, 50, 51, 52, 53, 54, 55, 56, 57]⟩ : ByteArray) ++ (⟨#[46]⟩ : ByteArray)) ++ (⟨#[97, 98, 99, 100, 101, 102, 103, 104, 105, 106, 48, 49, 50, 51, 52, 53, 54, 55, 56, 57]⟩ : ByteArray)) ++ (⟨#[46]⟩ : ByteArray)) ++ ((⟨#[97, 98, 99, 100, 101, 102, 103, 104, 105, 106, 48, 49, 50, 51, 52, 53, 54, 55, 56, 57]⟩ : ByteArray).extract 0 18)).extract 0 59).size + 1) = False := eq_false (fun h_ => absurd c63 (by simp only [ByteArray.size_append]; exact Nat.not_le.2 h_))
                            by_cases c64 : 0 ≤ 58
                            · rw [if_pos c64] at H
                              have c64b0 := eq_true c64
                              have c64b1 : decide (0 ≤ 58) = true := decide_eq_true c64
                              clear c64
                              by_cases c65 : 58 ≤ ((((((⟨#[97, 98, 99, 100, 101, 102, 103, 104, 105, 106, 48, 49, 50, 51, 52, 53, 54, 55, 56, 57]⟩ : ByteArray) ++ (⟨#[46]⟩ : ByteArray)) ++ (⟨#[97, 98, 99, 100, 101, 102, 103, 104, 105, 106, 48, 49, 50, 51, 52, 53, 54, 55, 56, 57]⟩ : ByteArray)) ++ (⟨#[46]⟩ : ByteArray)) ++ ((⟨#[97, 98, 99, 100, 101, 102, 103, 104, 105, 106, 48, 49, 50, 51, 52, 53, 54, 55, 56, 57]⟩ : ByteArray).extract 0 18)).size : Int)
                              · rw [if_pos c65] at H
                                have c65b0 := eq_true c65
                                have c65b1 : decide (58 ≤ ((((((⟨#[97, 98, 99, 100, 101, 102, 103, 104, 105, 106, 48, 49, 50, 51, 52, 53, 54, 55, 56, 57]⟩ : ByteArray) ++ (⟨#[46]⟩ : ByteArray)) ++ (⟨#[97, 98, 99, 100, 101, 102, 103, 104, 105, 106, 48, 49, 50, 51, 52, 53, 54, 55, 56, 57]⟩ : ByteArray)) ++ (⟨#[46]⟩ : ByteArray)) ++ ((⟨#[97, 98, 99, 100, 101, 102, 103, 104, 105, 106, 48, 49, 50, 51, 52, 53, 54, 55, 56, 57]⟩ : ByteArray).extract 0 18)).size : Int)) = true := decide_eq_true c65
                                by_cases c66 : 2 + ((((((⟨#[97, 98, 99, 100, 101, 102, 103, 104, 105, 106, 48, 49, 50, 51, 52, 53, 54, 55, 56, 57]⟩ : ByteArray) ++ (⟨#[46]⟩ : ByteArray)) ++ (⟨#[97, 98, 99, 100, 101, 102, 103, 104, 105, 106, 48, 49, 50, 51, 52, 53, 54, 55, 56, 57]⟩ : ByteArray)) ++ (⟨#[46]⟩ : ByteArray)) ++ ((⟨#[97, 98, 99, 100, 101, 102, 103, 104, 105, 106, 48, 49, 50, 51, 52, 53, 54, 55, 56, 57]⟩ : ByteArray).extract 0 18)).extract 0 58).size ≤ 9223372036854775807
                                · rw [if_pos c66] at H
                                  have c66b0 := eq_true c66
                                  have c66b1 : decide (2 + ((((((⟨#[97, 98, 99, 100, 101, 102, 103, 104, 105, 106, 48, 49, 50, 51, 52, 53, 54, 55, 56, 57]⟩ : ByteArray) ++ (⟨#[46]⟩ : ByteArray)) ++ (⟨#[97, 98, 99, 100, 101, 102, 103, 104, 105, 106, 48, 49, 50, 51, 52, 53, 54, 55, 56, 57]⟩ : ByteArray)) ++ (⟨#[46]⟩ : ByteArray)) ++ ((⟨#[97, 98, 99, 100, 101, 102, 103, 104, 105, 106, 48, 49, 50, 51, 52, 53, 54, 55, 56, 57]⟩ : ByteArray).extract 0 18)).extract 0 58).size ≤ 9223372036854775807) = true := decide_eq_true c66
                                  try have c66b2 : (9223372036854775807 < 2 + ((((((⟨#[97, 98, 99, 100, 101, 102, 103, 104, 105, 106, 48, 49, 50, 51, 52, 53, 54, 55, 56, 57]⟩ : ByteArray) ++ (⟨#[46]⟩ : ByteArray)) ++ (⟨#[97, 98, 99, 100, 101, 102, 103, 104, 105, 106, 48, 49, 50, 51, 52, 53, 54, 55, 56, 57]⟩ : ByteArray)) ++ (⟨#[46]⟩ : ByteArray)) ++ ((⟨#[97, 98, 99, 100, 101, 102, 103, 104, 105, 106, 48, 49, 50, 51, 52, 53, 54, 55, 56, 57]⟩ : ByteArray).extract 0 18)).extract 0 58).size) = False := eq_false (Nat.not_lt.2 c66)
                                  try have c66b5 := c66b2
                                  try simp only [ByteArray.size_extract, Nat.min_self] at c66b5
                                  try have c66b3 : (9223372036854775807 < 2 + ((((((⟨#[97, 98, 99, 100, 101, 102, 103, 104, 105, 106, 48, 49, 50, 51, 52, 53, 54, 55, 56, 57]⟩ : ByteArray) ++ (⟨#[46]⟩ : ByteArray)) ++ (⟨#[97, 98, 99, 100, 101, 102, 103, 104, 105, 106, 48, 49, 50, 51, 52, 53, 54, 55, 56, 57]⟩ : ByteArray)) ++ (⟨#[46]⟩ : ByteArray)) ++ ((⟨#[97, 98, 99, 100, 101, 102, 103, 104, 105, 106, 48, 49, 50, 51, 52, 53, 54, 55, 56, 57]⟩ : ByteArray).extract 0 18)).extract 0 58).size) = False := eq_false (fun h_ => absurd c66 (by simp only [ByteArray.size_append]; exact Nat.not_le.2 h_))
                                  have c67b0 := eq_true (of_decide_eq_true (by first | (with_reducible assumption) | assumption) : 0 ≤ 59)
                                  have c68b0 := eq_true (of_decide_eq_true (by first | (with_reducible assumption) | assumption) : 59 ≤ ((((((⟨#[97, 98, 99, 100, 101, 102, 103, 104, 105, 106, 48, 49, 50, 51, 52, 53, 54, 55, 56, 57]⟩ : ByteArray) ++ (⟨#[46]⟩ : ByteArray)) ++ (⟨#[97, 98, 99, 100, 101, 102, 103, 104, 105, 106, 48, 49, 50, 51, 52, 53, 54, 55, 56, 57]⟩ : ByteArray)) ++ (⟨#[46]⟩ : ByteArray)) ++ ((⟨#[97, 98, 99, 100, 101, 102, 103, 104, 105, 106, 48, 49, 50, 51, 52, 53, 54, 55, 56, 57]⟩ : ByteArray).extract 0 18)).size : Int))
                                  by_cases c69 : 2 + ((((((⟨#[97, 98, 99, 100, 101, 102, 103, 104, 105, 106, 48, 49, 50, 51, 52, 53, 54, 55, 56, 57]⟩ : ByteArray) ++ (⟨#[46]⟩ : ByteArray)) ++ (⟨#[97, 98, 99, 100, 101, 102, 103, 104, 105, 106, 48, 49, 50, 51, 52, 53, 54, 55, 56, 57]⟩ : ByteArray)) ++ (⟨#[46]⟩ : ByteArray)) ++ ((⟨#[97, 98, 99, 100, 101, 102, 103, 104, 105, 106, 48, 49, 50, 51, 52, 53, 54, 55, 56, 57]⟩ : ByteArray).extract 0 18)).extract 0 59).size ≤ 9223372036854775807
                                  · rw [if_pos c69] at H
                                    have c69b0 := eq_true c69
                                    have c69b1 : decide (2 + ((((((⟨#[97, 98, 99, 100, 101, 102, 103, 104, 105, 106, 48, 49, 50, 51, 52, 53, 54, 55, 56, 57]⟩ : ByteArray) ++ (⟨#[46]⟩ : ByteArray)) ++ (⟨#[97, 98, 99, 100, 101, 102, 103, 104, 105, 106, 48, 49, 50, 51, 52, 53, 54, 55, 56, 57]⟩ : ByteArray)) ++ (⟨#[46]⟩ : ByteArray)) ++ ((⟨#[97, 98, 99, 100, 101, 102, 103, 104, 105, 106, 48, 49, 50, 51, 52, 53, 54, 55, 56, 57]⟩ : ByteArray).extract 0 18)).extract 0 59).size ≤ 9223372036854775807) = true := decide_eq_true c69
                                    try have c69b2 : (9223372036854775807 < 2 + ((((((⟨#[97, 98, 99, 100, 101, 102, 103, 104, 105, 106, 48, 49, 50, 51, 52, 53, 54, 55, 56, 57]⟩ : ByteArray) ++ (⟨#[46]⟩ : ByteArray)) ++ (⟨#[97, 98, 99, 100, 101, 102, 103, 104, 105, 106, 48, 49, 50, 51, 52, 53, 54, 55, 56, 57]⟩ : ByteArray)) ++ (⟨#[46]⟩ : ByteArray)) ++ ((⟨#[97, 98, 99, 100, 101, 102, 103, 104, 105, 106, 48, 49, 50, 51, 52, 53, 54, 55, 56, 57]⟩ : ByteArray).extract 0 18)).extract 0 59).size) = False := eq_false (Nat.not_lt.2 c69)
                                    try have c69b5 := c69b2
                                    try simp only [ByteArray.size_extract, Nat.min_self] at c69b5
                                    try have c69b3 : (9223372036854775807 < 2 + ((((((⟨#[97, 98, 99, 100, 101, 102, 103, 104, 105, 106, 48, 49, 50, 51, 52, 53, 54, 55, 56, 57]⟩ : ByteArray) ++ (⟨#[46]⟩ : ByteArray)) ++ (⟨#[97, 98, 99, 100, 101, 102, 103, 104, 105, 106, 48, 49, 50, 51, 52, 53, 54, 55, 56, 57]⟩ : ByteArray)) ++ (⟨#[46]⟩ : ByteArray)) ++ ((⟨#[97, 98, 99, 100, 101, 102, 103, 104, 105, 106, 48, 49, 50, 51, 52, 53, 54, 55, 56, 57]⟩ : ByteArray).extract 0 18)).extract 0 59).size) = False := eq_false (fun h_ => absurd c69 (by simp only [ByteArray.size_append]; exact Nat.not_le.2 h_))
                                    by_cases c70 : (((((⟨#[97, 98, 99, 100, 101, 102, 103, 104, 105, 106, 48, 49, 50, 51, 52, 53, 54, 55, 56, 57]⟩ : ByteArray) ++ (⟨#[46]⟩ : ByteArray)) ++ (⟨#[97, 98, 99, 100, 101, 102, 103, 104, 105, 106, 48, 49, 50, 51, 52, 53, 54, 55, 56, 57]⟩ : ByteArray)) ++ (⟨#[46]⟩ : ByteArray)) ++ ((⟨#[97, 98, 99, 100, 101, 102, 103, 104, 105, 106, 48, 49, 50, 51, 52, 53, 54, 55, 56, 57]⟩ : ByteArray).extract 0 18)).size + 6 ≤ 9223372036854775807
                                    · rw [if_pos c70] at H
                                      have c70b0 := eq_true c70
                                      have c70b1 : decide ((((((⟨#[97, 98, 99, 100, 101, 102, 103, 104, 105, 106, 48, 49, 50, 51, 52, 53, 54, 55, 56, 57]⟩ : ByteArray) ++ (⟨#[46]⟩ : ByteArray)) ++ (⟨#[97, 98, 99, 100, 101, 102, 103, 104, 105, 106, 48, 49, 50, 51, 52, 53, 54, 55, 56, 57]⟩ : ByteArray)) ++ (⟨#[46]⟩ : ByteArray)) ++ ((⟨#[97, 98, 99, 100, 101, 102, 103, 104, 105, 106, 48, 49, 50, 51, 52, 53, 54, 55, 56, 57]⟩ : ByteArray).extract 0 18)).size + 6 ≤ 9223372036854775807) = true := decide_eq_true c70
                                      try have c70b2 : (9223372036854775807 < (((((⟨#[97, 98, 99, 100, 101, 102, 103, 104, 105, 106, 48, 49, 50, 51, 52, 53, 54, 55, 56, 57]⟩ : ByteArray) ++ (⟨#[46]⟩ : ByteArray)) ++ (⟨#[97, 98, 99, 100, 101, 102, 103, 104, 105, 106, 48, 49, 50, 51, 52, 53, 54, 55, 56, 57]⟩ : ByteArray)) ++ (⟨#[46]⟩ : ByteArray)) ++ ((⟨#[97, 98, 99, 100, 101, 102, 103, 104, 105, 106, 48, 49, 50, 51, 52, 53, 54, 55, 56, 57]⟩ : ByteArray).extract 0 18)).size + 6) = False := eq_false (Nat.not_lt.2 c70)
                                      try have c70b5 := c70b2
                                      try simp only [ByteArray.size_extract, Nat.min_self] at c70b5
                                      try have c70b3 : (9223372036854775807 < 20 + 1 + 20 + 1 + ((⟨#[97, 98, 99, 100, 101, 102, 103, 104, 105, 106, 48, 49, 50, 51, 52, 53, 54, 55, 56, 57]⟩ : ByteArray).extract 0 18).size + 6) = False := eq_false (fun h_ => absurd c70 (by simp only [ByteArray.size_append]; exact Nat.not_le.2 h_))
                                      obtain ⟨y252, hy252⟩ : ∃ y_ : List ByteArray, y_ = (([(⟨#[97, 98, 99, 100, 101, 102, 103, 104, 105, 106, 48, 49, 50, 51, 52, 53, 54, 55, 56, 57]⟩ : ByteArray), (⟨#[97, 98, 99, 100, 101, 102, 103, 104, 105, 106, 48, 49, 50, 51, 52, 53, 54, 55, 56, 57]⟩ : ByteArray) ++ (⟨#[120]⟩ : ByteArray), ((((⟨#[97, 98, 99, 100, 101, 102, 103, 104, 105, 106, 48, 49, 50, 51, 52, 53, 54, 55, 56, 57]⟩ : ByteArray) ++ (⟨#[46]⟩ : ByteArray)) ++ (⟨#[97, 98, 99, 100, 101, 102, 103, 104, 105, 106, 48, 49, 50, 51, 52, 53, 54, 55, 56, 57]⟩ : ByteArray)) ++ (⟨#[46]⟩ : ByteArray)) ++ ((⟨#[97, 98, 99, 100, 101, 102, 103, 104, 105, 106, 48, 49, 50, 51, 52, 53, 54, 55, 56, 57]⟩ : ByteArray).extract 0 18), (((((⟨#[97, 98, 99, 100, 101, 102, 103, 104, 105, 106, 48, 49, 50, 51, 52, 53, 54, 55, 56, 57]⟩ : ByteArray) ++ (⟨#[46]⟩ : ByteArray)) ++ (⟨#[97, 98, 99, 100, 101, 102, 103, 104, 105, 106, 48, 49, 50, 51, 52, 53, 54, 55, 56, 57]⟩ : ByteArray)) ++ (⟨#[46]⟩ : ByteArray)) ++ ((⟨#[97, 98, 99, 100, 101, 102, 103, 104, 105, 106, 48, 49, 50, 51, 52, 53, 54, 55, 56, 57]⟩ : ByteArray).extract 0 18)) ++ (⟨#[120]⟩ : ByteArray), ((((((⟨#[97, 98, 99, 100, 101, 102, 103, 104, 105, 106, 48, 49, 50, 51, 52, 53, 54, 55, 56, 57]⟩ : ByteArray) ++ (⟨#[46]⟩ : ByteArray)) ++ (⟨#[97, 98, 99, 100, 101, 102, 103, 104, 105, 106, 48, 49, 50, 51, 52, 53, 54, 55, 56, 57]⟩ : ByteArray)) ++ (⟨#[46]⟩ : ByteArray)) ++ ((⟨#[97, 98, 99, 100, 101, 102, 103, 104, 105, 106, 48, 49, 50, 51, 52, 53, 54, 55, 56, 57]⟩ : ByteArray).extract 0 18)).extract 0 59) ++ (⟨#[46]⟩ : ByteArray), (⟨#[42, 46]⟩ : ByteArray) ++ ((((((⟨#[97, 98, 99, 100, 101, 102, 103, 104, 105, 106, 48, 49, 50, 51, 52, 53, 54, 55, 56, 57]⟩ : ByteArray) ++ (⟨#[46]⟩ : ByteArray)) ++ (⟨#[97, 98, 99, 100, 101, 102, 103, 104, 105, 106, 48, 49, 50, 51, 52, 53, 54, 55, 56, 57]⟩ : ByteArray)) ++ (⟨#[46]⟩ : ByteArray)) ++ ((⟨#[97, 98, 99, 100, 101, 102, 103, 104, 105, 106, 48, 49, 50, 51, 52, 53, 54, 55, 56, 57]⟩ : ByteArray).extract 0 18)).extract 0 58), (⟨#[42, 46]⟩ : ByteArray) ++ ((((((⟨#[97, 98, 99, 100, 101, 102, 103, 104, 105, 106, 48, 49, 50, 51, 52, 53, 54, 55, 56, 57]⟩ : ByteArray) ++ (⟨#[46]⟩ : ByteArray)) ++ (⟨#[97, 98, 99, 100, 101, 102, 103, 104, 105, 106, 48, 49, 50, 51, 52, 53, 54, 55, 56, 57]⟩ : ByteArray)) ++ (⟨#[46]⟩ : ByteArray)) ++ ((⟨#[97, 98, 99, 100, 101, 102, 103, 104, 105, 106, 48, 49, 50, 51, 52, 53, 54, 55, 56, 57]⟩ : ByteArray).extract 0 18)).extract 0 59), (⟨#[42, 46]⟩ : ByteArray), (⟨#[42]⟩ : ByteArray), (⟨#[42, 46, 42, 46, 97]⟩ : ByteArray), (⟨#[97, 46, 42, 46, 98]⟩ : ByteArray), (⟨#[97, 58, 49]⟩ : ByteArray), (⟨#[97, 58, 54, 53, 53, 51, 53]⟩ : ByteArray), (⟨#[97, 58, 54, 53, 53, 51, 54]⟩ : ByteArray), (⟨#[97, 58, 57, 57, 57, 57, 57]⟩ : ByteArray), (⟨#[97, 58, 48, 56, 48]⟩ : ByteArray), (⟨#[97, 58, 56, 32]⟩ : ByteArray), (⟨#[97, 58, 58, 49]⟩ : ByteArray), (⟨#[58, 56, 48]⟩ : ByteArray), (⟨#[97, 58, 56, 48, 58, 56, 48]⟩ : ByteArray), (⟨#[65, 58, 49]⟩ : ByteArray), (⟨#[97, 46]⟩ : ByteArray), (⟨#[46, 97]⟩ : ByteArray), (⟨#[97, 45]⟩ : ByteArray), (⟨#[97, 45, 46, 98]⟩ : ByteArray), (⟨#[120, 110, 45, 45, 97]⟩ : ByteArray), (((((⟨#[97, 98, 99, 100, 101, 102, 103, 104, 105, 106, 48, 49, 50, 51, 52, 53, 54, 55, 56, 57]⟩ : ByteArray) ++ (⟨#[46]⟩ : ByteArray)) ++ (⟨#[97, 98, 99, 100, 101, 102, 103, 104, 105, 106, 48, 49, 50, 51, 52, 53, 54, 55, 56, 57]⟩ : ByteArray)) ++ (⟨#[46]⟩ : ByteArray)) ++ ((⟨#[97, 98, 99, 100, 101, 102, 103, 104, 105, 106, 48, 49, 50, 51, 52, 53, 54, 55, 56, 57]⟩ : ByteArray).extract 0 18)) ++ (⟨#[58, 54, 53, 53, 51, 53]⟩ : ByteArray)] : List ByteArray)) := ⟨_, rfl⟩
                                      replace H : (chinoiserielaw06_HostKnown.l1 k1 y252 0) = some r := by first | (rw [hy252]; with_reducible exact H) | (have H2_ := (Option.bind_some _ _).symm.trans H; rw [hy252]; with_reducible exact H2_) | (have H2_ := (Option.bind_some _ _).symm.trans H; with_reducible exact H2_) | with_reducible exact H | (rw [hy252]; exact H) | exact H
                                      have Ny252 := Aside0.mk hy252
                                      clear hy252
                                      have H' := Aside0.mk H
                                      clear H
                                      try go_wp2
                                      have n0_ := Aside0.mk (below_drew1 HB.out)
                                      clear HB
                                      have HB := n0_
                                      clear n0_
                                      refine start_ (n := 19) (S := fun w' => True) (ds := []) #[false, false, false, false, false, false, false, false, false, false, false, false, false, false, false, false, false, false, false] (by kernel_rfl) rfl rfl trivial (fun hHeld => ?_); refine with_tabW chinoiserielaw06_HostKnown.tab9 chinoiserielaw06_HostKnown.bits9 (fun HT_ HW_ => ?_)
                                      generalize wr.drew = w71 at HB hHeld ⊢
                                      refine pure_ (i := 0) (N := some 58) (v := ?_) (a' := ?_) #[true, false, false, false, false, false, false, false, false, false, false, false, false, false, false, false, false, false, false] rfl rfl (any_of HT_.out (by kernel_rfl)) (fun _ _ _ h => h) (Or.inl ⟨by rfl, ?_⟩) ?_ ?_
                                      rotate_left
                                      · intro w'
                                        go_simp
                                        with_reducible rfl
                                      rotate_left
                                      · simp only [Act.put, List.setIfInBounds_toArray, List.set_cons_zero, List.set_cons_succ, i64_w, i32_w]
                                        rfl
                                      refine pure_ (i := 1) (N := some 59) (v := ?_) (a' := ?_) #[true, true, false, false, false, false, false, false, false, false, false, false, false, false, false, false, false, false, false] rfl rfl (any_of HT_.out (by kernel_rfl)) (fun _ _ _ h => h) (Or.inl ⟨by rfl, ?_⟩) ?_ ?_
                                      rotate_left
                                      · intro w'
                                        go_simp
                                        with_reducible rfl
                                      rotate_left
                                      · simp only [Act.put, List.setIfInBounds_toArray, List.set_cons_zero, List.set_cons_succ, i64_w, i32_w]
                                        rfl
                                      refine pure_ (i := 2) (N := some 60) (v := ?_) (a' := ?_) #[true, true, true, false, false, false, false, false, false, false, false, false, false, false, false, false, false, false, false] rfl rfl (any_of HT_.out (by kernel_rfl)) (fun _ _ _ h => h) (Or.inl ⟨by rfl, ?_⟩) ?_ ?_
                                      rotate_left
                                      · intro w'
                                        go_simp
                                        with_reducible rfl
                                      rotate_left
                                      · simp only [Act.put, List.setIfInBounds_toArray, List.set_cons_zero, List.set_cons_succ, i64_w, i32_w]
                                        rfl
                                      refine pure_ (i := 3) (N := some 61) (v := ?_) (a' := ?_) #[true, true, true, true, false, false, false, false, false, false, false, false, false, false, false, false, false, false, false] rfl rfl (any_of HT_.out (by kernel_rfl)) (fun _ _ _ h => h) (Or.inl ⟨by rfl, ?_⟩) ?_ ?_
                                      rotate_left
                                      · intro w'
                                        go_simp
                                        with_reducible rfl
                                      rotate_left
                                      · simp only [Act.put, List.setIfInBounds_toArray, List.set_cons_zero, List.set_cons_succ, i64_w, i32_w]
                                        rfl
                                      refine pure_ (i := 4) (N := some 62) (v := ?_) (a' := ?_) #[true, true, true, true, true, false, false, false, false, false, false, false, false, false, false, false, false, false, false] rfl rfl (any_of HT_.out (by kernel_rfl)) (fun _ _ _ h => h) (Or.inl ⟨by rfl, ?_⟩) ?_ ?_
                                      rotate_left
                                      · intro w'
                                        go_simp
                                        with_reducible rfl
                                      rotate_left
                                      · simp only [Act.put, List.setIfInBounds_toArray, List.set_cons_zero, List.set_cons_succ, i64_w, i32_w]
                                        rfl
                                      refine pure_ (i := 5) (N := some 63) (v := ?_) (a' := ?_) #[true, true, true, true, true, true, false, false, false, false, false, false, false, false, false, false, false, false, false] rfl rfl (any_of HT_.out (by kernel_rfl)) (fun _ _ _ h => h) (Or.inl ⟨by rfl, ?_⟩) ?_ ?_
                                      rotate_left
                                      · intro w'
                                        go_simp
                                        with_reducible rfl
                                      rotate_left
                                      · simp only [Act.put, List.setIfInBounds_toArray, List.set_cons_zero, List.set_cons_succ, i64_w, i32_w]
                                        rfl
                                      refine pure_ (i := 6) (N := some 64) (v := ?_) (a' := ?_) #[true, true, true, true, true, true, true, false, false, false, false, false, false, false, false, false, false, false, false] rfl rfl (any_of HT_.out (by kernel_rfl)) (fun _ _ _ h => h) (Or.inl ⟨by rfl, ?_⟩) ?_ ?_
                                      rotate_left
                                      · intro w'
                                        go_simp
                                        with_reducible rfl
                                      rotate_left
                                      · simp only [Act.put, List.setIfInBounds_toArray, List.set_cons_zero, List.set_cons_succ, i64_w, i32_w]
                                        rfl
                                      refine pure_ (i := 7) (N := some 65) (v := ?_) (a' := ?_) #[true, true, true, true, true, true, true, true, false, false, false, false, false, false, false, false, false, false, false] rfl rfl (any_of HT_.out (by kernel_rfl)) (fun _ _ _ h => h) (Or.inl ⟨by rfl, ?_⟩) ?_ ?_
                                      rotate_left
                                      · intro w'
                                        go_simp
                                        with_reducible rfl
                                      rotate_left
                                      · simp only [Act.put, List.setIfInBounds_toArray, List.set_cons_zero, List.set_cons_succ, i64_w, i32_w]
                                        rfl
                                      refine pure_ (i := 8) (N := some 66) (v := ?_) (a' := ?_) #[true, true, true, true, true, true, true, true, true, false, false, false, false, false, false, false, false, false, false] rfl rfl (any_of HT_.out (by kernel_rfl)) (fun _ _ _ h => h) (Or.inl ⟨by rfl, ?_⟩) ?_ ?_
                                      rotate_left
                                      · intro w'
                                        go_simp
                                        with_reducible rfl
                                      rotate_left
                                      · simp only [Act.put, List.setIfInBounds_toArray, List.set_cons_zero, List.set_cons_succ, i64_w, i32_w]
                                        rfl
                                      refine pure_ (i := 9) (N := some 67) (v := ?_) (a' := ?_) #[true, true, true, true, true, true, true, true, true, true, false, false, false, false, false, false, false, false, false] rfl rfl (any_of HT_.out (by kernel_rfl)) (fun _ _ _ h => h) (Or.inl ⟨by rfl, ?_⟩) ?_ ?_
                                      rotate_left
                                      · intro w'
                                        go_simp
                                        with_reducible rfl
                                      rotate_left
                                      · simp only [Act.put, List.setIfInBounds_toArray, List.set_cons_zero, List.set_cons_succ, i64_w, i32_w]
                                        rfl
                                      refine pure_ (i := 10) (N := some 68) (v := ?_) (a' := ?_) #[true, true, true, true, true, true, true, true, true, true, true, false, false, false, false, false, false, false, false] rfl rfl (any_of HT_.out (by kernel_rfl)) (fun _ _ _ h => h) (Or.inl ⟨by rfl, ?_⟩) ?_ ?_
                                      rotate_left
                                      · intro w'
                                        go_simp
                                        with_reducible rfl
                                      rotate_left
                                      · simp only [Act.put, List.setIfInBounds_toArray, List.set_cons_zero, List.set_cons_succ, i64_w, i32_w]
                                        rfl
                                      refine pure_ (i := 11) (N := some 69) (v := ?_) (a' := ?_) #[true, true, true, true, true, true, true, true, true, true, true, true, false, false, false, false, false, false, false] rfl rfl (any_of HT_.out (by kernel_rfl)) (fun _ _ _ h => h) (Or.inl ⟨by rfl, ?_⟩) ?_ ?_
                                      rotate_left
                                      · intro w'
                                        go_simp
                                        with_reducible rfl
                                      rotate_left
                                      · simp only [Act.put, List.setIfInBounds_toArray, List.set_cons_zero, List.set_cons_succ, i64_w, i32_w]
                                        rfl
                                      refine pure_ (i := 12) (N := some 70) (v := ?_) (a' := ?_) #[true, true, true, true, true, true, true, true, true, true, true, true, true, false, false, false, false, false, false] rfl rfl (any_of HT_.out (by kernel_rfl)) (fun _ _ _ h => h) (Or.inl ⟨by rfl, ?_⟩) ?_ ?_
                                      rotate_left
                                      · intro w'
                                        go_simp
                                        with_reducible rfl
                                      rotate_left
                                      · simp only [Act.put, List.setIfInBounds_toArray, List.set_cons_zero, List.set_cons_succ, i64_w, i32_w]
                                        rfl
                                      refine pure_ (i := 13) (N := some 71) (v := ?_) (a' := ?_) #[true, true, true, true, true, true, true, true, true, true, true, true, true, true, false, false, false, false, false] rfl rfl (any_of HT_.out (by kernel_rfl)) (fun _ _ _ h => h) (Or.inl ⟨by rfl, ?_⟩) ?_ ?_
                                      rotate_left
                                      · intro w'
                                        go_simp
                                        with_reducible rfl
                                      rotate_left
                                      · simp only [Act.put, List.setIfInBounds_toArray, List.set_cons_zero, List.set_cons_succ, i64_w, i32_w]
                                        rfl
                                      refine pure_ (i := 14) (N := some 72) (v := ?_) (a' := ?_) #[true, true, true, true, true, true, true, true, true, true, true, true, true, true, true, false, false, false, false] rfl rfl (any_of HT_.out (by kernel_rfl)) (fun _ _ _ h => h) (Or.inl ⟨by rfl, ?_⟩) ?_ ?_
                                      rotate_left
                                      · intro w'
                                        go_simp
                                        with_reducible rfl
                                      rotate_left
                                      · simp only [Act.put, List.setIfInBounds_toArray, List.set_cons_zero, List.set_cons_succ, i64_w, i32_w]
                                        rfl
                                      refine pure_ (i := 15) (N := some 73) (v := ?_) (a' := ?_) #[true, true, true, true, true, true, true, true, true, true, true, true, true, true, true, true, false, false, false] rfl rfl (any_of HT_.out (by kernel_rfl)) (fun _ _ _ h => h) (Or.inl ⟨by rfl, ?_⟩) ?_ ?_
                                      rotate_left
                                      · intro w'
                                        go_simp
                                        with_reducible rfl
                                      rotate_left
                                      · simp only [Act.put, List.setIfInBounds_toArray, List.set_cons_zero, List.set_cons_succ, i64_w, i32_w]
                                        rfl
                                      refine pure_ (i := 16) (N := some 74) (v := ?_) (a' := ?_) #[true, true, true, true, true, true, true, true, true, true, true, true, true, true, true, true, true, false, false] rfl rfl (any_of HT_.out (by kernel_rfl)) (fun _ _ _ h => h) (Or.inl ⟨by rfl, ?_⟩) ?_ ?_
                                      rotate_left
                                      · intro w'
                                        go_simp
                                        with_reducible rfl
                                      rotate_left
                                      · simp only [Act.put, List.setIfInBounds_toArray, List.set_cons_zero, List.set_cons_succ, i64_w, i32_w]
                                        rfl
                                      refine one_ (i := 17) (N := some 75) #[true, true, true, true, true, true, true, true, true, true, true, true, true, true, true, true, true, true, false] rfl rfl (one_of HT_.out (by kernel_rfl)) (by decide) (fun K hK => ?_)
                                      refine Kd.R_lit_step Kd.string _ 9 ?hg (N := 75) ?hd (xs := ([(⟨#[97, 98, 99, 100, 101, 102, 103, 104, 105, 106, 48, 49, 50, 51, 52, 53, 54, 55, 56, 57]⟩ : ByteArray), (⟨#[97, 98, 99, 100, 101, 102, 103, 104, 105, 106, 48, 49, 50, 51, 52, 53, 54, 55, 56, 57]⟩ : ByteArray) ++ (⟨#[120]⟩ : ByteArray), ((((⟨#[97, 98, 99, 100, 101, 102, 103, 104, 105, 106, 48, 49, 50, 51, 52, 53, 54, 55, 56, 57]⟩ : ByteArray) ++ (⟨#[46]⟩ : ByteArray)) ++ (⟨#[97, 98, 99, 100, 101, 102, 103, 104, 105, 106, 48, 49, 50, 51, 52, 53, 54, 55, 56, 57]⟩ : ByteArray)) ++ (⟨#[46]⟩ : ByteArray)) ++ ((⟨#[97, 98, 99, 100, 101, 102, 103, 104, 105, 106, 48, 49, 50, 51, 52, 53, 54, 55, 56, 57]⟩ : ByteArray).extract 0 18), (((((⟨#[97, 98, 99, 100, 101, 102, 103, 104, 105, 106, 48, 49, 50, 51, 52, 53, 54, 55, 56, 57]⟩ : ByteArray) ++ (⟨#[46]⟩ : ByteArray)) ++ (⟨#[97, 98, 99, 100, 101, 102, 103, 104, 105, 106, 48, 49, 50, 51, 52, 53, 54, 55, 56, 57]⟩ : ByteArray)) ++ (⟨#[46]⟩ : ByteArray)) ++ ((⟨#[97, 98, 99, 100, 101, 102, 103, 104, 105, 106, 48, 49, 50, 51, 52, 53, 54, 55, 56, 57]⟩ : ByteArray).extract 0 18)) ++ (⟨#[120]⟩ : ByteArray), ((((((⟨#[97, 98, 99, 100, 101, 102, 103, 104, 105, 106, 48, 49, 50, 51, 52, 53, 54, 55, 56, 57]⟩ : ByteArray) ++ (⟨#[46]⟩ : ByteArray)) ++ (⟨#[97, 98, 99, 100, 101, 102, 103, 104, 105, 106, 48, 49, 50, 51, 52, 53, 54, 55, 56, 57]⟩ : ByteArray)) ++ (⟨#[46]⟩ : ByteArray)) ++ ((⟨#[97, 98, 99, 100, 101, 102, 103, 104, 105, 106, 48, 49, 50, 51, 52, 53, 54, 55, 56, 57]⟩ : ByteArray).extract 0 18)).extract 0 59) ++ (⟨#[46]⟩ : ByteArray), (⟨#[42, 46]⟩ : ByteArray) ++ ((((((⟨#[97, 98, 99, 100, 101, 102, 103, 104, 105, 106, 48, 49, 50, 51, 52, 53, 54, 55, 56, 57]⟩ : ByteArray) ++ (⟨#[46]⟩ : ByteArray)) ++ (⟨#[97, 98, 99, 100, 101, 102, 103, 104, 105, 106, 48, 49, 50, 51, 52, 53, 54, 55, 56, 57]⟩ : ByteArray)) ++ (⟨#[46]⟩ : ByteArray)) ++ ((⟨#[97, 98, 99, 100, 101, 102, 103, 104, 105, 106, 48, 49, 50, 51, 52, 53, 54, 55, 56, 57]⟩ : ByteArray).extract 0 18)).extract 0 58), (⟨#[42, 46]⟩ : ByteArray) ++ ((((((⟨#[97, 98, 99, 100, 101, 102, 103, 104, 105, 106, 48, 49, 50, 51, 52, 53, 54, 55, 56, 57]⟩ : ByteArray) ++ (⟨#[46]⟩ : ByteArray)) ++ (⟨#[97, 98, 99, 100, 101, 102, 103, 104, 105, 106, 48, 49, 50, 51, 52, 53, 54, 55, 56, 57]⟩ : ByteArray)) ++ (⟨#[46]⟩ : ByteArray)) ++ ((⟨#[97, 98, 99, 100, 101, 102, 103, 104, 105, 106, 48, 49, 50, 51, 52, 53, 54, 55, 56, 57]⟩ : ByteArray).extract 0 18)).extract 0 59), (⟨#[42, 46]⟩ : ByteArray), (⟨#[42]⟩ : ByteArray), (⟨#[42, 46, 42, 46, 97]⟩ : ByteArray), (⟨#[97, 46, 42, 46, 98]⟩ : ByteArray), (⟨#[97, 58, 49]⟩ : ByteArray), (⟨#[97, 58, 54, 53, 53, 51, 53]⟩ : ByteArray), (⟨#[97, 58, 54, 53, 53, 51, 54]⟩ : ByteArray), (⟨#[97, 58, 57, 57, 57, 57, 57]⟩ : ByteArray), (⟨#[97, 58, 48, 56, 48]⟩ : ByteArray), (⟨#[97, 58, 56, 32]⟩ : ByteArray), (⟨#[97, 58, 58, 49]⟩ : ByteArray), (⟨#[58, 56, 48]⟩ : ByteArray), (⟨#[97, 58, 56, 48, 58, 56, 48]⟩ : ByteArray), (⟨#[65, 58, 49]⟩ : ByteArray), (⟨#[97, 46]⟩ : ByteArray), (⟨#[46, 97]⟩ : ByteArray), (⟨#[97, 45]⟩ : ByteArray), (⟨#[97, 45, 46, 98]⟩ : ByteArray), (⟨#[120, 110, 45, 45, 97]⟩ : ByteArray), (((((⟨#[97, 98, 99, 100, 101, 102, 103, 104, 105, 106, 48, 49, 50, 51, 52, 53, 54, 55, 56, 57]⟩ : ByteArray) ++ (⟨#[46]⟩ : ByteArray)) ++ (⟨#[97, 98, 99, 100, 101, 102, 103, 104, 105, 106, 48, 49, 50, 51, 52, 53, 54, 55, 56, 57]⟩ : ByteArray)) ++ (⟨#[46]⟩ : ByteArray)) ++ ((⟨#[97, 98, 99, 100, 101, 102, 103, 104, 105, 106, 48, 49, 50, 51, 52, 53, 54, 55, 56, 57]⟩ : ByteArray).extract 0 18)) ++ (⟨#[58, 54, 53, 53, 51, 53]⟩ : ByteArray)] : List ByteArray)) (inner := [.string (⟨#[97, 98, 99, 100, 101, 102, 103, 104, 105, 106, 48, 49, 50, 51, 52, 53, 54, 55, 56, 57]⟩ : ByteArray), .string ((⟨#[97, 98, 99, 100, 101, 102, 103, 104, 105, 106, 48, 49, 50, 51, 52, 53, 54, 55, 56, 57]⟩ : ByteArray) ++ (⟨#[120]⟩ : ByteArray)), .string (((((⟨#[97, 98, 99, 100, 101, 102, 103, 104, 105, 106, 48, 49, 50, 51, 52, 53, 54, 55, 56, 57]⟩ : ByteArray) ++ (⟨#[46]⟩ : ByteArray)) ++ (⟨#[97, 98, 99, 100, 101, 102, 103, 104, 105, 106, 48, 49, 50, 51, 52, 53, 54, 55, 56, 57]⟩ : ByteArray)) ++ (⟨#[46]⟩ : ByteArray)) ++ ((⟨#[97, 98, 99, 100, 101, 102, 103, 104, 105, 106, 48, 49, 50, 51, 52, 53, 54, 55, 56, 57]⟩ : ByteArray).extract 0 18)), .string ((((((⟨#[97, 98, 99, 100, 101, 102, 103, 104, 105, 106, 48, 49, 50, 51, 52, 53, 54, 55, 56, 57]⟩ : ByteArray) ++ (⟨#[46]⟩ : ByteArray)) ++ (⟨#[97, 98, 99, 100, 101, 102, 103, 104, 105, 106, 48, 49, 50, 51, 52, 53, 54, 55, 56, 57]⟩ : ByteArray)) ++ (⟨#[46]⟩ : ByteArray)) ++ ((⟨#[97, 98, 99, 100, 101, 102, 103, 104, 105, 106, 48, 49, 50, 51, 52, 53, 54, 55, 56, 57]⟩ : ByteArray).extract 0 18)) ++ (⟨#[120]⟩ : ByteArray)), .string (((((((⟨#[97, 98, 99, 100, 101, 102, 103, 104, 105, 106, 48, 49, 50, 51, 52, 53, 54, 55, 56, 57]⟩ : ByteArray) ++ (⟨#[46]⟩ : ByteArray)) ++ (⟨#[97, 98, 99, 100, 101, 102, 103, 104, 105, 106, 48, 49, 50, 51, 52, 53, 54, 55, 56, 57]⟩ : ByteArray)) ++ (⟨#[46]⟩ : ByteArray)) ++ ((⟨#[97, 98, 99, 100, 101, 102, 103, 104, 105, 106, 48, 49, 50, 51, 52, 53, 54, 55, 56, 57]⟩ : ByteArray).extract 0 18)).extract 0 59) ++ (⟨#[46]⟩ : ByteArray)), .string ((⟨#[42, 46]⟩ : ByteArray) ++ ((((((⟨#[97, 98, 99, 100, 101, 102, 103, 104, 105, 106, 48, 49, 50, 51, 52, 53, 54, 55, 56, 57]⟩ : ByteArray) ++ (⟨#[46]⟩ : ByteArray)) ++ (⟨#[97, 98, 99, 100, 101, 102, 103, 104, 105, 106, 48, 49, 50, 51, 52, 53, 54, 55, 56, 57]⟩ : ByteArray)) ++ (⟨#[46]⟩ : ByteArray)) ++ ((⟨#[97, 98, 99, 100, 101, 102, 103, 104, 105, 106, 48, 49, 50, 51, 52, 53, 54, 55, 56, 57]⟩ : ByteArray).extract 0 18)).extract 0 58)), .string ((⟨#[42, 46]⟩ : ByteArray) ++ ((((((⟨#[97, 98, 99, 100, 101, 102, 103, 104, 105, 106, 48, 49, 50, 51, 52, 53, 54, 55, 56, 57]⟩ : ByteArray) ++ (⟨#[46]⟩ : ByteArray)) ++ (⟨#[97, 98, 99, 100, 101, 102, 103, 104, 105, 106, 48, 49, 50, 51, 52, 53, 54, 55, 56, 57]⟩ : ByteArray)) ++ (⟨#[46]⟩ : ByteArray)) ++ ((⟨#[97, 98, 99, 100, 101, 102, 103, 104, 105, 106, 48, 49, 50, 51, 52, 53, 54, 55, 56, 57]⟩ : ByteArray).extract 0 18)).extract 0 59)), .string (⟨#[42, 46]⟩ : ByteArray), .string (⟨#[42]⟩ : ByteArray), .string (⟨#[42, 46, 42, 46, 97]⟩ : ByteArray), .string (⟨#[97, 46, 42, 46, 98]⟩ : ByteArray), .string (⟨#[97, 58, 49]⟩ : ByteArray), .string (⟨#[97, 58, 54, 53, 53, 51, 53]⟩ : ByteArray), .string (⟨#[97, 58, 54, 53, 53, 51, 54]⟩ : ByteArray), .string (⟨#[97, 58, 57, 57, 57, 57, 57]⟩ : ByteArray), .string (⟨#[97, 58, 48, 56, 48]⟩ : ByteArray), .string (⟨#[97, 58, 56, 32]⟩ : ByteArray), .string (⟨#[97, 58, 58, 49]⟩ : ByteArray), .string (⟨#[58, 56, 48]⟩ : ByteArray), .string (⟨#[97, 58, 56, 48, 58, 56, 48]⟩ : ByteArray), .string (⟨#[65, 58, 49]⟩ : ByteArray), .string (⟨#[97, 46]⟩ : ByteArray), .string (⟨#[46, 97]⟩ : ByteArray), .string (⟨#[97, 45]⟩ : ByteArray), .string (⟨#[97, 45, 46, 98]⟩ : ByteArray), .string (⟨#[120, 110, 45, 45, 97]⟩ : ByteArray), .string ((((((⟨#[97, 98, 99, 100, 101, 102, 103, 104, 105, 106, 48, 49, 50, 51, 52, 53, 54, 55, 56, 57]⟩ : ByteArray) ++ (⟨#[46]⟩ : ByteArray)) ++ (⟨#[97, 98, 99, 100, 101, 102, 103, 104, 105, 106, 48, 49, 50, 51, 52, 53, 54, 55, 56, 57]⟩ : ByteArray)) ++ (⟨#[46]⟩ : ByteArray)) ++ ((⟨#[97, 98, 99, 100, 101, 102, 103, 104, 105, 106, 48, 49, 50, 51, 52, 53, 54, 55, 56, 57]⟩ : ByteArray).extract 0 18)) ++ (⟨#[58, 54, 53, 53, 51, 53]⟩ : ByteArray))]) (ok := fun _ => True) (okp := fun _ => True) ?hr ?hp (fun _ hk => hk) trivial (Below.refl _ _) (Nat.le_refl _) (by simp) ?_; (case hd => rfl); (case hg => rfl); (case hr => first | (go_simp; done) | (go_simp; rfl)); (case hp => exact (Reps.one (show Kd.M Kd.string _ _ _ (⟨#[97, 98, 99, 100, 101, 102, 103, 104, 105, 106, 48, 49, 50, 51, 52, 53, 54, 55, 56, 57]⟩ : ByteArray) [.string (⟨#[97, 98, 99, 100, 101, 102, 103, 104, 105, 106, 48, 49, 50, 51, 52, 53, 54, 55, 56, 57]⟩ : ByteArray)] from rfl) (Reps.one (show Kd.M Kd.string _ _ _ ((⟨#[97, 98, 99, 100, 101, 102, 103, 104, 105, 106, 48, 49, 50, 51, 52, 53, 54, 55, 56, 57]⟩ : ByteArray) ++ (⟨#[120]⟩ : ByteArray)) [.string ((⟨#[97, 98, 99, 100, 101, 102, 103, 104, 105, 106, 48, 49, 50, 51, 52, 53, 54, 55, 56, 57]⟩ : ByteArray) ++ (⟨#[120]⟩ : ByteArray))] from rfl) (Reps.one (show Kd.M Kd.string _ _ _ (((((⟨#[97, 98, 99, 100, 101, 102, 103, 104, 105, 106, 48, 49, 50, 51, 52, 53, 54, 55, 56, 57]⟩ : ByteArray) ++ (⟨#[46]⟩ : ByteArray)) ++ (⟨#[97, 98, 99, 100, 101, 102, 103, 104, 105, 106, 48, 49, 50, 51, 52, 53, 54, 55, 56, 57]⟩ : ByteArray)) ++ (⟨#[46]⟩ : ByteArray)) ++ ((⟨#[97, 98, 99, 100, 101, 102, 103, 104, 105, 106, 48, 49, 50, 51, 52, 53, 54, 55, 56, 57]⟩ : ByteArray).extract 0 18)) [.string (((((⟨#[97, 98, 99, 100, 101, 102, 103, 104, 105, 106, 48, 49, 50, 51, 52, 53, 54, 55, 56, 57]⟩ : ByteArray) ++ (⟨#[46]⟩ : ByteArray)) ++ (⟨#[97, 98, 99, 100, 101, 102, 103, 104, 105, 106, 48, 49, 50, 51, 52, 53, 54, 55, 56, 57]⟩ : ByteArray)) ++ (⟨#[46]⟩ : ByteArray)) ++ ((⟨#[97, 98, 99, 100, 101, 102, 103, 104, 105, 106, 48, 49, 50, 51, 52, 53, 54, 55, 56, 57]⟩ : ByteArray).extract 0 18))] from rfl) (Reps.one (show Kd.M Kd.string _ _ _ ((((((⟨#[97, 98, 99, 100, 101, 102, 103, 104, 105, 106, 48, 49, 50, 51, 52, 53, 54, 55, 56, 57]⟩ : ByteArray) ++ (⟨#[46]⟩ : ByteArray)) ++ (⟨#[97, 98, 99, 100, 101, 102, 103, 104, 105, 106, 48, 49, 50, 51, 52, 53, 54, 55, 56, 57]⟩ : ByteArray)) ++ (⟨#[46]⟩ : ByteArray)) ++ ((⟨#[97, 98, 99, 100, 101, 102, 103, 104, 105, 106, 48, 49, 50, 51, 52, 53, 54, 55, 56, 57]⟩ : ByteArray).extract 0 18)) ++ (⟨#[120]⟩ : ByteArray)) [.string ((((((⟨#[97, 98, 99, 100, 101, 102, 103, 104, 105, 106, 48, 49, 50, 51, 52, 53, 54, 55, 56, 57]⟩ : ByteArray) ++ (⟨#[46]⟩ : ByteArray)) ++ (⟨#[97, 98, 99, 100, 101, 102, 103, 104, 105, 106, 48, 49, 50, 51, 52, 53, 54, 55, 56, 57]⟩ : ByteArray)) ++ (⟨#[46]⟩ : ByteArray)) ++ ((⟨#[97, 98, 99, 100, 101, 102, 103, 104, 105, 106, 48, 49, 50, 51, 52, 53, 54, 55, 56, 57]⟩ : ByteArray).extract 0 18)) ++ (⟨#[120]⟩ : ByteArray))] from rfl) (Reps.one (show Kd.M Kd.string _ _ _ (((((((⟨#[97, 98, 99, 100, 101, 102, 103, 104, 105, 106, 48, 49, 50, 51, 52, 53, 54, 55, 56, 57]⟩ : ByteArray) ++ (⟨#[46]⟩ : ByteArray)) ++ (⟨#[97, 98, 99, 100, 101, 102, 103, 104, 105, 106, 48, 49, 50, 51, 52, 53, 54, 55, 56, 57]⟩ : ByteArray)) ++ (⟨#[46]⟩ : ByteArray)) ++ ((⟨#[97, 98, 99, 100, 101, 102, 103, 104, 105, 106, 48, 49, 50, 51, 52, 53, 54, 55, 56, 57]⟩ : ByteArray).extract 0 18)).extract 0 59) ++ (⟨#[46]⟩ : ByteArray)) [.string (((((((⟨#[97, 98, 99, 100, 101, 102, 103, 104, 105, 106, 48, 49, 50, 51, 52, 53, 54, 55, 56, 57]⟩ : ByteArray) ++ (⟨#[46]⟩ : ByteArray)) ++ (⟨#[97, 98, 99, 100, 101, 102, 103, 104, 105, 106, 48, 49, 50, 51, 52, 53, 54, 55, 56, 57]⟩ : ByteArray)) ++ (⟨#[46]⟩ : ByteArray)) ++ ((⟨#[97, 98, 99, 100, 101, 102, 103, 104, 105, 106, 48, 49, 50, 51, 52, 53, 54, 55, 56, 57]⟩ : ByteArray).extract 0 18)).extract 0 59) ++ (⟨#[46]⟩ : ByteArray))] from rfl) (Reps.one (show Kd.M Kd.string _ _ _ ((⟨#[42, 46]⟩ : ByteArray) ++ ((((((⟨#[97, 98, 99, 100, 101, 102, 103, 104, 105, 106, 48, 49, 50, 51, 52, 53, 54, 55, 56, 57]⟩ : ByteArray) ++ (⟨#[46]⟩ : ByteArray)) ++ (⟨#[97, 98, 99, 100, 101, 102, 103, 104, 105, 106, 48, 49, 50, 51, 52, 53, 54, 55, 56, 57]⟩ : ByteArray)) ++ (⟨#[46]⟩ : ByteArray)) ++ ((⟨#[97, 98, 99, 100, 101, 102, 103, 104, 105, 106, 48, 49, 50, 51, 52, 53, 54, 55, 56, 57]⟩ : ByteArray).extract 0 18)).extract 0 58)) [.string ((⟨#[42, 46]⟩ : ByteArray) ++ ((((((⟨#[97, 98, 99, 100, 101, 102, 103, 104, 105, 106, 48, 49, 50, 51, 52, 53, 54, 55, 56, 57]⟩ : ByteArray) ++ (⟨#[46]⟩ : ByteArray)) ++ (⟨#[97, 98, 99, 100, 101, 102, 103, 104, 105, 106, 48, 49, 50, 51, 52, 53, 54, 55, 56, 57]⟩ : ByteArray)) ++ (⟨#[46]⟩ : ByteArray)) ++ ((⟨#[97, 98, 99, 100, 101, 102, 103, 104, 105, 106, 48, 49, 50, 51, 52, 53, 54, 55, 56, 57]⟩ : ByteArray).extract 0 18)).extract 0 58))] from rfl) (Reps.one (show Kd.M Kd.string _ _ _ ((⟨#[42, 46]⟩ : ByteArray) ++ ((((((⟨#[97, 98, 99, 100, 101, 102, 103, 104, 105, 106, 48, 49, 50, 51, 52, 53, 54, 55, 56, 57]⟩ : ByteArray) ++ (⟨#[46]⟩ : ByteArray)) ++ (⟨#[97, 98, 99, 100, 101, 102, 103, 104, 105, 106, 48, 49, 50, 51, 52, 53, 54, 55, 56, 57]⟩ : ByteArray)) ++ (⟨#[46]⟩ : ByteArray)) ++ ((⟨#[97, 98, 99, 100, 101, 102, 103, 104, 105, 106, 48, 49, 50, 51, 52, 53, 54, 55, 56, 57]⟩ : ByteArray).extract 0 18)).extract 0 59)) [.string ((⟨#[42, 46]⟩ : ByteArray) ++ ((((((⟨#[97, 98, 99, 100, 101, 102, 103, 104, 105, 106, 48, 49, 50, 51, 52, 53, 54, 55, 56, 57]⟩ : ByteArray) ++ (⟨#[46]⟩ : ByteArray)) ++ (⟨#[97, 98, 99, 100, 101, 102, 103, 104, 105, 106, 48, 49, 50, 51, 52, 53, 54, 55, 56, 57]⟩ : ByteArray)) ++ (⟨#[46]⟩ : ByteArray)) ++ ((⟨#[97, 98, 99, 100, 101, 102, 103, 104, 105, 106, 48, 49, 50, 51, 52, 53, 54, 55, 56, 57]⟩ : ByteArray).extract 0 18)).extract 0 59))] from rfl) (Reps.one (show Kd.M Kd.string _ _ _ (⟨#[42, 46]⟩ : ByteArray) [.string (⟨#[42, 46]⟩ : ByteArray)] from rfl) (Reps.one (show Kd.M Kd.string _ _ _ (⟨#[42]⟩ : ByteArray) [.string (⟨#[42]⟩ : ByteArray)] from rfl) (Reps.one (show Kd.M Kd.string _ _ _ (⟨#[42, 46, 42, 46, 97]⟩ : ByteArray) [.string (⟨#[42, 46, 42, 46, 97]⟩ : ByteArray)] from rfl) (Reps.one (show Kd.M Kd.string _ _ _ (⟨#[97, 46, 42, 46, 98]⟩ : ByteArray) [.string (⟨#[97, 46, 42, 46, 98]⟩ : ByteArray)] from rfl) (Reps.one (show Kd.M Kd.string _ _ _ (⟨#[97, 58, 49]⟩ : ByteArray) [.string (⟨#[97, 58, 49]⟩ : ByteArray)] from rfl) (Reps.one (show Kd.M Kd.string _ _ _ (⟨#[97, 58, 54, 53, 53, 51, 53]⟩ : ByteArray) [.string (⟨#[97, 58, 54, 53, 53, 51, 53]⟩ : ByteArray)] from rfl) (Reps.one (show Kd.M Kd.string _ _ _ (⟨#[97, 58, 54, 53, 53, 51, 54]⟩ : ByteArray) [.string (⟨#[97, 58, 54, 53, 53, 51, 54]⟩ : ByteArray)] from rfl) (Reps.one (show Kd.M Kd.string _ _ _ (⟨#[97, 58, 57, 57, 57, 57, 57]⟩ : ByteArray) [.string (⟨#[97, 58, 57, 57, 57, 57, 57]⟩ : ByteArray)] from rfl) (Reps.one (show Kd.M Kd.string _ _ _ (⟨#[97, 58, 48, 56, 48]⟩ : ByteArray) [.string (⟨#[97, 58, 48, 56, 48]⟩ : ByteArray)] from rfl) (Reps.one (show Kd.M Kd.string _ _ _ (⟨#[97, 58, 56, 32]⟩ : ByteArray) [.string (⟨#[97, 58, 56, 32]⟩ : ByteArray)] from rfl) (Reps.one (show Kd.M Kd.string _ _ _ (⟨#[97, 58, 58, 49]⟩ : ByteArray) [.string (⟨#[97, 58, 58, 49]⟩ : ByteArray)] from rfl) (Reps.one (show Kd.M Kd.string _ _ _ (⟨#[58, 56, 48]⟩ : ByteArray) [.string (⟨#[58, 56, 48]⟩ : ByteArray)] from rfl) (Reps.one (show Kd.M Kd.string _ _ _ (⟨#[97, 58, 56, 48, 58, 56, 48]⟩ : ByteArray) [.string (⟨#[97, 58, 56, 48, 58, 56, 48]⟩ : ByteArray)] from rfl) (Reps.one (show Kd.M Kd.string _ _ _ (⟨#[65, 58, 49]⟩ : ByteArray) [.string (⟨#[65, 58, 49]⟩ : ByteArray)] from rfl) (Reps.one (show Kd.M Kd.string _ _ _ (⟨#[97, 46]⟩ : ByteArray) [.string (⟨#[97, 46]⟩ : ByteArray)] from rfl) (Reps.one (show Kd.M Kd.string _ _ _ (⟨#[46, 97]⟩ : ByteArray) [.string (⟨#[46, 97]⟩ : ByteArray)] from rfl) (Reps.one (show Kd.M Kd.string _ _ _ (⟨#[97, 45]⟩ : ByteArray) [.string (⟨#[97, 45]⟩ : ByteArray)] from rfl) (Reps.one (show Kd.M Kd.string _ _ _ (⟨#[97, 45, 46, 98]⟩ : ByteArray) [.string (⟨#[97, 45, 46, 98]⟩ : ByteArray)] from rfl) (Reps.one (show Kd.M Kd.string _ _ _ (⟨#[120, 110, 45, 45, 97]⟩ : ByteArray) [.string (⟨#[120, 110, 45, 45, 97]⟩ : ByteArray)] from rfl) (Reps.one (show Kd.M Kd.string _ _ _ ((((((⟨#[97, 98, 99, 100, 101, 102, 103, 104, 105, 106, 48, 49, 50, 51, 52, 53, 54, 55, 56, 57]⟩ : ByteArray) ++ (⟨#[46]⟩ : ByteArray)) ++ (⟨#[97, 98, 99, 100, 101, 102, 103, 104, 105, 106, 48, 49, 50, 51, 52, 53, 54, 55, 56, 57]⟩ : ByteArray)) ++ (⟨#[46]⟩ : ByteArray)) ++ ((⟨#[97, 98, 99, 100, 101, 102, 103, 104, 105, 106, 48, 49, 50, 51, 52, 53, 54, 55, 56, 57]⟩ : ByteArray).extract 0 18)) ++ (⟨#[58, 54, 53, 53, 51, 53]⟩ : ByteArray)) [.string ((((((⟨#[97, 98, 99, 100, 101, 102, 103, 104, 105, 106, 48, 49, 50, 51, 52, 53, 54, 55, 56, 57]⟩ : ByteArray) ++ (⟨#[46]⟩ : ByteArray)) ++ (⟨#[97, 98, 99, 100, 101, 102, 103, 104, 105, 106, 48, 49, 50, 51, 52, 53, 54, 55, 56, 57]⟩ : ByteArray)) ++ (⟨#[46]⟩ : ByteArray)) ++ ((⟨#[97, 98, 99, 100, 101, 102, 103, 104, 105, 106, 48, 49, 50, 51, 52, 53, 54, 55, 56, 57]⟩ : ByteArray).extract 0 18)) ++ (⟨#[58, 54, 53, 53, 51, 53]⟩ : ByteArray))] from rfl) (Reps.none _ _)))))))))))))))))))))))))))))
                                      intro v253 w72 ho73 hb hg_ hnew_
                                      clear hg_ hnew_
                                      (first | rw [← Ny252.out] at ho73 | (simp only [Int.reduceToNat] at ho73; rw [← Ny252.out] at ho73))
                                      have n0_ := Aside0.mk (Kd.R_lower ho73 (below_size (by repeat (first | (with_reducible first | exact HB.out | apply below_alloc | apply pw_below_drewN | apply below_drew1) | exact HB.out))))
                                      have n1_ := Aside0.mk (below_step (by repeat (first | (with_reducible first | exact HB.out | apply below_alloc | apply pw_below_drewN | apply below_drew1) | exact HB.out)) hb)
                                      clear HB
                                      have HO254 := n0_
                                      have HB := n1_
                                      clear n0_ n1_
                                      clear hb ho73
                                      refine hK.out _ _ trivial (fun hHeld => ?_)
                                      clear hK K
                                      refine norm_ (a' := ?_) ?_ ?_
                                      rotate_left
                                      · show Act.put _ (some 75) _ = _
                                        simp only [Act.put, List.setIfInBounds_toArray, List.set_cons_zero, List.set_cons_succ, i64_w, i32_w]
                                        rfl
                                      refine pure_ (i := 18) (N := some 5) (v := ?_) (a' := ?_) #[true, true, true, true, true, true, true, true, true, true, true, true, true, true, true, true, true, true, true] rfl rfl (any_of HT_.out (by kernel_rfl)) (fun _ _ _ h => h) (Or.inl ⟨by rfl, ?_⟩) ?_ ?_
                                      rotate_left
                                      · intro w'
                                        go_simp
                                        with_reducible rfl
                                      rotate_left
                                      · simp only [Act.put, List.setIfInBounds_toArray, List.set_cons_zero, List.set_cons_succ, i64_w, i32_w]
                                        rfl
                                      refine done_ (done_of HT_.out (by kernel_rfl)) ?_
                                      try go_wp2
                                      go_loopg [6] k1 (fun kq v6 w' => ∃ (x6_2 : Int), v6 = .int .i64 x6_2 ∧ Aside0 (chinoiserielaw06_HostKnown.l1 kq y252 x6_2 = some r) ∧ Aside0 (kq ≤ k1) ∧ Aside0 (Kd.R Kd.string 9 w' w.heap.size (fun _ => True) v253 y252) ∧ Aside0 (Below w.heap.size w w'))
                                      case atStart => exact ⟨(0), (by first | rfl | (simp; done) | (simp [*]; done)), H', ⟨Nat.le_refl _⟩, ⟨by (with_reducible repeat (first | apply Kd.R_alloc | apply Kd.R_drewN | apply Kd.R_drew)); exact HO254.out⟩, ⟨by repeat (first | (with_reducible first | exact HB.out | apply below_alloc | apply pw_below_drewN | apply below_drew1) | exact HB.out)⟩⟩
                                      case round =>
                                        clear H'
                                        try clear c1
                                        try clear c1b0
                                        try clear hcv1
                                        try clear p2
                                        try clear hcv2
                                        try clear c3
                                        try clear hcv3
                                        try clear c4
                                        try clear c4b0
                                        try clear c4b1
                                        try clear c4b2
                                        try clear hcv4
                                        try clear c5
                                        try clear hcv5
                                        try clear c6
                                        try clear p6
                                        try clear c7
                                        try clear c7b0
                                        try clear c7b1
                                        try clear c7b2
                                        try clear c9
                                        try clear c10
                                        try clear c10b0
                                        try clear c10b1
                                        try clear c10b2
                                        try clear c12
                                        try clear c13
                                        try clear c13b0
                                        try clear c13b1
                                        try clear c13b2
                                        try clear c15
                                        try clear hcv18
                                        try clear hcv26
                                        try clear hcv34
                                        try clear hcv41
                                        try clear hcv47
                                        try clear hcv52
                                        try clear c54
                                        try clear c54b0
                                        try clear c54b1
                                        try clear c54b2
                                        try clear c55
                                        try clear c55b0
                                        try clear c55b1
                                        try clear c55b2
                                        try clear c56
                                        try clear c56b0
                                        try clear c56b1
                                        try clear c56b2
                                        try clear c57
                                        try clear c57b0
                                        try clear c57b1
                                        try clear c58
                                        try clear c58b0
                                        try clear c58b1
                                        try clear c59
                                        try clear c59b0
                                        try clear c59b1
                                        try clear c59b2
                                        try clear c60
                                        try clear c60b0
                                        try clear c60b1
                                        try clear c60b2
                                        try clear c61
                                        try clear c61b0
                                        try clear c61b1
                                        try clear c62
                                        try clear c62b0
                                        try clear c62b1
                                        try clear c63
                                        try clear c63b0
                                        try clear c63b1
                                        try clear c63b2
                                        try clear c64
                                        try clear c64b0
                                        try clear c64b1
                                        try clear p64
                                        try clear c65
                                        try clear c65b0
                                        try clear c65b1
                                        try clear c66
                                        try clear c66b0
                                        try clear c66b1
                                        try clear c66b2
                                        try clear c67
                                        try clear c67b0
                                        try clear c68
                                        try clear c68b0
                                        try clear c69
                                        try clear c69b0
                                        try clear c69b1
                                        try clear c69b2
                                        try clear c70
                                        try clear c70b0
                                        try clear c70b1
                                        try clear c70b2
                                        obtain ⟨x6_2, rfl, HA, HK2, HO_5, HB⟩ := hrel
                                        cases gk with
                                        | zero => exact absurd HA.out (by simp [chinoiserielaw06_HostKnown.l1])
                                        | succ k2 =>
                                          have H := HA.out
                                          clear HA
                                          simp only [chinoiserielaw06_HostKnown.l1] at H
                                          by_cases c74 : x6_2 < (y252.length : Int)
                                          · rw [if_pos c74] at H
                                            have c74b0 : decide (x6_2 < (y252.length : Int)) = true := decide_eq_true c74
                                            clear c74
                                            by_cases c75 : 0 ≤ x6_2
                                            · rw [if_pos c75] at H
                                              have c75b0 : decide (0 ≤ x6_2) = true := decide_eq_true c75
                                              clear c75
                                              replace H := Option.bind_eq_some_iff.mp H
                                              obtain ⟨t256, A760, H⟩ := H
                                              replace H : (if t256 = true then (chinoiserielaw06_HostKnown.l2 k2 y252 x6_2 0) else (some false)) = some r := H
                                              have A76 := Aside0.mk A760
                                              clear A760
                                              by_cases c77 : t256 = true
                                              · subst c77
                                                have H1 : (chinoiserielaw06_HostKnown.l2 k2 y252 x6_2 0) = some r := by rw [if_pos rfl] at H; exact H
                                                clear H
                                                have H := H1
                                                clear H1
                                                have H' := Aside0.mk H
                                                clear H
                                                obtain ⟨Ao78, co78, eo78⟩ := Kd.R_slice HO_5.out
                                                subst eo78
                                                have p255 : 0 ≤ (x6_2 : Int) := of_decide_eq_true (by first | (with_reducible assumption) | assumption)
                                                have q255 : x6_2 < (y252.length : Int) := of_decide_eq_true (by first | (with_reducible assumption) | assumption)
                                                obtain ⟨ad255, e255, hx255_0⟩ := Kd.at_string (Kd.R_reads' HO_5.out).2.2 x6_2 p255 q255
                                                cases e255
                                                replace p255 := eq_true p255
                                                replace q255 := eq_true q255
                                                go_wp2_with (first | ((with_reducible refine gate_callee (f := 3) rfl ?_); refine goesL_ (some 86) rfl rfl Tryd.func3 (by kernel_rfl) rfl #[.string (rdOf ByteArray.empty y252 x6_2)] rfl (by (try simp only [List.map_toArray, List.map_cons, List.map_nil]); first | done | rfl | (simp only [List.length_drop, List.length_take]; rfl)) ?_; (with_reducible refine (chinoiserielaw06_HostNorms.calls k2 (rdOf ByteArray.empty y252 x6_2) true _ A76.out).mono ?_); rintro e w79 ⟨rfl, hb⟩; refine ⟨_, rfl, ?_⟩; have n0_ := Aside0.mk (Kd.R_below (by (with_reducible repeat (first | apply Kd.R_alloc | apply Kd.R_drewN | apply Kd.R_drew)); exact HO_5.out) hb); have n1_ := Aside0.mk (below_step (by repeat (first | (with_reducible first | exact HB.out | apply below_alloc | apply pw_below_drewN | apply below_drew1) | exact HB.out)) hb); clear HO_5; clear HB; have HO_5 := n0_; have HB := n1_; clear n0_ n1_; (try clear hb); (try clear hb2); (try clear hk); (try clear hi)))
                                                go_loopg [7] k2 (fun kq v7 w' => ∃ (x7_3 : Int), v7 = .int .i64 x7_3 ∧ Aside0 (chinoiserielaw06_HostKnown.l2 kq y252 x6_2 x7_3 = some r) ∧ Aside0 (kq ≤ k2) ∧ Aside0 (Kd.R Kd.string 9 w' w.heap.size (fun _ => True) (.slice (some ad255) y252.length co78) y252) ∧ Aside0 (Below w.heap.size w w'))
                                                case atStart => exact ⟨(0), (by first | rfl | (simp; done) | (simp [*]; done)), H', ⟨Nat.le_refl _⟩, ⟨by (with_reducible repeat (first | apply Kd.R_alloc | apply Kd.R_drewN | apply Kd.R_drew)); exact HO_5.out⟩, ⟨by repeat (first | (with_reducible first | exact HB.out | apply below_alloc | apply pw_below_drewN | apply below_drew1) | exact HB.out)⟩⟩
                                                case round =>
                                                  clear H'
                                                  try clear c1
                                                  try clear c1b0
                                                  try clear hcv1
                                                  try clear p2
                                                  try clear q2
                                                  try clear hx2
                                                  try clear hcv2
                                                  try clear c3
                                                  try clear hcv3
                                                  try clear c4
                                                  try clear c4b0
                                                  try clear c4b1
                                                  try clear c4b2
                                                  try clear hcv4
                                                  try clear c5
                                                  try clear hcv5
                                                  try clear c6
                                                  try clear p6
                                                  try clear c7
                                                  try clear c7b0
                                                  try clear c7b1
                                                  try clear c7b2
                                                  try clear c9
                                                  try clear c10
                                                  try clear c10b0
                                                  try clear c10b1
                                                  try clear c10b2
                                                  try clear c12
                                                  try clear c13
                                                  try clear c13b0
                                                  try clear c13b1
                                                  try clear c13b2
                                                  try clear c15
                                                  try clear hcv18
                                                  try clear p25
                                                  try clear q25
                                                  try clear hx25
                                                  try clear hcv26
                                                  try clear hcv34
                                                  try clear hcv41
                                                  try clear hcv47
                                                  try clear hcv52
                                                  try clear c54
                                                  try clear c54b0
                                                  try clear c54b1
                                                  try clear c54b2
                                                  try clear c55
                                                  try clear c55b0
                                                  try clear c55b1
                                                  try clear c55b2
                                                  try clear c56
                                                  try clear c56b0
                                                  try clear c56b1
                                                  try clear c56b2
                                                  try clear c57
                                                  try clear c57b0
                                                  try clear c57b1
                                                  try clear c58
                                                  try clear c58b0
                                                  try clear c58b1
                                                  try clear c59
                                                  try clear c59b0
                                                  try clear c59b1
                                                  try clear c59b2
                                                  try clear c60
                                                  try clear c60b0
                                                  try clear c60b1
                                                  try clear c60b2
                                                  try clear c61
                                                  try clear c61b0
                                                  try clear c61b1
                                                  try clear c62
                                                  try clear c62b0
                                                  try clear c62b1
                                                  try clear c63
                                                  try clear c63b0
                                                  try clear c63b1
                                                  try clear c63b2
                                                  try clear c64
                                                  try clear c64b0
                                                  try clear c64b1
                                                  try clear p64
                                                  try clear c65
                                                  try clear c65b0
                                                  try clear c65b1
                                                  try clear c66
                                                  try clear c66b0
                                                  try clear c66b1
                                                  try clear c66b2
                                                  try clear c67
                                                  try clear c67b0
                                                  try clear c68
                                                  try clear c68b0
                                                  try clear c69
                                                  try clear c69b0
                                                  try clear c69b1
                                                  try clear c69b2
                                                  try clear c70
                                                  try clear c70b0
                                                  try clear c70b1
                                                  try clear c70b2
                                                  try clear c74
                                                  try clear c74b0
                                                  try clear c75
                                                  try clear c75b0
                                                  try clear c77
                                                  try clear hx255_0
                                                  try clear p2
                                                  try clear p255
                                                  try clear p6
                                                  try clear p64
                                                  try clear q255
                                                  obtain ⟨x7_3, rfl, HA, HK3, HO_5, HB⟩ := hrel
                                                  cases gk with
                                                  | zero => exact absurd HA.out (by simp [chinoiserielaw06_HostKnown.l2])
                                                  | succ k3 =>
                                                    have H := HA.out
                                                    clear HA
                                                    simp only [chinoiserielaw06_HostKnown.l2] at H
                                                    by_cases c80 : x7_3 < (y252.length : Int)
                                                    · rw [if_pos c80] at H
                                                      have c80b0 : decide (x7_3 < (y252.length : Int)) = true := decide_eq_true c80
                                                      clear c80
                                                      by_cases c81 : 0 ≤ x6_2
                                                      · rw [if_pos c81] at H
                                                        have c81b0 : decide (0 ≤ x6_2) = true := decide_eq_true c81
                                                        clear c81
                                                        by_cases c82 : x6_2 < (y252.length : Int)
                                                        · rw [if_pos c82] at H
                                                          have c82b0 : decide (x6_2 < (y252.length : Int)) = true := decide_eq_true c82
                                                          clear c82
                                                          by_cases c83 : 0 ≤ x7_3
                                                          · rw [if_pos c83] at H
                                                            have c83b0 : decide (0 ≤ x7_3) = true := decide_eq_true c83
                                                            clear c83
                                                            replace H := Option.bind_eq_some_iff.mp H
                                                            obtain ⟨t259, A840, H⟩ := H
                                                            replace H : (if t259 = true then (chinoiserielaw06_HostKnown.l2 k3 y252 x6_2 (wrap64 (x7_3 + 1))) else (some false)) = some r := H
                                                            have A84 := Aside0.mk A840
                                                            clear A840
                                                            by_cases c85 : t259 = true
                                                            · subst c85
                                                              have H1 : (chinoiserielaw06_HostKnown.l2 k3 y252 x6_2 (wrap64 (x7_3 + 1))) = some r := by rw [if_pos rfl] at H; exact H
                                                              clear H
                                                              have H := H1
                                                              clear H1
                                                              have H' := Aside0.mk H
                                                              clear H
                                                              try go_wp2
                                                              have n0_ := Aside0.mk (Kd.R_drew HO_5.out)
                                                              have n1_ := Aside0.mk (below_drew1 HB.out)
                                                              clear HO_5
                                                              clear HB
                                                              have HO_5 := n0_
                                                              have HB := n1_
                                                              clear n0_ n1_
                                                              have p257 : 0 ≤ (x6_2 : Int) := of_decide_eq_true (by first | (with_reducible assumption) | assumption)
                                                              have q257 : x6_2 < (y252.length : Int) := of_decide_eq_true (by first | (with_reducible assumption) | assumption)
                                                              obtain ⟨ad257, e257, hx257_0⟩ := Kd.at_string (Kd.R_reads' HO_5.out).2.2 x6_2 p257 q257
                                                              obtain rfl : ad255 = ad257 := (by injection e257)
                                                              replace p257 := eq_true p257
                                                              replace q257 := eq_true q257
                                                              have p258 : 0 ≤ (x7_3 : Int) := of_decide_eq_true (by first | (with_reducible assumption) | assumption)
                                                              have q258 : x7_3 < (y252.length : Int) := of_decide_eq_true (by first | (with_reducible assumption) | assumption)
                                                              obtain ⟨ad258, e258, hx258_0⟩ := Kd.at_string (Kd.R_reads' HO_5.out).2.2 x7_3 p258 q258
                                                              obtain rfl : ad255 = ad258 := (by injection e258)
                                                              replace p258 := eq_true p258
                                                              replace q258 := eq_true q258
                                                              refine start_ (n := 11) (S := fun w' => w'.cell? (ad255.add (x6_2).toNat) = some (.string (rdOf ByteArray.empty y252 x6_2)) ∧ w'.cell? (ad255.add (x7_3).toNat) = some (.string (rdOf ByteArray.empty y252 x7_3))) (ds := []) #[false, false, false, false, false, false, false, false, false, false, false] (by kernel_rfl) rfl rfl ⟨hx257_0, hx258_0⟩ (fun hHeld => ?_); refine with_tabW chinoiserielaw06_HostKnown.tab18 chinoiserielaw06_HostKnown.bits18 (fun HT_ HW_ => ?_)
                                                              generalize wr.drew = w86 at HO_5 HB hx257_0 hx258_0 hHeld ⊢
                                                              refine pure_ (i := 0) (N := some 94) (v := ?_) (a' := ?_) #[true, false, false, false, false, false, false, false, false, false, false] rfl rfl (any_of HT_.out (by kernel_rfl)) (fun _ _ _ h => h) (Or.inl ⟨by rfl, ?_⟩) ?_ ?_
                                                              rotate_left
                                                              · intro w'
                                                                go_simp
                                                                with_reducible rfl
                                                              rotate_left
                                                              · simp only [Act.put, List.setIfInBounds_toArray, List.set_cons_zero, List.set_cons_succ, i64_w, i32_w]
                                                                rfl
                                                              refine pure_ (i := 1) (N := some 95) (v := ?_) (a' := ?_) #[true, true, false, false, false, false, false, false, false, false, false] rfl rfl (any_of HT_.out (by kernel_rfl)) (fun _ _ _ h => h) (Or.inl ⟨by rfl, ?_⟩) ?_ ?_
                                                              rotate_left
                                                              · intro w'
                                                                go_simp
                                                                with_reducible rfl
                                                              rotate_left
                                                              · simp only [Act.put, List.setIfInBounds_toArray, List.set_cons_zero, List.set_cons_succ, i64_w, i32_w]
                                                                rfl
                                                              refine pure_ (i := 2) (N := some 96) (v := ?_) (a' := ?_) #[true, true, true, false, false, false, false, false, false, false, false] rfl rfl (any_of HT_.out (by kernel_rfl)) (fun _ _ _ h => h) (Or.inl ⟨by rfl, ?_⟩) ?_ ?_
                                                              rotate_left
                                                              · intro w'
                                                                go_simp
                                                                with_reducible rfl
                                                              rotate_left
                                                              · simp only [Act.put, List.setIfInBounds_toArray, List.set_cons_zero, List.set_cons_succ, i64_w, i32_w]
                                                                rfl
                                                              refine pure_ (i := 4) (N := some 98) (v := ?_) (a' := ?_) #[true, true, true, false, true, false, false, false, false, false, false] rfl rfl (any_of HT_.out (by kernel_rfl)) (fun _ _ _ h => h) (Or.inl ⟨by rfl, ?_⟩) ?_ ?_
                                                              rotate_left
                                                              · intro w'
                                                                go_simp
                                                                with_reducible rfl
                                                              rotate_left
                                                              · simp only [Act.put, List.setIfInBounds_toArray, List.set_cons_zero, List.set_cons_succ, i64_w, i32_w]
                                                                rfl
                                                              refine pure_ (i := 5) (N := some 99) (v := ?_) (a' := ?_) #[true, true, true, false, true, true, false, false, false, false, false] rfl rfl (any_of HT_.out (by kernel_rfl)) (fun _ _ _ h => h) (Or.inl ⟨by rfl, ?_⟩) ?_ ?_
                                                              rotate_left
                                                              · intro w'
                                                                go_simp
                                                                with_reducible rfl
                                                              rotate_left
                                                              · simp only [Act.put, List.setIfInBounds_toArray, List.set_cons_zero, List.set_cons_succ, i64_w, i32_w]
                                                                rfl
                                                              refine pure_ (i := 6) (N := some 100) (v := ?_) (a' := ?_) #[true, true, true, false, true, true, true, false, false, false, false] rfl rfl (any_of HT_.out (by kernel_rfl)) (fun _ _ _ h => h) (Or.inl ⟨by rfl, ?_⟩) ?_ ?_
                                                              rotate_left
                                                              · intro w'
                                                                go_simp
                                                                with_reducible rfl
                                                              rotate_left
                                                              · simp only [Act.put, List.setIfInBounds_toArray, List.set_cons_zero, List.set_cons_succ, i64_w, i32_w]
                                                                rfl
                                                              refine pure_ (i := 8) (N := some 102) (v := ?_) (a' := ?_) #[true, true, true, false, true, true, true, false, true, false, false] rfl rfl (any_of HT_.out (by kernel_rfl)) (fun _ _ _ h => h) (Or.inl ⟨by rfl, ?_⟩) ?_ ?_
                                                              rotate_left
                                                              · intro w'
                                                                go_simp
                                                                with_reducible rfl
                                                              rotate_left
                                                              · simp only [Act.put, List.setIfInBounds_toArray, List.set_cons_zero, List.set_cons_succ, i64_w, i32_w]
                                                                rfl
                                                              refine take_ (i := 3) (N := some 97) (v := ?_) (a' := ?_) #[true, true, true, true, true, true, true, false, true, false, false] rfl rfl (take_ofW HT_.out HW_.out (by kernel_rfl)) (fun _ _ _ h => h) (Or.inl ⟨by rfl, ?_⟩) hHeld ?_ ?_
                                                              rotate_left
                                                              · rintro w' ⟨s0, s1⟩
                                                                go_simp
                                                                with_reducible rfl
                                                              rotate_left
                                                              · simp only [Act.put, List.setIfInBounds_toArray, List.set_cons_zero, List.set_cons_succ, i64_w, i32_w]
                                                                rfl
                                                              refine take_ (i := 7) (N := some 101) (v := ?_) (a' := ?_) #[true, true, true, true, true, true, true, true, true, false, false] rfl rfl (take_ofW HT_.out HW_.out (by kernel_rfl)) (fun _ _ _ h => h) (Or.inl ⟨by rfl, ?_⟩) hHeld ?_ ?_
                                                              rotate_left
                                                              · rintro w' ⟨s0, s1⟩
                                                                go_simp
                                                                with_reducible rfl
                                                              rotate_left
                                                              · simp only [Act.put, List.setIfInBounds_toArray, List.set_cons_zero, List.set_cons_succ, i64_w, i32_w]
                                                                rfl
                                                              refine one_ (i := 9) (N := some 103) #[true, true, true, true, true, true, true, true, true, true, false] rfl rfl (one_of HT_.out (by kernel_rfl)) (by decide) (fun K hK => ?_)
                                                              refine goes_ Tryd.func4 (by kernel_rfl) rfl #[.string (rdOf ByteArray.empty y252 x6_2), .string (rdOf ByteArray.empty y252 x7_3), .int .i64 x6_2] (by rfl) rfl rfl (by (try simp only [List.map_toArray, List.map_cons, List.map_nil]); first | done | rfl | (simp only [List.length_drop, List.length_take]; rfl)) ?_
                                                              with_reducible refine (chinoiserielaw06_HostWrites.calls k3 (rdOf ByteArray.empty y252 x6_2) (rdOf ByteArray.empty y252 x7_3) x6_2 true _ A84.out).mono ?_
                                                              rintro e w87 ⟨rfl, hb⟩
                                                              have HS0_ := (hb.cell (World.block_lt_of_cell? _ _ (hHeld.1))).trans (hHeld.1)
                                                              have HS1_ := (hb.cell (World.block_lt_of_cell? _ _ (hHeld.2))).trans (hHeld.2)
                                                              refine ⟨_, rfl, ?_⟩
                                                              have n0_ := Aside0.mk (Kd.R_below (by (with_reducible repeat (first | apply Kd.R_alloc | apply Kd.R_drewN | apply Kd.R_drew)); exact HO_5.out) hb)
                                                              have n1_ := Aside0.mk (below_step (by repeat (first | (with_reducible first | exact HB.out | apply below_alloc | apply pw_below_drewN | apply below_drew1) | exact HB.out)) hb)
                                                              clear HO_5
                                                              clear HB
                                                              have HO_5 := n0_
                                                              have HB := n1_
                                                              clear n0_ n1_
                                                              (try clear hb)
                                                              (try clear hb2)
                                                              (try clear hk)
                                                              (try clear hi)
                                                              refine hK.out _ _ ⟨HS0_, HS1_⟩ (fun hHeld => ?_)
                                                              clear hK K
                                                              refine norm_ (a' := ?_) ?_ ?_
                                                              rotate_left
                                                              · show Act.put _ (some 103) _ = _
                                                                simp only [Act.put, List.setIfInBounds_toArray, List.set_cons_zero, List.set_cons_succ, i64_w, i32_w]
                                                                rfl
                                                              refine pure_ (i := 10) (N := some 104) (v := ?_) (a' := ?_) #[true, true, true, true, true, true, true, true, true, true, true] rfl rfl (any_of HT_.out (by kernel_rfl)) (fun _ _ _ h => h) (Or.inl ⟨by rfl, ?_⟩) ?_ ?_
                                                              rotate_left
                                                              · intro w'
                                                                go_simp
                                                                with_reducible rfl
                                                              rotate_left
                                                              · simp only [Act.put, List.setIfInBounds_toArray, List.set_cons_zero, List.set_cons_succ, i64_w, i32_w]
                                                                rfl
                                                              refine done_ (done_of HT_.out (by kernel_rfl)) ?_
                                                              try go_wp2
                                                              go_roundg k3
                                                              case measure => have := HK1.out; have := HK2.out; have := HK3.out; omega
                                                              case rel => exact ⟨(wrap64 (x7_3 + 1)), (by first | rfl | (simp; done) | (simp [*]; done)), H', ⟨by have := HK1.out; have := HK2.out; have := HK3.out; omega⟩, ⟨by (with_reducible repeat (first | apply Kd.R_alloc | apply Kd.R_drewN | apply Kd.R_drew)); exact HO_5.out⟩, ⟨by repeat (first | (with_reducible first | exact HB.out | apply below_alloc | apply pw_below_drewN | apply below_drew1) | exact HB.out)⟩⟩
                                                            · replace c85 := Bool.eq_false_iff.mpr c85
                                                              subst c85
                                                              have H1 : (some false) = some r := by rw [if_neg (show ¬ (false = true) by decide)] at H; exact H
                                                              clear H
                                                              have H := H1
                                                              clear H1
                                                              obtain rfl := Option.some.inj H
                                                              try go_wp2
                                                              have n0_ := Aside0.mk (Kd.R_drew HO_5.out)
                                                              have n1_ := Aside0.mk (below_drew1 HB.out)
                                                              clear HO_5
                                                              clear HB
                                                              have HO_5 := n0_
                                                              have HB := n1_
                                                              clear n0_ n1_
                                                              have p257 : 0 ≤ (x6_2 : Int) := of_decide_eq_true (by first | (with_reducible assumption) | assumption)
                                                              have q257 : x6_2 < (y252.length : Int) := of_decide_eq_true (by first | (with_reducible assumption) | assumption)
                                                              obtain ⟨ad257, e257, hx257_0⟩ := Kd.at_string (Kd.R_reads' HO_5.out).2.2 x6_2 p257 q257
                                                              obtain rfl : ad255 = ad257 := (by injection e257)
                                                              replace p257 := eq_true p257
                                                              replace q257 := eq_true q257
                                                              have p258 : 0 ≤ (x7_3 : Int) := of_decide_eq_true (by first | (with_reducible assumption) | assumption)
                                                              have q258 : x7_3 < (y252.length : Int) := of_decide_eq_true (by first | (with_reducible assumption) | assumption)
                                                              obtain ⟨ad258, e258, hx258_0⟩ := Kd.at_string (Kd.R_reads' HO_5.out).2.2 x7_3 p258 q258
                                                              obtain rfl : ad255 = ad258 := (by injection e258)
                                                              replace p258 := eq_true p258
                                                              replace q258 := eq_true q258
                                                              refine start_ (n := 11) (S := fun w' => w'.cell? (ad255.add (x6_2).toNat) = some (.string (rdOf ByteArray.empty y252 x6_2)) ∧ w'.cell? (ad255.add (x7_3).toNat) = some (.string (rdOf ByteArray.empty y252 x7_3))) (ds := []) #[false, false, false, false, false, false, false, false, false, false, false] (by kernel_rfl) rfl rfl ⟨hx257_0, hx258_0⟩ (fun hHeld => ?_); refine with_tabW chinoiserielaw06_HostKnown.tab18 chinoiserielaw06_HostKnown.bits18 (fun HT_ HW_ => ?_)
                                                              generalize wr.drew = w88 at HO_5 HB hx257_0 hx258_0 hHeld ⊢
                                                              refine pure_ (i := 0) (N := some 94) (v := ?_) (a' := ?_) #[true, false, false, false, false, false, false, false, false, false, false] rfl rfl (any_of HT_.out (by kernel_rfl)) (fun _ _ _ h => h) (Or.inl ⟨by rfl, ?_⟩) ?_ ?_
                                                              rotate_left
                                                              · intro w'
                                                                go_simp
                                                                with_reducible rfl
                                                              rotate_left
                                                              · simp only [Act.put, List.setIfInBounds_toArray, List.set_cons_zero, List.set_cons_succ, i64_w, i32_w]
                                                                rfl
                                                              refine pure_ (i := 1) (N := some 95) (v := ?_) (a' := ?_) #[true, true, false, false, false, false, false, false, false, false, false] rfl rfl (any_of HT_.out (by kernel_rfl)) (fun _ _ _ h => h) (Or.inl ⟨by rfl, ?_⟩) ?_ ?_
                                                              rotate_left
                                                              · intro w'
                                                                go_simp
                                                                with_reducible rfl
                                                              rotate_left
                                                              · simp only [Act.put, List.setIfInBounds_toArray, List.set_cons_zero, List.set_cons_succ, i64_w, i32_w]
                                                                rfl
                                                              refine pure_ (i := 2) (N := some 96) (v := ?_) (a' := ?_) #[true, true, true, false, false, false, false, false, false, false, false] rfl rfl (any_of HT_.out (by kernel_rfl)) (fun _ _ _ h => h) (Or.inl ⟨by rfl, ?_⟩) ?_ ?_
                                                              rotate_left
                                                              · intro w'
                                                                go_simp
                                                                with_reducible rfl
                                                              rotate_left
                                                              · simp only [Act.put, List.setIfInBounds_toArray, List.set_cons_zero, List.set_cons_succ, i64_w, i32_w]
                                                                rfl
                                                              refine pure_ (i := 4) (N := some 98) (v := ?_) (a' := ?_) #[true, true, true, false, true, false, false, false, false, false, false] rfl rfl (any_of HT_.out (by kernel_rfl)) (fun _ _ _ h => h) (Or.inl ⟨by rfl, ?_⟩) ?_ ?_
                                                              rotate_left
                                                              · intro w'
                                                                go_simp
                                                                with_reducible rfl
                                                              rotate_left
                                                              · simp only [Act.put, List.setIfInBounds_toArray, List.set_cons_zero, List.set_cons_succ, i64_w, i32_w]
                                                                rfl
                                                              refine pure_ (i := 5) (N := some 99) (v := ?_) (a' := ?_) #[true, true, true, false, true, true, false, false, false, false, false] rfl rfl (any_of HT_.out (by kernel_rfl)) (fun _ _ _ h => h) (Or.inl ⟨by rfl, ?_⟩) ?_ ?_
                                                              rotate_left
                                                              · intro w'
                                                                go_simp
                                                                with_reducible rfl
                                                              rotate_left
                                                              · simp only [Act.put, List.setIfInBounds_toArray, List.set_cons_zero, List.set_cons_succ, i64_w, i32_w]
                                                                rfl
                                                              refine pure_ (i := 6) (N := some 100) (v := ?_) (a' := ?_) #[true, true, true, false, true, true, true, false, false, false, false] rfl rfl (any_of HT_.out (by kernel_rfl)) (fun _ _ _ h => h) (Or.inl ⟨by rfl, ?_⟩) ?_ ?_
                                                              rotate_left
                                                              · intro w'
                                                                go_simp
                                                                with_reducible rfl
                                                              rotate_left
                                                              · simp only [Act.put, List.setIfInBounds_toArray, List.set_cons_zero, List.set_cons_succ, i64_w, i32_w]
                                                                rfl
                                                              refine pure_ (i := 8) (N := some 102) (v := ?_) (a' := ?_) #[true, true, true, false, true, true, true, false, true, false, false] rfl rfl (any_of HT_.out (by kernel_rfl)) (fun _ _ _ h => h) (Or.inl ⟨by rfl, ?_⟩) ?_ ?_
                                                              rotate_left
                                                              · intro w'
                                                                go_simp
                                                                with_reducible rfl
                                                              rotate_left
                                                              · simp only [Act.put, List.setIfInBounds_toArray, List.set_cons_zero, List.set_cons_succ, i64_w, i32_w]
                                                                rfl
                                                              refine take_ (i := 3) (N := some 97) (v := ?_) (a' := ?_) #[true, true, true, true, true, true, true, false, true, false, false] rfl rfl (take_ofW HT_.out HW_.out (by kernel_rfl)) (fun _ _ _ h => h) (Or.inl ⟨by rfl, ?_⟩) hHeld ?_ ?_
                                                              rotate_left
                                                              · rintro w' ⟨s0, s1⟩
                                                                go_simp
                                                                with_reducible rfl
                                                              rotate_left
                                                              · simp only [Act.put, List.setIfInBounds_toArray, List.set_cons_zero, List.set_cons_succ, i64_w, i32_w]
                                                                rfl
                                                              refine take_ (i := 7) (N := some 101) (v := ?_) (a' := ?_) #[true, true, true, true, true, true, true, true, true, false, false] rfl rfl (take_ofW HT_.out HW_.out (by kernel_rfl)) (fun _ _ _ h => h) (Or.inl ⟨by rfl, ?_⟩) hHeld ?_ ?_
                                                              rotate_left
                                                              · rintro w' ⟨s0, s1⟩
                                                                go_simp
                                                                with_reducible rfl
                                                              rotate_left
                                                              · simp only [Act.put, List.setIfInBounds_toArray, List.set_cons_zero, List.set_cons_succ, i64_w, i32_w]
                                                                rfl
                                                              refine one_ (i := 9) (N := some 103) #[true, true, true, true, true, true, true, true, true, true, false] rfl rfl (one_of HT_.out (by kernel_rfl)) (by decide) (fun K hK => ?_)
                                                              refine goes_ Tryd.func4 (by kernel_rfl) rfl #[.string (rdOf ByteArray.empty y252 x6_2), .string (rdOf ByteArray.empty y252 x7_3), .int .i64 x6_2] (by rfl) rfl rfl (by (try simp only [List.map_toArray, List.map_cons, List.map_nil]); first | done | rfl | (simp only [List.length_drop, List.length_take]; rfl)) ?_
                                                              with_reducible refine (chinoiserielaw06_HostWrites.calls k3 (rdOf ByteArray.empty y252 x6_2) (rdOf ByteArray.empty y252 x7_3) x6_2 false _ A84.out).mono ?_
                                                              rintro e w89 ⟨rfl, hb⟩
                                                              have HS0_ := (hb.cell (World.block_lt_of_cell? _ _ (hHeld.1))).trans (hHeld.1)
                                                              have HS1_ := (hb.cell (World.block_lt_of_cell? _ _ (hHeld.2))).trans (hHeld.2)
                                                              refine ⟨_, rfl, ?_⟩
                                                              have n0_ := Aside0.mk (Kd.R_below (by (with_reducible repeat (first | apply Kd.R_alloc | apply Kd.R_drewN | apply Kd.R_drew)); exact HO_5.out) hb)
                                                              have n1_ := Aside0.mk (below_step (by repeat (first | (with_reducible first | exact HB.out | apply below_alloc | apply pw_below_drewN | apply below_drew1) | exact HB.out)) hb)
                                                              clear HO_5
                                                              clear HB
                                                              have HO_5 := n0_
                                                              have HB := n1_
                                                              clear n0_ n1_
                                                              (try clear hb)
                                                              (try clear hb2)
                                                              (try clear hk)
                                                              (try clear hi)
                                                              refine hK.out _ _ ⟨HS0_, HS1_⟩ (fun hHeld => ?_)
                                                              clear hK K
                                                              refine norm_ (a' := ?_) ?_ ?_
                                                              rotate_left
                                                              · show Act.put _ (some 103) _ = _
                                                                simp only [Act.put, List.setIfInBounds_toArray, List.set_cons_zero, List.set_cons_succ, i64_w, i32_w]
                                                                rfl
                                                              refine pure_ (i := 10) (N := some 104) (v := ?_) (a' := ?_) #[true, true, true, true, true, true, true, true, true, true, true] rfl rfl (any_of HT_.out (by kernel_rfl)) (fun _ _ _ h => h) (Or.inl ⟨by rfl, ?_⟩) ?_ ?_
                                                              rotate_left
                                                              · intro w'
                                                                go_simp
                                                                with_reducible rfl
                                                              rotate_left
                                                              · simp only [Act.put, List.setIfInBounds_toArray, List.set_cons_zero, List.set_cons_succ, i64_w, i32_w]
                                                                rfl
                                                              refine done_ (done_of HT_.out (by kernel_rfl)) ?_
                                                              try go_wp2
                                                              go_ret
                                                              exact ⟨by first | rfl | (simp [errW_none, errW_some] <;> rfl) | (simp [*, errW_none, errW_some] <;> rfl), by repeat (first | (with_reducible first | exact HB.out | apply below_alloc | apply pw_below_drewN | apply below_drew1) | exact HB.out)⟩
                                                          · rw [if_neg c83] at H
                                                            exact absurd H (by simp)
                                                        · rw [if_neg c82] at H
                                                          exact absurd H (by simp)
                                                      · rw [if_neg c81] at H
                                                        exact absurd H (by simp)
                                                    · rw [if_neg c80] at H
                                                      have c80b0 : decide (x7_3 < (y252.length : Int)) = false := decide_eq_false c80
                                                      clear c80
                                                      have H' := Aside0.mk H
                                                      clear H
                                                      go_wp2
                                                      go_roundg k3
                                                      case measure => have := HK1.out; have := HK2.out; have := HK3.out; omega
                                                      case rel => exact ⟨(wrap64 (x6_2 + 1)), (by first | rfl | (simp; done) | (simp [*]; done)), H', ⟨by have := HK1.out; have := HK2.out; have := HK3.out; omega⟩, ⟨by (with_reducible repeat (first | apply Kd.R_alloc | apply Kd.R_drewN | apply Kd.R_drew)); exact HO_5.out⟩, ⟨by repeat (first | (with_reducible first | exact HB.out | apply below_alloc | apply pw_below_drewN | apply below_drew1) | exact HB.out)⟩⟩
                                              · replace c77 := Bool.eq_false_iff.mpr c77
                                                subst c77
                                                have H1 : (some false) = some r := by rw [if_neg (show ¬ (false = true) by decide)] at H; exact H
                                                clear H
                                                have H := H1
                                                clear H1
                                                obtain rfl := Option.some.inj H
                                                obtain ⟨Ao90, co90, eo90⟩ := Kd.R_slice HO_5.out
                                                subst eo90
                                                have p255 : 0 ≤ (x6_2 : Int) := of_decide_eq_true (by first | (with_reducible assumption) | assumption)
                                                have q255 : x6_2 < (y252.length : Int) := of_decide_eq_true (by first | (with_reducible assumption) | assumption)
                                                obtain ⟨ad255, e255, hx255_0⟩ := Kd.at_string (Kd.R_reads' HO_5.out).2.2 x6_2 p255 q255
                                                cases e255
                                                replace p255 := eq_true p255
                                                replace q255 := eq_true q255
                                                go_wp2_with (first | ((with_reducible refine gate_callee (f := 3) rfl ?_); refine goesL_ (some 86) rfl rfl Tryd.func3 (by kernel_rfl) rfl #[.string (rdOf ByteArray.empty y252 x6_2)] rfl (by (try simp only [List.map_toArray, List.map_cons, List.map_nil]); first | done | rfl | (simp only [List.length_drop, List.length_take]; rfl)) ?_; (with_reducible refine (chinoiserielaw06_HostNorms.calls k2 (rdOf ByteArray.empty y252 x6_2) false _ A76.out).mono ?_); rintro e w91 ⟨rfl, hb⟩; refine ⟨_, rfl, ?_⟩; have n0_ := Aside0.mk (Kd.R_below (by (with_reducible repeat (first | apply Kd.R_alloc | apply Kd.R_drewN | apply Kd.R_drew)); exact HO_5.out) hb); have n1_ := Aside0.mk (below_step (by repeat (first | (with_reducible first | exact HB.out | apply below_alloc | apply pw_below_drewN | apply below_drew1) | exact HB.out)) hb); clear HO_5; clear HB; have HO_5 := n0_; have HB := n1_; clear n0_ n1_; (try clear hb); (try clear hb2); (try clear hk); (try clear hi)))
                                                go_ret
                                                exact ⟨by first | rfl | (simp [errW_none, errW_some] <;> rfl) | (simp [*, errW_none, errW_some] <;> rfl), by repeat (first | (with_reducible first | exact HB.out | apply below_alloc | apply pw_below_drewN | apply below_drew1) | exact HB.out)⟩
                                            · rw [if_neg c75] at H
                                              exact absurd H (by simp)
                                          · rw [if_neg c74] at H
                                            have c74b0 : decide (x6_2 < (y252.length : Int)) = false := decide_eq_false c74
                                            clear c74
                                            obtain ⟨y260, hy260⟩ : ∃ y_ : List Int, y_ = (([(-9223372036854775808), (-1), 0, 1, 79, 80, 81, 65535, 65536, 9223372036854775807] : List Int)) := ⟨_, rfl⟩
                                            replace H : (chinoiserielaw06_HostKnown.l3 k2 y260 0) = some r := by first | (rw [hy260]; with_reducible exact H) | (have H2_ := (Option.bind_some _ _).symm.trans H; rw [hy260]; with_reducible exact H2_) | (have H2_ := (Option.bind_some _ _).symm.trans H; with_reducible exact H2_) | with_reducible exact H | (rw [hy260]; exact H) | exact H
                                            have Ny260 := Aside0.mk hy260
                                            clear hy260
                                            have H' := Aside0.mk H
                                            clear H
                                            obtain ⟨Ao92, co92, eo92⟩ := Kd.R_slice HO_5.out
                                            subst eo92
                                            go_wp2_with (first | ((with_reducible refine gate_dst (N := 105) rfl ?_); refine Kd.R_lit (Kd.int .i64) _ 3 ?hg (N := 105) ?hd (xs := ([(-9223372036854775808), (-1), 0, 1, 79, 80, 81, 65535, 65536, 9223372036854775807] : List Int)) (inner := [.int .i64 (-9223372036854775808), .int .i64 (-1), .int .i64 0, .int .i64 1, .int .i64 79, .int .i64 80, .int .i64 81, .int .i64 65535, .int .i64 65536, .int .i64 9223372036854775807]) (ok := fun _ => True) (okp := fun _ => True) ?hr ?hp (fun _ hk => hk) trivial (Below.refl _ _) (Nat.le_refl _) (by simp) ?_; (case hd => rfl); (case hg => rfl); (case hr => first | (go_simp; done) | (go_simp; rfl)); (case hp => exact (Reps.one (show Kd.M (Kd.int .i64) _ _ _ (-9223372036854775808) [.int .i64 (-9223372036854775808)] from rfl) (Reps.one (show Kd.M (Kd.int .i64) _ _ _ (-1) [.int .i64 (-1)] from rfl) (Reps.one (show Kd.M (Kd.int .i64) _ _ _ 0 [.int .i64 0] from rfl) (Reps.one (show Kd.M (Kd.int .i64) _ _ _ 1 [.int .i64 1] from rfl) (Reps.one (show Kd.M (Kd.int .i64) _ _ _ 79 [.int .i64 79] from rfl) (Reps.one (show Kd.M (Kd.int .i64) _ _ _ 80 [.int .i64 80] from rfl) (Reps.one (show Kd.M (Kd.int .i64) _ _ _ 81 [.int .i64 81] from rfl) (Reps.one (show Kd.M (Kd.int .i64) _ _ _ 65535 [.int .i64 65535] from rfl) (Reps.one (show Kd.M (Kd.int .i64) _ _ _ 65536 [.int .i64 65536] from rfl) (Reps.one (show Kd.M (Kd.int .i64) _ _ _ 9223372036854775807 [.int .i64 9223372036854775807] from rfl) (Reps.none _ _)))))))))))); intro v261 w93 ho94 hb hg_ hnew_; clear hg_ hnew_; (first | rw [← Ny260.out] at ho94 | (simp only [Int.reduceToNat] at ho94; rw [← Ny260.out] at ho94)); have n0_ := Aside0.mk (Kd.R_below (by (with_reducible repeat (first | apply Kd.R_alloc | apply Kd.R_drewN | apply Kd.R_drew)); exact HO_5.out) hb); have n1_ := Aside0.mk (Kd.R_lower ho94 (below_size (by repeat (first | (with_reducible first | exact HB.out | apply below_alloc | apply pw_below_drewN | apply below_drew1) | exact HB.out)))); have n2_ := Aside0.mk (below_step (by repeat (first | (with_reducible first | exact HB.out | apply below_alloc | apply pw_below_drewN | apply below_drew1) | exact HB.out)) hb); clear HO_5; clear HB; have HO_5 := n0_; have HO262 := n1_; have HB := n2_; clear n0_ n1_ n2_; clear hb ho94))
                                            go_loopg [9] k2 (fun kq v9 w' => ∃ (x9_3 : Int), v9 = .int .i64 x9_3 ∧ Aside0 (chinoiserielaw06_HostKnown.l3 kq y260 x9_3 = some r) ∧ Aside0 (kq ≤ k2) ∧ Aside0 (Kd.R (Kd.int .i64) 3 w' w.heap.size (fun _ => True) v261 y260) ∧ Aside0 (Below w.heap.size w w'))
                                            case atStart => exact ⟨(0), (by first | rfl | (simp; done) | (simp [*]; done)), H', ⟨Nat.le_refl _⟩, ⟨by (with_reducible repeat (first | apply Kd.R_alloc | apply Kd.R_drewN | apply Kd.R_drew)); exact HO262.out⟩, ⟨by repeat (first | (with_reducible first | exact HB.out | apply below_alloc | apply pw_below_drewN | apply below_drew1) | exact HB.out)⟩⟩
                                            case round =>
                                              clear H'
                                              try clear c1
                                              try clear c1b0
                                              try clear hcv1
                                              try clear p2
                                              try clear q2
                                              try clear hx2
                                              try clear hcv2
                                              try clear c3
                                              try clear hcv3
                                              try clear c4
                                              try clear c4b0
                                              try clear c4b1
                                              try clear c4b2
                                              try clear hcv4
                                              try clear c5
                                              try clear hcv5
                                              try clear c6
                                              try clear p6
                                              try clear c7
                                              try clear c7b0
                                              try clear c7b1
                                              try clear c7b2
                                              try clear c8
                                              try clear c9
                                              try clear c10
                                              try clear c10b0
                                              try clear c10b1
                                              try clear c10b2
                                              try clear c12
                                              try clear c13
                                              try clear c13b0
                                              try clear c13b1
                                              try clear c13b2
                                              try clear c15
                                              try clear hcv18
                                              try clear p25
                                              try clear q25
                                              try clear hx25
                                              try clear hcv26
                                              try clear hcv34
                                              try clear hcv41
                                              try clear hcv47
                                              try clear hcv52
                                              try clear c54
                                              try clear c54b0
                                              try clear c54b1
                                              try clear c54b2
                                              try clear c55
                                              try clear c55b0
                                              try clear c55b1
                                              try clear c55b2
                                              try clear c56
                                              try clear c56b0
                                              try clear c56b1
                                              try clear c56b2
                                              try clear c57
                                              try clear c57b0
                                              try clear c57b1
                                              try clear c58
                                              try clear c58b0
                                              try clear c58b1
                                              try clear c59
                                              try clear c59b0
                                              try clear c59b1
                                              try clear c59b2
                                              try clear c60
                                              try clear c60b0
                                              try clear c60b1
                                              try clear c60b2
                                              try clear c61
                                              try clear c61b0
                                              try clear c61b1
                                              try clear c62
                                              try clear c62b0
                                              try clear c62b1
                                              try clear c63
                                              try clear c63b0
                                              try clear c63b1
                                              try clear c63b2
                                              try clear c64
                                              try clear c64b0
                                              try clear c64b1
                                              try clear p64
                                              try clear c65
                                              try clear c65b0
                                              try clear c65b1
                                              try clear c66
                                              try clear c66b0
                                              try clear c66b1
                                              try clear c66b2
                                              try clear c67
                                              try clear c67b0
                                              try clear c68
                                              try clear c68b0
                                              try clear c69
                                              try clear c69b0
                                              try clear c69b1
                                              try clear c69b2
                                              try clear c70
                                              try clear c70b0
                                              try clear c70b1
                                              try clear c70b2
                                              try clear c74
                                              try clear c74b0
                                              try clear c75
                                              try clear c75b0
                                              try clear c77
                                              try clear c80
                                              try clear c80b0
                                              try clear c81
                                              try clear c81b0
                                              try clear c82
                                              try clear c82b0
                                              try clear c83
                                              try clear c83b0
                                              try clear c85
                                              try clear hx255_0
                                              try clear hx257_0
                                              try clear hx258_0
                                              try clear p2
                                              try clear p25
                                              try clear p255
                                              try clear p257
                                              try clear p258
                                              try clear p6
                                              try clear p64
                                              try clear q2
                                              try clear q25
                                              try clear q255
                                              try clear q257
                                              try clear q258
                                              obtain ⟨x9_3, rfl, HA, HK3, HO_8, HB⟩ := hrel
                                              cases gk with
                                              | zero => exact absurd HA.out (by simp [chinoiserielaw06_HostKnown.l3])
                                              | succ k3 =>
                                                have H := HA.out
                                                clear HA
                                                simp only [chinoiserielaw06_HostKnown.l3] at H
                                                by_cases c95 : x9_3 < (y260.length : Int)
                                                · rw [if_pos c95] at H
                                                  have c95b0 : decide (x9_3 < (y260.length : Int)) = true := decide_eq_true c95
                                                  clear c95
                                                  by_cases c96 : 0 ≤ x9_3
                                                  · rw [if_pos c96] at H
                                                    have c96b0 : decide (0 ≤ x9_3) = true := decide_eq_true c96
                                                    clear c96
                                                    replace H := Option.bind_eq_some_iff.mp H
                                                    obtain ⟨t264, A970, H⟩ := H
                                                    replace H : (if t264 = true then (chinoiserielaw06_HostKnown.l3 k3 y260 (wrap64 (x9_3 + 1))) else (some false)) = some r := H
                                                    have A97 := Aside0.mk A970
                                                    clear A970
                                                    by_cases c98 : t264 = true
                                                    · subst c98
                                                      have H1 : (chinoiserielaw06_HostKnown.l3 k3 y260 (wrap64 (x9_3 + 1))) = some r := by rw [if_pos rfl] at H; exact H
                                                      clear H
                                                      have H := H1
                                                      clear H1
                                                      have H' := Aside0.mk H
                                                      clear H
                                                      obtain ⟨Ao99, co99, eo99⟩ := Kd.R_slice HO_8.out
                                                      subst eo99
                                                      have p263 : 0 ≤ (x9_3 : Int) := of_decide_eq_true (by first | (with_reducible assumption) | assumption)
                                                      have q263 : x9_3 < (y260.length : Int) := of_decide_eq_true (by first | (with_reducible assumption) | assumption)
                                                      obtain ⟨ad263, e263, hx263_0⟩ := Kd.at_int (Kd.R_reads' HO_8.out).2.2 x9_3 p263 q263
                                                      cases e263
                                                      replace p263 := eq_true p263
                                                      replace q263 := eq_true q263
                                                      go_wp2_with (first | ((with_reducible refine gate_callee (f := 4) rfl ?_); refine goesL_ (some 116) rfl rfl Tryd.func4 (by kernel_rfl) rfl #[.string (⟨#[97, 46, 98]⟩ : ByteArray), .string (⟨#[98]⟩ : ByteArray), .int .i64 (rd y260 x9_3)] rfl (by (try simp only [List.map_toArray, List.map_cons, List.map_nil]); first | done | rfl | (simp only [List.length_drop, List.length_take]; rfl)) ?_; (with_reducible refine (chinoiserielaw06_HostWrites.calls k3 (⟨#[97, 46, 98]⟩ : ByteArray) (⟨#[98]⟩ : ByteArray) (rd y260 x9_3) true _ A97.out).mono ?_); rintro e w100 ⟨rfl, hb⟩; refine ⟨_, rfl, ?_⟩; have n0_ := Aside0.mk (Kd.R_below (by (with_reducible repeat (first | apply Kd.R_alloc | apply Kd.R_drewN | apply Kd.R_drew)); exact HO_8.out) hb); have n1_ := Aside0.mk (below_step (by repeat (first | (with_reducible first | exact HB.out | apply below_alloc | apply pw_below_drewN | apply below_drew1) | exact HB.out)) hb); clear HO_8; clear HB; have HO_8 := n0_; have HB := n1_; clear n0_ n1_; (try clear hb); (try clear hb2); (try clear hk); (try clear hi)))
                                                      go_roundg k3
                                                      case measure => have := HK1.out; have := HK2.out; have := HK3.out; omega
                                                      case rel => exact ⟨(wrap64 (x9_3 + 1)), (by first | rfl | (simp; done) | (simp [*]; done)), H', ⟨by have := HK1.out; have := HK2.out; have := HK3.out; omega⟩, ⟨by (with_reducible repeat (first | apply Kd.R_alloc | apply Kd.R_drewN | apply Kd.R_drew)); exact HO_8.out⟩, ⟨by repeat (first | (with_reducible first | exact HB.out | apply below_alloc | apply pw_below_drewN | apply below_drew1) | exact HB.out)⟩⟩
                                                    · replace c98 := Bool.eq_false_iff.mpr c98
                                                      subst c98
                                                      have H1 : (some false) = some r := by rw [if_neg (show ¬ (false = true) by decide)] at H; exact H
                                                      clear H
                                                      have H := H1
                                                      clear H1
                                                      obtain rfl := Option.some.inj H
                                                      obtain ⟨Ao101, co101, eo101⟩ := Kd.R_slice HO_8.out
                                                      subst eo101
                                                      have p263 : 0 ≤ (x9_3 : Int) := of_decide_eq_true (by first | (with_reducible assumption) | assumption)
                                                      have q263 : x9_3 < (y260.length : Int) := of_decide_eq_true (by first | (with_reducible assumption) | assumption)
                                                      obtain ⟨ad263, e263, hx263_0⟩ := Kd.at_int (Kd.R_reads' HO_8.out).2.2 x9_3 p263 q263
                                                      cases e263
                                                      replace p263 := eq_true p263
                                                      replace q263 := eq_true q263
                                                      go_wp2_with (first | ((with_reducible refine gate_callee (f := 4) rfl ?_); refine goesL_ (some 116) rfl rfl Tryd.func4 (by kernel_rfl) rfl #[.string (⟨#[97, 46, 98]⟩ : ByteArray), .string (⟨#[98]⟩ : ByteArray), .int .i64 (rd y260 x9_3)] rfl (by (try simp only [List.map_toArray, List.map_cons, List.map_nil]); first | done | rfl | (simp only [List.length_drop, List.length_take]; rfl)) ?_; (with_reducible refine (chinoiserielaw06_HostWrites.calls k3 (⟨#[97, 46, 98]⟩ : ByteArray) (⟨#[98]⟩ : ByteArray) (rd y260 x9_3) false _ A97.out).mono ?_); rintro e w102 ⟨rfl, hb⟩; refine ⟨_, rfl, ?_⟩; have n0_ := Aside0.mk (Kd.R_below (by (with_reducible repeat (first | apply Kd.R_alloc | apply Kd.R_drewN | apply Kd.R_drew)); exact HO_8.out) hb); have n1_ := Aside0.mk (below_step (by repeat (first | (with_reducible first | exact HB.out | apply below_alloc | apply pw_below_drewN | apply below_drew1) | exact HB.out)) hb); clear HO_8; clear HB; have HO_8 := n0_; have HB := n1_; clear n0_ n1_; (try clear hb); (try clear hb2); (try clear hk); (try clear hi)))
                                                      go_ret
                                                      exact ⟨by first | rfl | (simp [errW_none, errW_some] <;> rfl) | (simp [*, errW_none, errW_some] <;> rfl), by repeat (first | (with_reducible first | exact HB.out | apply below_alloc | apply pw_below_drewN | apply below_drew1) | exact HB.out)⟩
                                                  · rw [if_neg c96] at H
                                                    exact absurd H (by simp)
                                                · rw [if_neg c95] at H
                                                  have c95b0 : decide (x9_3 < (y260.length : Int)) = false := decide_eq_false c95
                                                  clear c95
                                                  replace H := Option.bind_eq_some_iff.mp H
                                                  obtain ⟨t265, A1030, H⟩ := H
                                                  replace H : (some t265) = some r := H
                                                  have A103 := Aside0.mk A1030
                                                  clear A1030
                                                  obtain rfl := Option.some.inj H
                                                  obtain ⟨Ao104, co104, eo104⟩ := Kd.R_slice HO_8.out
                                                  subst eo104
                                                  go_wp2_with (first | (go_at_call 17; (with_reducible refine (chinoiserielaw06_works.calls k3  t265 _ A103.out).mono ?_); rintro e w105 ⟨rfl, hb⟩; have n0_ := Aside0.mk (Kd.R_below (by (with_reducible repeat (first | apply Kd.R_alloc | apply Kd.R_drewN | apply Kd.R_drew)); exact HO_8.out) hb); have n1_ := Aside0.mk (below_step (by repeat (first | (with_reducible first | exact HB.out | apply below_alloc | apply pw_below_drewN | apply below_drew1) | exact HB.out)) hb); clear HO_8; clear HB; have HO_8 := n0_; have HB := n1_; clear n0_ n1_; (try clear hb); (try clear hb2); (try clear hk); (try clear hi)))
                                                  go_ret
                                                  exact ⟨by first | rfl | (simp [errW_none, errW_some] <;> rfl) | (simp [*, errW_none, errW_some] <;> rfl), by repeat (first | (with_reducible first | exact HB.out | apply below_alloc | apply pw_below_drewN | apply below_drew1) | exact HB.out)⟩
                                    · rw [if_neg c70] at H
                                      exact absurd H (by simp)
                                  · rw [if_neg c69] at H
                                    exact absurd H (by simp)
                                · rw [if_neg c66] at H
                                  exact absurd H (by simp)
                              · rw [if_neg c65] at H
                                exact absurd H (by simp)
                            · rw [if_neg c64] at H
                              exact absurd H (by simp)
                          · rw [if_neg c63] at H
                            exact absurd H (by simp)
                        · rw [if_neg c62] at H
                          exact absurd H (by simp)
                      · rw [if_neg c61] at H
                        exact absurd H (by simp)
                    · rw [if_neg c60] at H
                      exact absurd H (by simp)
                  · rw [if_neg c59] at H
                    exact absurd H (by simp)
                · rw [if_neg c58] at H
                  exact absurd H (by simp)
              · rw [if_neg c57] at H
                exact absurd H (by simp)
            · rw [if_neg c56] at H
              exact absurd H (by simp)
          · rw [if_neg c55] at H
            exact absurd H (by simp)
        · rw [if_neg c54] at H
          exact absurd H (by simp)

end Go.Proofs.YtipmnecfbbjahaaDoor.PHost
