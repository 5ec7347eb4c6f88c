-- Printed by a program of this session (wip/tools/xprint.py) out of the translation. Not trusted: Lean checks it.
import Derived.Test.YtbdafijdfpmdiaaDoorPHeadx0
import Derived.Test.YtbdafijdfpmdiaaDoorPHeadx3
import Derived.Test.YtbdafijdfpmdiaaDoorPHeadx4
import Derived.Test.YtbdafijdfpmdiaaDoorPHeadx5
import Derived.Test.YtbdafijdfpmdiaaDoorPHeadx8
import Derived.Test.YtbdafijdfpmdiaaDoorExt0
import Derived.Test.YtbdafijdfpmdiaaDoorExt1
namespace Go.Proofs.YtbdafijdfpmdiaaDoor.PHead
open Go.RowKit Go.Proofs.YtbdafijdfpmdiaaDoorW.PrintWords Go.Proofs.YtbdafijdfpmdiaaDoorW.PrintLast Go.Proofs.YtbdafijdfpmdiaaDoorW.PrintMore
attribute [local go_sem] max2_int min2_int max_two min_two max_three min_three max_four min_four   -- for this text's walks alone
set_option linter.unusedVariables false
set_option linter.unusedSimpArgs false

/-! ### chinoiserielaw04_works: function 28 -/
def chinoiserielaw04_works.f (k : Nat)  : Option (Bool) := (head_Alike.f (⟨#[88, 45, 67, 116, 120]⟩ : ByteArray) (⟨#[120, 45, 99, 116, 120]⟩ : ByteArray)).bind fun t198 => (if t198 = true then ((head_Alike.f (⟨#[97, 32, 98]⟩ : ByteArray) (⟨#[97, 32, 98]⟩ : ByteArray)).bind fun t199 => (if t199 = true then (none) else ((head_Lower.f (⟨#[88, 45, 67, 116, 120]⟩ : ByteArray)).bind fun t200 => ((chinoiserielaw04_line.f (⟨#[65, 58, 32, 49]⟩ : ByteArray) (⟨#[65]⟩ : ByteArray) (⟨#[49]⟩ : ByteArray)).bind fun t201 => (if t201 = true then ((chinoiserielaw04_line.f (⟨#[65, 58, 9, 49, 32]⟩ : ByteArray) (⟨#[65]⟩ : ByteArray) (⟨#[49]⟩ : ByteArray)).bind fun t202 => (if t202 = true then ((chinoiserielaw04_wrong.f (⟨#[65, 32, 58, 32, 49]⟩ : ByteArray)).bind fun t203 => (if t203 = true then ((chinoiserielaw04_wrong.f (⟨#[58, 32, 49]⟩ : ByteArray)).bind fun t204 => (if t204 = true then ((chinoiserielaw04_wrong.f (⟨#[65]⟩ : ByteArray)).bind fun t205 => ((some (([(⟨(⟨#[65]⟩ : ByteArray), (⟨#[49]⟩ : ByteArray)⟩ : S28), (⟨(⟨#[98]⟩ : ByteArray), (⟨#[50]⟩ : ByteArray)⟩ : S28), (⟨(⟨#[97]⟩ : ByteArray), (⟨#[51]⟩ : ByteArray)⟩ : S28)] : List (S28)) : List (S28))).bind fun y206 => ((head_Get.f y206 (⟨#[65]⟩ : ByteArray)).bind fun bt209 => ((head_Set.f y206 (⟨#[97]⟩ : ByteArray) (⟨#[52]⟩ : ByteArray)).bind fun bt211 => (if bt209.1.toList = ([49] : List UInt8) then (if bt209.2 = 2 then (if bt211.2 = 0 then ((head_Same.f k bt211.1 (([(⟨(⟨#[98]⟩ : ByteArray), (⟨#[50]⟩ : ByteArray)⟩ : S28), (⟨(⟨#[97]⟩ : ByteArray), (⟨#[52]⟩ : ByteArray)⟩ : S28)] : List (S28)))).bind fun t218 => (if t218 = true then ((head_Drop.f y206 (⟨#[66]⟩ : ByteArray)).bind fun t219 => (if 0 < (y206.length : Int) then (if 2 < (y206.length : Int) then ((head_Same.f k t219 (([(⟨(rd_T28 y206 0).f0, (rd_T28 y206 0).f1⟩ : S28), (⟨(rd_T28 y206 2).f0, (rd_T28 y206 2).f1⟩ : S28)] : List (S28)))).bind fun t227 => (if t227 = true then ((head_Strip.f y206 (⟨#[65]⟩ : ByteArray)).bind fun t228 => (if 1 < (y206.length : Int) then ((head_Same.f k t228 (([(⟨(rd_T28 y206 1).f0, (rd_T28 y206 1).f1⟩ : S28)] : List (S28)))).bind fun t235 => ((head_Bytes.f k (([(⟨(⟨#[65]⟩ : ByteArray), (⟨#[49]⟩ : ByteArray)⟩ : S28), (⟨(⟨#[98]⟩ : ByteArray), (⟨#[]⟩ : ByteArray)⟩ : S28)] : List (S28)))).bind fun bt239 => (if t200.toList = ([120, 45, 99, 116, 120] : List UInt8) then (if t205 = true then (if t235 = true then (if bt239.2 = 0 then (some ((strOfNums bt239.1).toList == ([65, 58, 32, 49, 13, 10, 98, 58, 32, 13, 10] : List UInt8))) else (none)) else (none)) else (none)) else (none)))) else (none))) else (none))) else (none)) else (none))) else (none))) else (none)) else (none)) else (none)))))) else (none))) else (none))) else (none))) else (none)))))) else (none))
theorem chinoiserielaw04_works.mono : ∀ k, LeO (chinoiserielaw04_works.f k ) (chinoiserielaw04_works.f (k + 1) ) := by
  intro  k
  unfold chinoiserielaw04_works.f
  repeat' first
      | (with_reducible exact head_Bytes.mono _ _)
      | (with_reducible exact head_Same.mono _ _ _)
      | (with_reducible exact LeO.refl _)
      | (with_reducible exact LeO.none _)
      | (with_reducible refine LeO.ite ?_ ?_)
      | (with_reducible refine LeO.bind ?_ (fun _ => ?_))
      | exact head_Bytes.mono _ _
      | exact head_Same.mono _ _ _
      | exact LeO.none _
      | refine LeO.ite ?_ ?_
      | refine LeO.bind ?_ (fun _ => ?_)
def chinoiserielaw04_works.T6 : Bool × List (List Nat × List Nat) := (true, [([], []), ([0], [0]), ([1], [1]), ([2], [2]), ([3, 2], [2, 3]), ([2, 4], [2, 4]), ([5, 2], [5]), ([6], [6]), ([7, 6], [6, 7]), ([6, 8], [6, 8]), ([9, 6], [9]), ([10], [10]), ([10], [10]), ([10], [10]), ([12, 13, 10], [10, 12, 13]), ([11, 14, 10, 10], [10, 11, 14]), ([10, 15], [10, 15]), ([16, 15], [16]), ([17], [17]), ([18, 17, 17], [17, 18]), ([17], [17]), ([20, 17], [17, 20]), ([21, 17], [17, 21]), ([17], [17]), ([23, 17], [17, 23]), ([24, 17], [17, 24]), ([22, 25, 17], [17, 22, 25]), ([19, 26, 19, 17], [17, 19, 26]), ([17, 27], [17, 27]), ([28, 27], [28]), ([29], [29]), ([30, 29, 29], [29, 30]), ([29], [29]), ([32, 29], [29, 32]), ([33, 29], [29, 33]), ([34, 29], [29, 34]), ([31, 35, 31, 29], [29, 31, 35]), ([29, 36], [29, 36]), ([37, 36, 0, 1, 2, 3, 4, 5, 6, 7, 8, 9, 10, 11, 12, 13, 14, 15, 16, 17, 18, 19, 20, 21, 22, 23, 24, 25, 26, 27, 28, 29, 30, 31, 32, 33, 34, 35, 36, 37], [37])])
def chinoiserielaw04_works.B6 : List Nat := [0, 1, 3, 7, 15, 31, 63, 127, 255, 511, 1023, 2047, 2047, 2047, 14335, 32767, 65535, 131071, 262143, 524287, 262143, 1310719, 3407871, 262143, 8650751, 25427967, 66322431, 134217727, 268435455, 536870911, 1073741823, 2147483647, 1073741823, 5368709119, 13958643711, 31138512895, 68719476735, 137438953471, 274877906943]
theorem chinoiserielaw04_works.tab6 : rtab .any (opsOf Tryd.f28 6) = chinoiserielaw04_works.T6 := by kernel_rfl
theorem chinoiserielaw04_works.bits6 : waitsOk chinoiserielaw04_works.T6.2 chinoiserielaw04_works.B6 = true := by kernel_rfl
set_option maxHeartbeats 8000000 in
set_option maxRecDepth 100000 in
theorem chinoiserielaw04_works.calls (k : Nat)  (r : Bool) (w : World) (h : chinoiserielaw04_works.f k  = some r) :
    Calls Tryd.prog 28 #[] w fun e w' => e = .returned (.bool r) ∧ Below w.heap.size w w' := by
  have hu28 := Tryd.underlying28
  have HB := Aside0.mk (Below.refl w.heap.size w)
  have H : ((head_Alike.f (⟨#[88, 45, 67, 116, 120]⟩ : ByteArray) (⟨#[120, 45, 99, 116, 120]⟩ : ByteArray)).bind fun t198 => (if t198 = true then ((head_Alike.f (⟨#[97, 32, 98]⟩ : ByteArray) (⟨#[97, 32, 98]⟩ : ByteArray)).bind fun t199 => (if t199 = true then (none) else ((head_Lower.f (⟨#[88, 45, 67, 116, 120]⟩ : ByteArray)).bind fun t200 => ((chinoiserielaw04_line.f (⟨#[65, 58, 32, 49]⟩ : ByteArray) (⟨#[65]⟩ : ByteArray) (⟨#[49]⟩ : ByteArray)).bind fun t201 => (if t201 = true then ((chinoiserielaw04_line.f (⟨#[65, 58, 9, 49, 32]⟩ : ByteArray) (⟨#[65]⟩ : ByteArray) (⟨#[49]⟩ : ByteArray)).bind fun t202 => (if t202 = true then ((chinoiserielaw04_wrong.f (⟨#[65, 32, 58, 32, 49]⟩ : ByteArray)).bind fun t203 => (if t203 = true then ((chinoiserielaw04_wrong.f (⟨#[58, 32, 49]⟩ : ByteArray)).bind fun t204 => (if t204 = true then ((chinoiserielaw04_wrong.f (⟨#[65]⟩ : ByteArray)).bind fun t205 => ((some (([(⟨(⟨#[65]⟩ : ByteArray), (⟨#[49]⟩ : ByteArray)⟩ : S28), (⟨(⟨#[98]⟩ : ByteArray), (⟨#[50]⟩ : ByteArray)⟩ : S28), (⟨(⟨#[97]⟩ : ByteArray), (⟨#[51]⟩ : ByteArray)⟩ : S28)] : List (S28)) : List (S28))).bind fun y206 => ((head_Get.f y206 (⟨#[65]⟩ : ByteArray)).bind fun bt209 => ((head_Set.f y206 (⟨#[97]⟩ : ByteArray) (⟨#[52]⟩ : ByteArray)).bind fun bt211 => (if bt209.1.toList = ([49] : List UInt8) then (if bt209.2 = 2 then (if bt211.2 = 0 then ((head_Same.f k bt211.1 (([(⟨(⟨#[98]⟩ : ByteArray), (⟨#[50]⟩ : ByteArray)⟩ : S28), (⟨(⟨#[97]⟩ : ByteArray), (⟨#[52]⟩ : ByteArray)⟩ : S28)] : List (S28)))).bind fun t218 => (if t218 = true then ((head_Drop.f y206 (⟨#[66]⟩ : ByteArray)).bind fun t219 => (if 0 < (y206.length : Int) then (if 2 < (y206.length : Int) then ((head_Same.f k t219 (([(⟨(rd_T28 y206 0).f0, (rd_T28 y206 0).f1⟩ : S28), (⟨(rd_T28 y206 2).f0, (rd_T28 y206 2).f1⟩ : S28)] : List (S28)))).bind fun t227 => (if t227 = true then ((head_Strip.f y206 (⟨#[65]⟩ : ByteArray)).bind fun t228 => (if 1 < (y206.length : Int) then ((head_Same.f k t228 (([(⟨(rd_T28 y206 1).f0, (rd_T28 y206 1).f1⟩ : S28)] : List (S28)))).bind fun t235 => ((head_Bytes.f k (([(⟨(⟨#[65]⟩ : ByteArray), (⟨#[49]⟩ : ByteArray)⟩ : S28), (⟨(⟨#[98]⟩ : ByteArray), (⟨#[]⟩ : ByteArray)⟩ : S28)] : List (S28)))).bind fun bt239 => (if t200.toList = ([120, 45, 99, 116, 120] : List UInt8) then (if t205 = true then (if t235 = true then (if bt239.2 = 0 then (some ((strOfNums bt239.1).toList == ([65, 58, 32, 49, 13, 10, 98, 58, 32, 13, 10] : List UInt8))) else (none)) else (none)) else (none)) else (none)))) else (none))) else (none))) else (none)) else (none))) else (none))) else (none)) else (none)) else (none)))))) else (none))) else (none))) else (none))) else (none)))))) else (none))) = some r := h
  clear h
  replace H := Option.bind_eq_some_iff.mp H
  obtain ⟨t198, A10, H⟩ := H
  replace H : (if t198 = true then ((head_Alike.f (⟨#[97, 32, 98]⟩ : ByteArray) (⟨#[97, 32, 98]⟩ : ByteArray)).bind fun t199 => (if t199 = true then (none) else ((head_Lower.f (⟨#[88, 45, 67, 116, 120]⟩ : ByteArray)).bind fun t200 => ((chinoiserielaw04_line.f (⟨#[65, 58, 32, 49]⟩ : ByteArray) (⟨#[65]⟩ : ByteArray) (⟨#[49]⟩ : ByteArray)).bind fun t201 => (if t201 = true then ((chinoiserielaw04_line.f (⟨#[65, 58, 9, 49, 32]⟩ : ByteArray) (⟨#[65]⟩ : ByteArray) (⟨#[49]⟩ : ByteArray)).bind fun t202 => (if t202 = true then ((chinoiserielaw04_wrong.f (⟨#[65, 32, 58, 32, 49]⟩ : ByteArray)).bind fun t203 => (if t203 = true then ((chinoiserielaw04_wrong.f (⟨#[58, 32, 49]⟩ : ByteArray)).bind fun t204 => (if t204 = true then ((chinoiserielaw04_wrong.f (⟨#[65]⟩ : ByteArray)).bind fun t205 => ((some (([(⟨(⟨#[65]⟩ : ByteArray), (⟨#[49]⟩ : ByteArray)⟩ : S28), (⟨(⟨#[98]⟩ : ByteArray), (⟨#[50]⟩ : ByteArray)⟩ : S28), (⟨(⟨#[97]⟩ : ByteArray), (⟨#[51]⟩ : ByteArray)⟩ : S28)] : List (S28)) : List (S28))).bind fun y206 => ((head_Get.f y206 (⟨#[65]⟩ : ByteArray)).bind fun bt209 => ((head_Set.f y206 (⟨#[97]⟩ : ByteArray) (⟨#[52]⟩ : ByteArray)).bind fun bt211 => (if bt209.1.toList = ([49] : List UInt8) then (if bt209.2 = 2 then (if bt211.2 = 0 then ((head_Same.f k bt211.1 (([(⟨(⟨#[98]⟩ : ByteArray), (⟨#[50]⟩ : ByteArray)⟩ : S28), (⟨(⟨#[97]⟩ : ByteArray), (⟨#[52]⟩ : ByteArray)⟩ : S28)] : List (S28)))).bind fun t218 => (if t218 = true then ((head_Drop.f y206 (⟨#[66]⟩ : ByteArray)).bind fun t219 => (if 0 < (y206.length : Int) then (if 2 < (y206.length : Int) then ((head_Same.f k t219 (([(⟨(rd_T28 y206 0).f0, (rd_T28 y206 0).f1⟩ : S28), (⟨(rd_T28 y206 2).f0, (rd_T28 y206 2).f1⟩ : S28)] : List (S28)))).bind fun t227 => (if t227 = true then ((head_Strip.f y206 (⟨#[65]⟩ : ByteArray)).bind fun t228 => (if 1 < (y206.length : Int) then ((head_Same.f k t228 (([(⟨(rd_T28 y206 1).f0, (rd_T28 y206 1).f1⟩ : S28)] : List (S28)))).bind fun t235 => ((head_Bytes.f k (([(⟨(⟨#[65]⟩ : ByteArray), (⟨#[49]⟩ : ByteArray)⟩ : S28), (⟨(⟨#[98]⟩ : ByteArray), (⟨#[]⟩ : ByteArray)⟩ : S28)] : List (S28)))).bind fun bt239 => (if t200.toList = ([120, 45, 99, 116, 120] : List UInt8) then (if t205 = true then (if t235 = true then (if bt239.2 = 0 then (some ((strOfNums bt239.1).toList == ([65, 58, 32, 49, 13, 10, 98, 58, 32, 13, 10] : List UInt8))) else (none)) else (none)) else (none)) else (none)))) else (none))) else (none))) else (none)) else (none))) else (none))) else (none)) else (none)) else (none)))))) else (none))) else (none))) else (none))) else (none)))))) else (none)) = some r := H
  have A1 := Aside0.mk A10
  clear A10
  by_cases c2 : t198 = true
  rotate_left
  · replace c2 := Bool.eq_false_iff.mpr c2
    subst c2
    have H1 : (none) = some r := by rw [if_neg (show ¬ (false = true) by decide)] at H; exact H
    clear H
    have H := H1
    clear H1
    exact absurd H (by simp)
  subst c2
  have H1 : ((head_Alike.f (⟨#[97, 32, 98]⟩ : ByteArray) (⟨#[97, 32, 98]⟩ : ByteArray)).bind fun t199 => (if t199 = true then (none) else ((head_Lower.f (⟨#[88, 45, 67, 116, 120]⟩ : ByteArray)).bind fun t200 => ((chinoiserielaw04_line.f (⟨#[65, 58, 32, 49]⟩ : ByteArray) (⟨#[65]⟩ : ByteArray) (⟨#[49]⟩ : ByteArray)).bind fun t201 => (if t201 = true then ((chinoiserielaw04_line.f (⟨#[65, 58, 9, 49, 32]⟩ : ByteArray) (⟨#[65]⟩ : ByteArray) (⟨#[49]⟩ : ByteArray)).bind fun t202 => (if t202 = true then ((chinoiserielaw04_wrong.f (⟨#[65, 32, 58, 32, 49]⟩ : ByteArray)).bind fun t203 => (if t203 = true then ((chinoiserielaw04_wrong.f (⟨#[58, 32, 49]⟩ : ByteArray)).bind fun t204 => (if t204 = true then ((chinoiserielaw04_wrong.f (⟨#[65]⟩ : ByteArray)).bind fun t205 => ((some (([(⟨(⟨#[65]⟩ : ByteArray), (⟨#[49]⟩ : ByteArray)⟩ : S28), (⟨(⟨#[98]⟩ : ByteArray), (⟨#[50]⟩ : ByteArray)⟩ : S28), (⟨(⟨#[97]⟩ : ByteArray), (⟨#[51]⟩ : ByteArray)⟩ : S28)] : List (S28)) : List (S28))).bind fun y206 => ((head_Get.f y206 (⟨#[65]⟩ : ByteArray)).bind fun bt209 => ((head_Set.f y206 (⟨#[97]⟩ : ByteArray) (⟨#[52]⟩ : ByteArray)).bind fun bt211 => (if bt209.1.toList = ([49] : List UInt8) then (if bt209.2 = 2 then (if bt211.2 = 0 then ((head_Same.f k bt211.1 (([(⟨(⟨#[98]⟩ : ByteArray), (⟨#[50]⟩ : ByteArray)⟩ : S28), (⟨(⟨#[97]⟩ : ByteArray), (⟨#[52]⟩ : ByteArray)⟩ : S28)] : List (S28)))).bind fun t218 => (if t218 = true then ((head_Drop.f y206 (⟨#[66]⟩ : ByteArray)).bind fun t219 => (if 0 < (y206.length : Int) then (if 2 < (y206.length : Int) then ((head_Same.f k t219 (([(⟨(rd_T28 y206 0).f0, (rd_T28 y206 0).f1⟩ : S28), (⟨(rd_T28 y206 2).f0, (rd_T28 y206 2).f1⟩ : S28)] : List (S28)))).bind fun t227 => (if t227 = true then ((head_Strip.f y206 (⟨#[65]⟩ : ByteArray)).bind fun t228 => (if 1 < (y206.length : Int) then ((head_Same.f k t228 (([(⟨(rd_T28 y206 1).f0, (rd_T28 y206 1).f1⟩ : S28)] : List (S28)))).bind fun t235 => ((head_Bytes.f k (([(⟨(⟨#[65]⟩ : ByteArray), (⟨#[49]⟩ : ByteArray)⟩ : S28), (⟨(⟨#[98]⟩ : ByteArray), (⟨#[]⟩ : ByteArray)⟩ : S28)] : List (S28)))).bind fun bt239 => (if t200.toList = ([120, 45, 99, 116, 120] : List UInt8) then (if t205 = true then (if t235 = true then (if bt239.2 = 0 then (some ((strOfNums bt239.1).toList == ([65, 58, 32, 49, 13, 10, 98, 58, 32, 13, 10] : List UInt8))) else (none)) else (none)) else (none)) else (none)))) else (none))) else (none))) else (none)) else (none))) else (none))) else (none)) else (none)) else (none)))))) else (none))) else (none))) else (none))) else (none)))))) = some r := by rw [if_pos rfl] at H; exact H
  clear H
  have H := H1
  clear H1
  replace H := Option.bind_eq_some_iff.mp H
  obtain ⟨t199, A30, H⟩ := H
  replace H : (if t199 = true then (none) else ((head_Lower.f (⟨#[88, 45, 67, 116, 120]⟩ : ByteArray)).bind fun t200 => ((chinoiserielaw04_line.f (⟨#[65, 58, 32, 49]⟩ : ByteArray) (⟨#[65]⟩ : ByteArray) (⟨#[49]⟩ : ByteArray)).bind fun t201 => (if t201 = true then ((chinoiserielaw04_line.f (⟨#[65, 58, 9, 49, 32]⟩ : ByteArray) (⟨#[65]⟩ : ByteArray) (⟨#[49]⟩ : ByteArray)).bind fun t202 => (if t202 = true then ((chinoiserielaw04_wrong.f (⟨#[65, 32, 58, 32, 49]⟩ : ByteArray)).bind fun t203 => (if t203 = true then ((chinoiserielaw04_wrong.f (⟨#[58, 32, 49]⟩ : ByteArray)).bind fun t204 => (if t204 = true then ((chinoiserielaw04_wrong.f (⟨#[65]⟩ : ByteArray)).bind fun t205 => ((some (([(⟨(⟨#[65]⟩ : ByteArray), (⟨#[49]⟩ : ByteArray)⟩ : S28), (⟨(⟨#[98]⟩ : ByteArray), (⟨#[50]⟩ : ByteArray)⟩ : S28), (⟨(⟨#[97]⟩ : ByteArray), (⟨#[51]⟩ : ByteArray)⟩ : S28)] : List (S28)) : List (S28))).bind fun y206 => ((head_Get.f y206 (⟨#[65]⟩ : ByteArray)).bind fun bt209 => ((head_Set.f y206 (⟨#[97]⟩ : ByteArray) (⟨#[52]⟩ : ByteArray)).bind fun bt211 => (if bt209.1.toList = ([49] : List UInt8) then (if bt209.2 = 2 then (if bt211.2 = 0 then ((head_Same.f k bt211.1 (([(⟨(⟨#[98]⟩ : ByteArray), (⟨#[50]⟩ : ByteArray)⟩ : S28), (⟨(⟨#[97]⟩ : ByteArray), (⟨#[52]⟩ : ByteArray)⟩ : S28)] : List (S28)))).bind fun t218 => (if t218 = true then ((head_Drop.f y206 (⟨#[66]⟩ : ByteArray)).bind fun t219 => (if 0 < (y206.length : Int) then (if 2 < (y206.length : Int) then ((head_Same.f k t219 (([(⟨(rd_T28 y206 0).f0, (rd_T28 y206 0).f1⟩ : S28), (⟨(rd_T28 y206 2).f0, (rd_T28 y206 2).f1⟩ : S28)] : List (S28)))).bind fun t227 => (if t227 = true then ((head_Strip.f y206 (⟨#[65]⟩ : ByteArray)).bind fun t228 => (if 1 < (y206.length : Int) then ((head_Same.f k t228 (([(⟨(rd_T28 y206 1).f0, (rd_T28 y206 1).f1⟩ : S28)] : List (S28)))).bind fun t235 => ((head_Bytes.f k (([(⟨(⟨#[65]⟩ : ByteArray), (⟨#[49]⟩ : ByteArray)⟩ : S28), (⟨(⟨#[98]⟩ : ByteArray), (⟨#[]⟩ : ByteArray)⟩ : S28)] : List (S28)))).bind fun bt239 => (if t200.toList = ([120, 45, 99, 116, 120] : List UInt8) then (if t205 = true then (if t235 = true then (if bt239.2 = 0 then (some ((strOfNums bt239.1).toList == ([65, 58, 32, 49, 13, 10, 98, 58, 32, 13, 10] : List UInt8))) else (none)) else (none)) else (none)) else (none)))) else (none))) else (none))) else (none)) else (none))) else (none))) else (none)) else (none)) else (none)))))) else (none))) else (none))) else (none))) else (none))))) = some r := H
  have A3 := Aside0.mk A30
  clear A30
  by_cases c4 : t199 = true
  · subst c4
    have H1 : (none) = some r := by rw [if_pos rfl] at H; exact H
    clear H
    have H := H1
    clear H1
    exact absurd H (by simp)
  replace c4 := Bool.eq_false_iff.mpr c4
  subst c4
  have H1 : ((head_Lower.f (⟨#[88, 45, 67, 116, 120]⟩ : ByteArray)).bind fun t200 => ((chinoiserielaw04_line.f (⟨#[65, 58, 32, 49]⟩ : ByteArray) (⟨#[65]⟩ : ByteArray) (⟨#[49]⟩ : ByteArray)).bind fun t201 => (if t201 = true then ((chinoiserielaw04_line.f (⟨#[65, 58, 9, 49, 32]⟩ : ByteArray) (⟨#[65]⟩ : ByteArray) (⟨#[49]⟩ : ByteArray)).bind fun t202 => (if t202 = true then ((chinoiserielaw04_wrong.f (⟨#[65, 32, 58, 32, 49]⟩ : ByteArray)).bind fun t203 => (if t203 = true then ((chinoiserielaw04_wrong.f (⟨#[58, 32, 49]⟩ : ByteArray)).bind fun t204 => (if t204 = true then ((chinoiserielaw04_wrong.f (⟨#[65]⟩ : ByteArray)).bind fun t205 => ((some (([(⟨(⟨#[65]⟩ : ByteArray), (⟨#[49]⟩ : ByteArray)⟩ : S28), (⟨(⟨#[98]⟩ : ByteArray), (⟨#[50]⟩ : ByteArray)⟩ : S28), (⟨(⟨#[97]⟩ : ByteArray), (⟨#[51]⟩ : ByteArray)⟩ : S28)] : List (S28)) : List (S28))).bind fun y206 => ((head_Get.f y206 (⟨#[65]⟩ : ByteArray)).bind fun bt209 => ((head_Set.f y206 (⟨#[97]⟩ : ByteArray) (⟨#[52]⟩ : ByteArray)).bind fun bt211 => (if bt209.1.toList = ([49] : List UInt8) then (if bt209.2 = 2 then (if bt211.2 = 0 then ((head_Same.f k bt211.1 (([(⟨(⟨#[98]⟩ : ByteArray), (⟨#[50]⟩ : ByteArray)⟩ : S28), (⟨(⟨#[97]⟩ : ByteArray), (⟨#[52]⟩ : ByteArray)⟩ : S28)] : List (S28)))).bind fun t218 => (if t218 = true then ((head_Drop.f y206 (⟨#[66]⟩ : ByteArray)).bind fun t219 => (if 0 < (y206.length : Int) then (if 2 < (y206.length : Int) then ((head_Same.f k t219 (([(⟨(rd_T28 y206 0).f0, (rd_T28 y206 0).f1⟩ : S28), (⟨(rd_T28 y206 2).f0, (rd_T28 y206 2).f1⟩ : S28)] : List (S28)))).bind fun t227 => (if t227 = true then ((head_Strip.f y206 (⟨#[65]⟩ : ByteArray)).bind fun t228 => (if 1 < (y206.length : Int) then ((head_Same.f k t228 (([(⟨(rd_T28 y206 1).f0, (rd_T28 y206 1).f1⟩ : S28)] : List (S28)))).bind fun t235 => ((head_Bytes.f k (([(⟨(⟨#[65]⟩ : ByteArray), (⟨#[49]⟩ : ByteArray)⟩ : S28), (⟨(⟨#[98]⟩ : ByteArray), (⟨#[]⟩ : ByteArray)⟩ : S28)] : List (S28)))).bind fun bt239 => (if t200.toList = ([120, 45, 99, 116, 120] : List UInt8) then (if t205 = true then (if t235 = true then (if bt239.2 = 0 then (some ((strOfNums bt239.1).toList == ([65, 58, 32, 49, 13, 10, 98, 58, 32, 13, 10] : List UInt8))) else (none)) else (none)) else (none)) else (none)))) else (none))) else (none))) else (none)) else (none))) else (none))) else (none)) else (none)) else (none)))))) else (none))) else (none))) else (none))) else (none)))) = some r := by rw [if_neg (show ¬ (false = true) by decide)] at H; exact H
  clear H
  have H := H1
  clear H1
  replace H := Option.bind_eq_some_iff.mp H
  obtain ⟨t200, A50, H⟩ := H
  replace H : ((chinoiserielaw04_line.f (⟨#[65, 58, 32, 49]⟩ : ByteArray) (⟨#[65]⟩ : ByteArray) (⟨#[49]⟩ : ByteArray)).bind fun t201 => (if t201 = true then ((chinoiserielaw04_line.f (⟨#[65, 58, 9, 49, 32]⟩ : ByteArray) (⟨#[65]⟩ : ByteArray) (⟨#[49]⟩ : ByteArray)).bind fun t202 => (if t202 = true then ((chinoiserielaw04_wrong.f (⟨#[65, 32, 58, 32, 49]⟩ : ByteArray)).bind fun t203 => (if t203 = true then ((chinoiserielaw04_wrong.f (⟨#[58, 32, 49]⟩ : ByteArray)).bind fun t204 => (if t204 = true then ((chinoiserielaw04_wrong.f (⟨#[65]⟩ : ByteArray)).bind fun t205 => ((some (([(⟨(⟨#[65]⟩ : ByteArray), (⟨#[49]⟩ : ByteArray)⟩ : S28), (⟨(⟨#[98]⟩ : ByteArray), (⟨#[50]⟩ : ByteArray)⟩ : S28), (⟨(⟨#[97]⟩ : ByteArray), (⟨#[51]⟩ : ByteArray)⟩ : S28)] : List (S28)) : List (S28))).bind fun y206 => ((head_Get.f y206 (⟨#[65]⟩ : ByteArray)).bind fun bt209 => ((head_Set.f y206 (⟨#[97]⟩ : ByteArray) (⟨#[52]⟩ : ByteArray)).bind fun bt211 => (if bt209.1.toList = ([49] : List UInt8) then (if bt209.2 = 2 then (if bt211.2 = 0 then ((head_Same.f k bt211.1 (([(⟨(⟨#[98]⟩ : ByteArray), (⟨#[50]⟩ : ByteArray)⟩ : S28), (⟨(⟨#[97]⟩ : ByteArray), (⟨#[52]⟩ : ByteArray)⟩ : S28)] : List (S28)))).bind fun t218 => (if t218 = true then ((head_Drop.f y206 (⟨#[66]⟩ : ByteArray)).bind fun t219 => (if 0 < (y206.length : Int) then (if 2 < (y206.length : Int) then ((head_Same.f k t219 (([(⟨(rd_T28 y206 0).f0, (rd_T28 y206 0).f1⟩ : S28), (⟨(rd_T28 y206 2).f0, (rd_T28 y206 2).f1⟩ : S28)] : List (S28)))).bind fun t227 => (if t227 = true then ((head_Strip.f y206 (⟨#[65]⟩ : ByteArray)).bind fun t228 => (if 1 < (y206.length : Int) then ((head_Same.f k t228 (([(⟨(rd_T28 y206 1).f0, (rd_T28 y206 1).f1⟩ : S28)] : List (S28)))).bind fun t235 => ((head_Bytes.f k (([(⟨(⟨#[65]⟩ : ByteArray), (⟨#[49]⟩ : ByteArray)⟩ : S28), (⟨(⟨#[98]⟩ : ByteArray), (⟨#[]⟩ : ByteArray)⟩ : S28)] : List (S28)))).bind fun bt239 => (if t200.toList = ([120, 45, 99, 116, 120] : List UInt8) then (if t205 = true then (if t235 = true then (if bt239.2 = 0 then (some ((strOfNums bt239.1).toList == ([65, 58, 32, 49, 13, 10, 98, 58, 32, 13, 10] : List UInt8))) else (none)) else (none)) else (none)) else (none)))) else (none))) else (none))) else (none)) else (none))) else (none))) else (none)) else (none)) else (none)))))) else (none))) else (none))) else (none))) else (none))) = some r := H
  have A5 := Aside0.mk A50
  clear A50
  replace H := Option.bind_eq_some_iff.mp H
  obtain ⟨t201, A60, H⟩ := H
  replace H : (if t201 = true then ((chinoiserielaw04_line.f (⟨#[65, 58, 9, 49, 32]⟩ : ByteArray) (⟨#[65]⟩ : ByteArray) (⟨#[49]⟩ : ByteArray)).bind fun t202 => (if t202 = true then ((chinoiserielaw04_wrong.f (⟨#[65, 32, 58, 32, 49]⟩ : ByteArray)).bind fun t203 => (if t203 = true then ((chinoiserielaw04_wrong.f (⟨#[58, 32, 49]⟩ : ByteArray)).bind fun t204 => (if t204 = true then ((chinoiserielaw04_wrong.f (⟨#[65]⟩ : ByteArray)).bind fun t205 => ((some (([(⟨(⟨#[65]⟩ : ByteArray), (⟨#[49]⟩ : ByteArray)⟩ : S28), (⟨(⟨#[98]⟩ : ByteArray), (⟨#[50]⟩ : ByteArray)⟩ : S28), (⟨(⟨#[97]⟩ : ByteArray), (⟨#[51]⟩ : ByteArray)⟩ : S28)] : List (S28)) : List (S28))).bind fun y206 => ((head_Get.f y206 (⟨#[65]⟩ : ByteArray)).bind fun bt209 => ((head_Set.f y206 (⟨#[97]⟩ : ByteArray) (⟨#[52]⟩ : ByteArray)).bind fun bt211 => (if bt209.1.toList = ([49] : List UInt8) then (if bt209.2 = 2 then (if bt211.2 = 0 then ((head_Same.f k bt211.1 (([(⟨(⟨#[98]⟩ : ByteArray), (⟨#[50]⟩ : ByteArray)⟩ : S28), (⟨(⟨#[97]⟩ : ByteArray), (⟨#[52]⟩ : ByteArray)⟩ : S28)] : List (S28)))).bind fun t218 => (if t218 = true then ((head_Drop.f y206 (⟨#[66]⟩ : ByteArray)).bind fun t219 => (if 0 < (y206.length : Int) then (if 2 < (y206.length : Int) then ((head_Same.f k t219 (([(⟨(rd_T28 y206 0).f0, (rd_T28 y206 0).f1⟩ : S28), (⟨(rd_T28 y206 2).f0, (rd_T28 y206 2).f1⟩ : S28)] : List (S28)))).bind fun t227 => (if t227 = true then ((head_Strip.f y206 (⟨#[65]⟩ : ByteArray)).bind fun t228 => (if 1 < (y206.length : Int) then ((head_Same.f k t228 (([(⟨(rd_T28 y206 1).f0, (rd_T28 y206 1).f1⟩ : S28)] : List (S28)))).bind fun t235 => ((head_Bytes.f k (([(⟨(⟨#[65]⟩ : ByteArray), (⟨#[49]⟩ : ByteArray)⟩ : S28), (⟨(⟨#[98]⟩ : ByteArray), (⟨#[]⟩ : ByteArray)⟩ : S28)] : List (S28)))).bind fun bt239 => (if t200.toList = ([120, 45, 99, 116, 120] : List UInt8) then (if t205 = true then (if t235 = true then (if bt239.2 = 0 then (some ((strOfNums bt239.1).toList == ([65, 58, 32, 49, 13, 10, 98, 58, 32, 13, 10] : List UInt8))) else (none)) else (none)) else (none)) else (none)))) else (none))) else (none))) else (none)) else (none))) else (none))) else (none)) else (none)) else (none)))))) else (none))) else (none))) else (none))) else (none)) = some r := H
  have A6 := Aside0.mk A60
  clear A60
  by_cases c7 : t201 = true
  rotate_left
  · replace c7 := Bool.eq_false_iff.mpr c7
    subst c7
    have H1 : (none) = some r := by rw [if_neg (show ¬ (false = true) by decide)] at H; exact H
    clear H
    have H := H1
    clear H1
    exact absurd H (by simp)
  subst c7
  have H1 : ((chinoiserielaw04_line.f (⟨#[65, 58, 9, 49, 32]⟩ : ByteArray) (⟨#[65]⟩ : ByteArray) (⟨#[49]⟩ : ByteArray)).bind fun t202 => (if t202 = true then ((chinoiserielaw04_wrong.f (⟨#[65, 32, 58, 32, 49]⟩ : ByteArray)).bind fun t203 => (if t203 = true then ((chinoiserielaw04_wrong.f (⟨#[58, 32, 49]⟩ : ByteArray)).bind fun t204 => (if t204 = true then ((chinoiserielaw04_wrong.f (⟨#[65]⟩ : ByteArray)).bind fun t205 => ((some (([(⟨(⟨#[65]⟩ : ByteArray), (⟨#[49]⟩ : ByteArray)⟩ : S28), (⟨(⟨#[98]⟩ : ByteArray), (⟨#[50]⟩ : ByteArray)⟩ : S28), (⟨(⟨#[97]⟩ : ByteArray), (⟨#[51]⟩ : ByteArray)⟩ : S28)] : List (S28)) : List (S28))).bind fun y206 => ((head_Get.f y206 (⟨#[65]⟩ : ByteArray)).bind fun bt209 => ((head_Set.f y206 (⟨#[97]⟩ : ByteArray) (⟨#[52]⟩ : ByteArray)).bind fun bt211 => (if bt209.1.toList = ([49] : List UInt8) then (if bt209.2 = 2 then (if bt211.2 = 0 then ((head_Same.f k bt211.1 (([(⟨(⟨#[98]⟩ : ByteArray), (⟨#[50]⟩ : ByteArray)⟩ : S28), (⟨(⟨#[97]⟩ : ByteArray), (⟨#[52]⟩ : ByteArray)⟩ : S28)] : List (S28)))).bind fun t218 => (if t218 = true then ((head_Drop.f y206 (⟨#[66]⟩ : ByteArray)).bind fun t219 => (if 0 < (y206.length : Int) then (if 2 < (y206.length : Int) then ((head_Same.f k t219 (([(⟨(rd_T28 y206 0).f0, (rd_T28 y206 0).f1⟩ : S28), (⟨(rd_T28 y206 2).f0, (rd_T28 y206 2).f1⟩ : S28)] : List (S28)))).bind fun t227 => (if t227 = true then ((head_Strip.f y206 (⟨#[65]⟩ : ByteArray)).bind fun t228 => (if 1 < (y206.length : Int) then ((head_Same.f k t228 (([(⟨(rd_T28 y206 1).f0, (rd_T28 y206 1).f1⟩ : S28)] : List (S28)))).bind fun t235 => ((head_Bytes.f k (([(⟨(⟨#[65]⟩ : ByteArray), (⟨#[49]⟩ : ByteArray)⟩ : S28), (⟨(⟨#[98]⟩ : ByteArray), (⟨#[]⟩ : ByteArray)⟩ : S28)] : List (S28)))).bind fun bt239 => (if t200.toList = ([120, 45, 99, 116, 120] : List UInt8) then (if t205 = true then (if t235 = true then (if bt239.2 = 0 then (some ((strOfNums bt239.1).toList == ([65, 58, 32, 49, 13, 10, 98, 58, 32, 13, 10] : List UInt8))) else (none)) else (none)) else (none)) else (none)))) else (none))) else (none))) else (none)) else (none))) else (none))) else (none)) else (none)) else (none)))))) else (none))) else (none))) else (none))) = some r := by rw [if_pos rfl] at H; exact H
  clear H
  have H := H1
  clear H1
  replace H := Option.bind_eq_some_iff.mp H
  obtain ⟨t202, A80, H⟩ := H
  replace H : (if t202 = true then ((chinoiserielaw04_wrong.f (⟨#[65, 32, 58, 32, 49]⟩ : ByteArray)).bind fun t203 => (if t203 = true then ((chinoiserielaw04_wrong.f (⟨#[58, 32, 49]⟩ : ByteArray)).bind fun t204 => (if t204 = true then ((chinoiserielaw04_wrong.f (⟨#[65]⟩ : ByteArray)).bind fun t205 => ((some (([(⟨(⟨#[65]⟩ : ByteArray), (⟨#[49]⟩ : ByteArray)⟩ : S28), (⟨(⟨#[98]⟩ : ByteArray), (⟨#[50]⟩ : ByteArray)⟩ : S28), (⟨(⟨#[97]⟩ : ByteArray), (⟨#[51]⟩ : ByteArray)⟩ : S28)] : List (S28)) : List (S28))).bind fun y206 => ((head_Get.f y206 (⟨#[65]⟩ : ByteArray)).bind fun bt209 => ((head_Set.f y206 (⟨#[97]⟩ : ByteArray) (⟨#[52]⟩ : ByteArray)).bind fun bt211 => (if bt209.1.toList = ([49] : List UInt8) then (if bt209.2 = 2 then (if bt211.2 = 0 then ((head_Same.f k bt211.1 (([(⟨(⟨#[98]⟩ : ByteArray), (⟨#[50]⟩ : ByteArray)⟩ : S28), (⟨(⟨#[97]⟩ : ByteArray), (⟨#[52]⟩ : ByteArray)⟩ : S28)] : List (S28)))).bind fun t218 => (if t218 = true then ((head_Drop.f y206 (⟨#[66]⟩ : ByteArray)).bind fun t219 => (if 0 < (y206.length : Int) then (if 2 < (y206.length : Int) then ((head_Same.f k t219 (([(⟨(rd_T28 y206 0).f0, (rd_T28 y206 0).f1⟩ : S28), (⟨(rd_T28 y206 2).f0, (rd_T28 y206 2).f1⟩ : S28)] : List (S28)))).bind fun t227 => (if t227 = true then ((head_Strip.f y206 (⟨#[65]⟩ : ByteArray)).bind fun t228 => (if 1 < (y206.length : Int) then ((head_Same.f k t228 (([(⟨(rd_T28 y206 1).f0, (rd_T28 y206 1).f1⟩ : S28)] : List (S28)))).bind fun t235 => ((head_Bytes.f k (([(⟨(⟨#[65]⟩ : ByteArray), (⟨#[49]⟩ : ByteArray)⟩ : S28), (⟨(⟨#[98]⟩ : ByteArray), (⟨#[]⟩ : ByteArray)⟩ : S28)] : List (S28)))).bind fun bt239 => (if t200.toList = ([120, 45, 99, 116, 120] : List UInt8) then (if t205 = true then (if t235 = true then (if bt239.2 = 0 then (some ((strOfNums bt239.1).toList == ([65, 58, 32, 49, 13, 10, 98, 58, 32, 13, 10] : List UInt8))) else (none)) else (none)) else (none)) else (none)))) else (none))) else (none))) else (none)) else (none))) else (none))) else (none)) else (none)) else (none)))))) else (none))) else (none))) else (none)) = some r := H
  have A8 := Aside0.mk A80
  clear A80
  by_cases c9 : t202 = true
  rotate_left
  · replace c9 := Bool.eq_false_iff.mpr c9
    subst c9
    have H1 : (none) = some r := by rw [if_neg (show ¬ (false = true) by decide)] at H; exact H
    clear H
    have H := H1
    clear H1
    exact absurd H (by simp)
  subst c9
  have H1 : ((chinoiserielaw04_wrong.f (⟨#[65, 32, 58, 32, 49]⟩ : ByteArray)).bind fun t203 => (if t203 = true then ((chinoiserielaw04_wrong.f (⟨#[58, 32, 49]⟩ : ByteArray)).bind fun t204 => (if t204 = true then ((chinoiserielaw04_wrong.f (⟨#[65]⟩ : ByteArray)).bind fun t205 => ((some (([(⟨(⟨#[65]⟩ : ByteArray), (⟨#[49]⟩ : ByteArray)⟩ : S28), (⟨(⟨#[98]⟩ : ByteArray), (⟨#[50]⟩ : ByteArray)⟩ : S28), (⟨(⟨#[97]⟩ : ByteArray), (⟨#[51]⟩ : ByteArray)⟩ : S28)] : List (S28)) : List (S28))).bind fun y206 => ((head_Get.f y206 (⟨#[65]⟩ : ByteArray)).bind fun bt209 => ((head_Set.f y206 (⟨#[97]⟩ : ByteArray) (⟨#[52]⟩ : ByteArray)).bind fun bt211 => (if bt209.1.toList = ([49] : List UInt8) then (if bt209.2 = 2 then (if bt211.2 = 0 then ((head_Same.f k bt211.1 (([(⟨(⟨#[98]⟩ : ByteArray), (⟨#[50]⟩ : ByteArray)⟩ : S28), (⟨(⟨#[97]⟩ : ByteArray), (⟨#[52]⟩ : ByteArray)⟩ : S28)] : List (S28)))).bind fun t218 => (if t218 = true then ((head_Drop.f y206 (⟨#[66]⟩ : ByteArray)).bind fun t219 => (if 0 < (y206.length : Int) then (if 2 < (y206.length : Int) then ((head_Same.f k t219 (([(⟨(rd_T28 y206 0).f0, (rd_T28 y206 0).f1⟩ : S28), (⟨(rd_T28 y206 2).f0, (rd_T28 y206 2).f1⟩ : S28)] : List (S28)))).bind fun t227 => (if t227 = true then ((head_Strip.f y206 (⟨#[65]⟩ : ByteArray)).bind fun t228 => (if 1 < (y206.length : Int) then ((head_Same.f k t228 (([(⟨(rd_T28 y206 1).f0, (rd_T28 y206 1).f1⟩ : S28)] : List (S28)))).bind fun t235 => ((head_Bytes.f k (([(⟨(⟨#[65]⟩ : ByteArray), (⟨#[49]⟩ : ByteArray)⟩ : S28), (⟨(⟨#[98]⟩ : ByteArray), (⟨#[]⟩ : ByteArray)⟩ : S28)] : List (S28)))).bind fun bt239 => (if t200.toList = ([120, 45, 99, 116, 120] : List UInt8) then (if t205 = true then (if t235 = true then (if bt239.2 = 0 then (some ((strOfNums bt239.1).toList == ([65, 58, 32, 49, 13, 10, 98, 58, 32, 13, 10] : List UInt8))) else (none)) else (none)) else (none)) else (none)))) else (none))) else (none))) else (none)) else (none))) else (none))) else (none)) else (none)) else (none)))))) else (none))) else (none))) = some r := by rw [if_pos rfl] at H; exact H
  clear H
  have H := H1
  clear H1
  replace H := Option.bind_eq_some_iff.mp H
  obtain ⟨t203, A100, H⟩ := H
  replace H : (if t203 = true then ((chinoiserielaw04_wrong.f (⟨#[58, 32, 49]⟩ : ByteArray)).bind fun t204 => (if t204 = true then ((chinoiserielaw04_wrong.f (⟨#[65]⟩ : ByteArray)).bind fun t205 => ((some (([(⟨(⟨#[65]⟩ : ByteArray), (⟨#[49]⟩ : ByteArray)⟩ : S28), (⟨(⟨#[98]⟩ : ByteArray), (⟨#[50]⟩ : ByteArray)⟩ : S28), (⟨(⟨#[97]⟩ : ByteArray), (⟨#[51]⟩ : ByteArray)⟩ : S28)] : List (S28)) : List (S28))).bind fun y206 => ((head_Get.f y206 (⟨#[65]⟩ : ByteArray)).bind fun bt209 => ((head_Set.f y206 (⟨#[97]⟩ : ByteArray) (⟨#[52]⟩ : ByteArray)).bind fun bt211 => (if bt209.1.toList = ([49] : List UInt8) then (if bt209.2 = 2 then (if bt211.2 = 0 then ((head_Same.f k bt211.1 (([(⟨(⟨#[98]⟩ : ByteArray), (⟨#[50]⟩ : ByteArray)⟩ : S28), (⟨(⟨#[97]⟩ : ByteArray), (⟨#[52]⟩ : ByteArray)⟩ : S28)] : List (S28)))).bind fun t218 => (if t218 = true then ((head_Drop.f y206 (⟨#[66]⟩ : ByteArray)).bind fun t219 => (if 0 < (y206.length : Int) then (if 2 < (y206.length : Int) then ((head_Same.f k t219 (([(⟨(rd_T28 y206 0).f0, (rd_T28 y206 0).f1⟩ : S28), (⟨(rd_T28 y206 2).f0, (rd_T28 y206 2).f1⟩ : S28)] : List (S28)))).bind fun t227 => (if t227 = true then ((head_Strip.f y206 (⟨#[65]⟩ : ByteArray)).bind fun t228 => (if 1 < (y206.length : Int) then ((head_Same.f k t228 (([(⟨(rd_T28 y206 1).f0, (rd_T28 y206 1).f1⟩ : S28)] : List (S28)))).bind fun t235 => ((head_Bytes.f k (([(⟨(⟨#[65]⟩ : ByteArray), (⟨#[49]⟩ : ByteArray)⟩ : S28), (⟨(⟨#[98]⟩ : ByteArray), (⟨#[]⟩ : ByteArray)⟩ : S28)] : List (S28)))).bind fun bt239 => (if t200.toList = ([120, 45, 99, 116, 120] : List UInt8) then (if t205 = true then (if t235 = true then (if bt239.2 = 0 then (some ((strOfNums bt239.1).toList == ([65, 58, 32, 49, 13, 10, 98, 58, 32, 13, 10] : List UInt8))) else (none)) else (none)) else (none)) else (none)))) else (none))) else (none))) else (none)) else (none))) else (none))) else (none)) else (none)) else (none)))))) else (none))) else (none)) = some r := H
  have A10 := Aside0.mk A100
  clear A100
  by_cases c11 : t203 = true
  rotate_left
  · replace c11 := Bool.eq_false_iff.mpr c11
    subst c11
    have H1 : (none) = some r := by rw [if_neg (show ¬ (false = true) by decide)] at H; exact H
    clear H
    have H := H1
    clear H1
    exact absurd H (by simp)
  subst c11
  have H1 : ((chinoiserielaw04_wrong.f (⟨#[58, 32, 49]⟩ : ByteArray)).bind fun t204 => (if t204 = true then ((chinoiserielaw04_wrong.f (⟨#[65]⟩ : ByteArray)).bind fun t205 => ((some (([(⟨(⟨#[65]⟩ : ByteArray), (⟨#[49]⟩ : ByteArray)⟩ : S28), (⟨(⟨#[98]⟩ : ByteArray), (⟨#[50]⟩ : ByteArray)⟩ : S28), (⟨(⟨#[97]⟩ : ByteArray), (⟨#[51]⟩ : ByteArray)⟩ : S28)] : List (S28)) : List (S28))).bind fun y206 => ((head_Get.f y206 (⟨#[65]⟩ : ByteArray)).bind fun bt209 => ((head_Set.f y206 (⟨#[97]⟩ : ByteArray) (⟨#[52]⟩ : ByteArray)).bind fun bt211 => (if bt209.1.toList = ([49] : List UInt8) then (if bt209.2 = 2 then (if bt211.2 = 0 then ((head_Same.f k bt211.1 (([(⟨(⟨#[98]⟩ : ByteArray), (⟨#[50]⟩ : ByteArray)⟩ : S28), (⟨(⟨#[97]⟩ : ByteArray), (⟨#[52]⟩ : ByteArray)⟩ : S28)] : List (S28)))).bind fun t218 => (if t218 = true then ((head_Drop.f y206 (⟨#[66]⟩ : ByteArray)).bind fun t219 => (if 0 < (y206.length : Int) then (if 2 < (y206.length : Int) then ((head_Same.f k t219 (([(⟨(rd_T28 y206 0).f0, (rd_T28 y206 0).f1⟩ : S28), (⟨(rd_T28 y206 2).f0, (rd_T28 y206 2).f1⟩ : S28)] : List (S28)))).bind fun t227 => (if t227 = true then ((head_Strip.f y206 (⟨#[65]⟩ : ByteArray)).bind fun t228 => (if 1 < (y206.length : Int) then ((head_Same.f k t228 (([(⟨(rd_T28 y206 1).f0, (rd_T28 y206 1).f1⟩ : S28)] : List (S28)))).bind fun t235 => ((head_Bytes.f k (([(⟨(⟨#[65]⟩ : ByteArray), (⟨#[49]⟩ : ByteArray)⟩ : S28), (⟨(⟨#[98]⟩ : ByteArray), (⟨#[]⟩ : ByteArray)⟩ : S28)] : List (S28)))).bind fun bt239 => (if t200.toList = ([120, 45, 99, 116, 120] : List UInt8) then (if t205 = true then (if t235 = true then (if bt239.2 = 0 then (some ((strOfNums bt239.1).toList == ([65, 58, 32, 49, 13, 10, 98, 58, 32, 13, 10] : List UInt8))) else (none)) else (none)) else (none)) else (none)))) else (none))) else (none))) else (none)) else (none))) else (none))) else (none)) else (none)) else (none)))))) else (none))) = some r := by rw [if_pos rfl] at H; exact H
  clear H
  have H := H1
  clear H1
  replace H := Option.bind_eq_some_iff.mp H
  obtain ⟨t204, A120, H⟩ := H
  replace H : (if t204 = true then ((chinoiserielaw04_wrong.f (⟨#[65]⟩ : ByteArray)).bind fun t205 => ((some (([(⟨(⟨#[65]⟩ : ByteArray), (⟨#[49]⟩ : ByteArray)⟩ : S28), (⟨(⟨#[98]⟩ : ByteArray), (⟨#[50]⟩ : ByteArray)⟩ : S28), (⟨(⟨#[97]⟩ : ByteArray), (⟨#[51]⟩ : ByteArray)⟩ : S28)] : List (S28)) : List (S28))).bind fun y206 => ((head_Get.f y206 (⟨#[65]⟩ : ByteArray)).bind fun bt209 => ((head_Set.f y206 (⟨#[97]⟩ : ByteArray) (⟨#[52]⟩ : ByteArray)).bind fun bt211 => (if bt209.1.toList = ([49] : List UInt8) then (if bt209.2 = 2 then (if bt211.2 = 0 then ((head_Same.f k bt211.1 (([(⟨(⟨#[98]⟩ : ByteArray), (⟨#[50]⟩ : ByteArray)⟩ : S28), (⟨(⟨#[97]⟩ : ByteArray), (⟨#[52]⟩ : ByteArray)⟩ : S28)] : List (S28)))).bind fun t218 => (if t218 = true then ((head_Drop.f y206 (⟨#[66]⟩ : ByteArray)).bind fun t219 => (if 0 < (y206.length : Int) then (if 2 < (y206.length : Int) then ((head_Same.f k t219 (([(⟨(rd_T28 y206 0).f0, (rd_T28 y206 0).f1⟩ : S28), (⟨(rd_T28 y206 2).f0, (rd_T28 y206 2).f1⟩ : S28)] : List (S28)))).bind fun t227 => (if t227 = true then ((head_Strip.f y206 (⟨#[65]⟩ : ByteArray)).bind fun t228 => (if 1 < (y206.length : Int) then ((head_Same.f k t228 (([(⟨(rd_T28 y206 1).f0, (rd_T28 y206 1).f1⟩ : S28)] : List (S28)))).bind fun t235 => ((head_Bytes.f k (([(⟨(⟨#[65]⟩ : ByteArray), (⟨#[49]⟩ : ByteArray)⟩ : S28), (⟨(⟨#[98]⟩ : ByteArray), (⟨#[]⟩ : ByteArray)⟩ : S28)] : List (S28)))).bind fun bt239 => (if t200.toList = ([120, 45, 99, 116, 120] : List UInt8) then (if t205 = true then (if t235 = true then (if bt239.2 = 0 then (some ((strOfNums bt239.1).toList == ([65, 58, 32, 49, 13, 10, 98, 58, 32, 13, 10] : List UInt8))) else (none)) else (none)) else (none)) else (none)))) else (none))) else (none))) else (none)) else (none))) else (none))) else (none)) else (none)) else (none)))))) else (none)) = some r := H
  have A12 := Aside0.mk A120
  clear A120
  by_cases c13 : t204 = true
  rotate_left
  · replace c13 := Bool.eq_false_iff.mpr c13
    subst c13
    have H1 : (none) = some r := by rw [if_neg (show ¬ (false = true) by decide)] at H; exact H
    clear H
    have H := H1
    clear H1
    exact absurd H (by simp)
  subst c13
  have H1 : ((chinoiserielaw04_wrong.f (⟨#[65]⟩ : ByteArray)).bind fun t205 => ((some (([(⟨(⟨#[65]⟩ : ByteArray), (⟨#[49]⟩ : ByteArray)⟩ : S28), (⟨(⟨#[98]⟩ : ByteArray), (⟨#[50]⟩ : ByteArray)⟩ : S28), (⟨(⟨#[97]⟩ : ByteArray), (⟨#[51]⟩ : ByteArray)⟩ : S28)] : List (S28)) : List (S28))).bind fun y206 => ((head_Get.f y206 (⟨#[65]⟩ : ByteArray)).bind fun bt209 => ((head_Set.f y206 (⟨#[97]⟩ : ByteArray) (⟨#[52]⟩ : ByteArray)).bind fun bt211 => (if bt209.1.toList = ([49] : List UInt8) then (if bt209.2 = 2 then (if bt211.2 = 0 then ((head_Same.f k bt211.1 (([(⟨(⟨#[98]⟩ : ByteArray), (⟨#[50]⟩ : ByteArray)⟩ : S28), (⟨(⟨#[97]⟩ : ByteArray), (⟨#[52]⟩ : ByteArray)⟩ : S28)] : List (S28)))).bind fun t218 => (if t218 = true then ((head_Drop.f y206 (⟨#[66]⟩ : ByteArray)).bind fun t219 => (if 0 < (y206.length : Int) then (if 2 < (y206.length : Int) then ((head_Same.f k t219 (([(⟨(rd_T28 y206 0).f0, (rd_T28 y206 0).f1⟩ : S28), (⟨(rd_T28 y206 2).f0, (rd_T28 y206 2).f1⟩ : S28)] : List (S28)))).bind fun t227 => (if t227 = true then ((head_Strip.f y206 (⟨#[65]⟩ : ByteArray)).bind fun t228 => (if 1 < (y206.length : Int) then ((head_Same.f k t228 (([(⟨(rd_T28 y206 1).f0, (rd_T28 y206 1).f1⟩ : S28)] : List (S28)))).bind fun t235 => ((head_Bytes.f k (([(⟨(⟨#[65]⟩ : ByteArray), (⟨#[49]⟩ : ByteArray)⟩ : S28), (⟨(⟨#[98]⟩ : ByteArray), (⟨#[]⟩ : ByteArray)⟩ : S28)] : List (S28)))).bind fun bt239 => (if t200.toList = ([120, 45, 99, 116, 120] : List UInt8) then (if t205 = true then (if t235 = true then (if bt239.2 = 0 then (some ((strOfNums bt239.1).toList == ([65, 58, 32, 49, 13, 10, 98, 58, 32, 13, 10] : List UInt8))) else (none)) else (none)) else (none)) else (none)))) else (none))) else (none))) else (none)) else (none))) else (none))) else (none)) else (none)) else (none)))))) = some r := by rw [if_pos rfl] at H; exact H
  clear H
  have H := H1
  clear H1
  replace H := Option.bind_eq_some_iff.mp H
  obtain ⟨t205, A140, H⟩ := H
  replace H : ((some (([(⟨(⟨#[65]⟩ : ByteArray), (⟨#[49]⟩ : ByteArray)⟩ : S28), (⟨(⟨#[98]⟩ : ByteArray), (⟨#[50]⟩ : ByteArray)⟩ : S28), (⟨(⟨#[97]⟩ : ByteArray), (⟨#[51]⟩ : ByteArray)⟩ : S28)] : List (S28)) : List (S28))).bind fun y206 => ((head_Get.f y206 (⟨#[65]⟩ : ByteArray)).bind fun bt209 => ((head_Set.f y206 (⟨#[97]⟩ : ByteArray) (⟨#[52]⟩ : ByteArray)).bind fun bt211 => (if bt209.1.toList = ([49] : List UInt8) then (if bt209.2 = 2 then (if bt211.2 = 0 then ((head_Same.f k bt211.1 (([(⟨(⟨#[98]⟩ : ByteArray), (⟨#[50]⟩ : ByteArray)⟩ : S28), (⟨(⟨#[97]⟩ : ByteArray), (⟨#[52]⟩ : ByteArray)⟩ : S28)] : List (S28)))).bind fun t218 => (if t218 = true then ((head_Drop.f y206 (⟨#[66]⟩ : ByteArray)).bind fun t219 => (if 0 < (y206.length : Int) then (if 2 < (y206.length : Int) then ((head_Same.f k t219 (([(⟨(rd_T28 y206 0).f0, (rd_T28 y206 0).f1⟩ : S28), (⟨(rd_T28 y206 2).f0, (rd_T28 y206 2).f1⟩ : S28)] : List (S28)))).bind fun t227 => (if t227 = true then ((head_Strip.f y206 (⟨#[65]⟩ : ByteArray)).bind fun t228 => (if 1 < (y206.length : Int) then ((head_Same.f k t228 (([(⟨(rd_T28 y206 1).f0, (rd_T28 y206 1).f1⟩ : S28)] : List (S28)))).bind fun t235 => ((head_Bytes.f k (([(⟨(⟨#[65]⟩ : ByteArray), (⟨#[49]⟩ : ByteArray)⟩ : S28), (⟨(⟨#[98]⟩ : ByteArray), (⟨#[]⟩ : ByteArray)⟩ : S28)] : List (S28)))).bind fun bt239 => (if t200.toList = ([120, 45, 99, 116, 120] : List UInt8) then (if t205 = true then (if t235 = true then (if bt239.2 = 0 then (some ((strOfNums bt239.1).toList == ([65, 58, 32, 49, 13, 10, 98, 58, 32, 13, 10] : List UInt8))) else (none)) else (none)) else (none)) else (none)))) else (none))) else (none))) else (none)) else (none))) else (none))) else (none)) else (none)) else (none))))) = some r := H
  have A14 := Aside0.mk A140
  clear A140
  obtain ⟨y206, hy206⟩ : ∃ y_ : List (S28), y_ = (([(⟨(⟨#[65]⟩ : ByteArray), (⟨#[49]⟩ : ByteArray)⟩ : S28), (⟨(⟨#[98]⟩ : ByteArray), (⟨#[50]⟩ : ByteArray)⟩ : S28), (⟨(⟨#[97]⟩ : ByteArray), (⟨#[51]⟩ : ByteArray)⟩ : S28)] : List (S28))) := ⟨_, rfl⟩
  replace H : ((head_Get.f y206 (⟨#[65]⟩ : ByteArray)).bind fun bt209 => ((head_Set.f y206 (⟨#[97]⟩ : ByteArray) (⟨#[52]⟩ : ByteArray)).bind fun bt211 => (if bt209.1.toList = ([49] : List UInt8) then (if bt209.2 = 2 then (if bt211.2 = 0 then ((head_Same.f k bt211.1 (([(⟨(⟨#[98]⟩ : ByteArray), (⟨#[50]⟩ : ByteArray)⟩ : S28), (⟨(⟨#[97]⟩ : ByteArray), (⟨#[52]⟩ : ByteArray)⟩ : S28)] : List (S28)))).bind fun t218 => (if t218 = true then ((head_Drop.f y206 (⟨#[66]⟩ : ByteArray)).bind fun t219 => (if 0 < (y206.length : Int) then (if 2 < (y206.length : Int) then ((head_Same.f k t219 (([(⟨(rd_T28 y206 0).f0, (rd_T28 y206 0).f1⟩ : S28), (⟨(rd_T28 y206 2).f0, (rd_T28 y206 2).f1⟩ : S28)] : List (S28)))).bind fun t227 => (if t227 = true then ((head_Strip.f y206 (⟨#[65]⟩ : ByteArray)).bind fun t228 => (if 1 < (y206.length : Int) then ((head_Same.f k t228 (([(⟨(rd_T28 y206 1).f0, (rd_T28 y206 1).f1⟩ : S28)] : List (S28)))).bind fun t235 => ((head_Bytes.f k (([(⟨(⟨#[65]⟩ : ByteArray), (⟨#[49]⟩ : ByteArray)⟩ : S28), (⟨(⟨#[98]⟩ : ByteArray), (⟨#[]⟩ : ByteArray)⟩ : S28)] : List (S28)))).bind fun bt239 => (if t200.toList = ([120, 45, 99, 116, 120] : List UInt8) then (if t205 = true then (if t235 = true then (if bt239.2 = 0 then (some ((strOfNums bt239.1).toList == ([65, 58, 32, 49, 13, 10, 98, 58, 32, 13, 10] : List UInt8))) else (none)) else (none)) else (none)) else (none)))) else (none))) else (none))) else (none)) else (none))) else (none))) else (none)) else (none)) else (none)))) = some r := by first | (rw [hy206]; with_reducible exact H) | (have H2_ := (Option.bind_some _ _).symm.trans H; rw [hy206]; with_reducible exact H2_) | (have H2_ := (Option.bind_some _ _).symm.trans H; with_reducible exact H2_) | with_reducible exact H | (rw [hy206]; exact H) | exact H
  have Ny206 := Aside0.mk hy206
  clear hy206
  replace H := Option.bind_eq_some_iff.mp H
  obtain ⟨⟨t209, t210⟩, A150, H⟩ := H
  replace H : ((head_Set.f y206 (⟨#[97]⟩ : ByteArray) (⟨#[52]⟩ : ByteArray)).bind fun bt211 => (if t209.toList = ([49] : List UInt8) then (if t210 = 2 then (if bt211.2 = 0 then ((head_Same.f k bt211.1 (([(⟨(⟨#[98]⟩ : ByteArray), (⟨#[50]⟩ : ByteArray)⟩ : S28), (⟨(⟨#[97]⟩ : ByteArray), (⟨#[52]⟩ : ByteArray)⟩ : S28)] : List (S28)))).bind fun t218 => (if t218 = true then ((head_Drop.f y206 (⟨#[66]⟩ : ByteArray)).bind fun t219 => (if 0 < (y206.length : Int) then (if 2 < (y206.length : Int) then ((head_Same.f k t219 (([(⟨(rd_T28 y206 0).f0, (rd_T28 y206 0).f1⟩ : S28), (⟨(rd_T28 y206 2).f0, (rd_T28 y206 2).f1⟩ : S28)] : List (S28)))).bind fun t227 => (if t227 = true then ((head_Strip.f y206 (⟨#[65]⟩ : ByteArray)).bind fun t228 => (if 1 < (y206.length : Int) then ((head_Same.f k t228 (([(⟨(rd_T28 y206 1).f0, (rd_T28 y206 1).f1⟩ : S28)] : List (S28)))).bind fun t235 => ((head_Bytes.f k (([(⟨(⟨#[65]⟩ : ByteArray), (⟨#[49]⟩ : ByteArray)⟩ : S28), (⟨(⟨#[98]⟩ : ByteArray), (⟨#[]⟩ : ByteArray)⟩ : S28)] : List (S28)))).bind fun bt239 => (if t200.toList = ([120, 45, 99, 116, 120] : List UInt8) then (if t205 = true then (if t235 = true then (if bt239.2 = 0 then (some ((strOfNums bt239.1).toList == ([65, 58, 32, 49, 13, 10, 98, 58, 32, 13, 10] : List UInt8))) else (none)) else (none)) else (none)) else (none)))) else (none))) else (none))) else (none)) else (none))) else (none))) else (none)) else (none)) else (none))) = some r := H
  have A15 := Aside0.mk A150
  clear A150
  replace H := Option.bind_eq_some_iff.mp H
  obtain ⟨⟨t211, t212⟩, A160, H⟩ := H
  replace H : (if t209.toList = ([49] : List UInt8) then (if t210 = 2 then (if t212 = 0 then ((head_Same.f k t211 (([(⟨(⟨#[98]⟩ : ByteArray), (⟨#[50]⟩ : ByteArray)⟩ : S28), (⟨(⟨#[97]⟩ : ByteArray), (⟨#[52]⟩ : ByteArray)⟩ : S28)] : List (S28)))).bind fun t218 => (if t218 = true then ((head_Drop.f y206 (⟨#[66]⟩ : ByteArray)).bind fun t219 => (if 0 < (y206.length : Int) then (if 2 < (y206.length : Int) then ((head_Same.f k t219 (([(⟨(rd_T28 y206 0).f0, (rd_T28 y206 0).f1⟩ : S28), (⟨(rd_T28 y206 2).f0, (rd_T28 y206 2).f1⟩ : S28)] : List (S28)))).bind fun t227 => (if t227 = true then ((head_Strip.f y206 (⟨#[65]⟩ : ByteArray)).bind fun t228 => (if 1 < (y206.length : Int) then ((head_Same.f k t228 (([(⟨(rd_T28 y206 1).f0, (rd_T28 y206 1).f1⟩ : S28)] : List (S28)))).bind fun t235 => ((head_Bytes.f k (([(⟨(⟨#[65]⟩ : ByteArray), (⟨#[49]⟩ : ByteArray)⟩ : S28), (⟨(⟨#[98]⟩ : ByteArray), (⟨#[]⟩ : ByteArray)⟩ : S28)] : List (S28)))).bind fun bt239 => (if t200.toList = ([120, 45, 99, 116, 120] : List UInt8) then (if t205 = true then (if t235 = true then (if bt239.2 = 0 then (some ((strOfNums bt239.1).toList == ([65, 58, 32, 49, 13, 10, 98, 58, 32, 13, 10] : List UInt8))) else (none)) else (none)) else (none)) else (none)))) else (none))) else (none))) else (none)) else (none))) else (none))) else (none)) else (none)) else (none)) = some r := H
  have A16 := Aside0.mk A160
  clear A160
  by_cases c17 : t209.toList = ([49] : List UInt8)
  rotate_left
  · rw [if_neg c17] at H
    exact absurd H (by simp)
  rw [if_pos c17] at H
  have c17b0 : (t209.toList == ([49] : List UInt8)) = true := beq_iff_eq.mpr c17
  have c17b1 : (t209.toList != ([49] : List UInt8)) = false := bne_eq_false_iff_eq.mpr c17
  clear c17
  by_cases c18 : t210 = 2
  rotate_left
  · rw [if_neg c18] at H
    exact absurd H (by simp)
  rw [if_pos c18] at H
  have c18b0 : (t210 == 2) = true := beq_iff_eq.mpr c18
  have c18b1 : (t210 != 2) = false := bne_eq_false_iff_eq.mpr c18
  clear c18
  by_cases c19 : t212 = 0
  rotate_left
  · rw [if_neg c19] at H
    exact absurd H (by simp)
  rw [if_pos c19] at H
  have c19b0 : (t212 == 0) = true := beq_iff_eq.mpr c19
  have c19b1 : (t212 != 0) = false := bne_eq_false_iff_eq.mpr c19
  clear c19
  obtain ⟨y215, hy215⟩ : ∃ y_ : List (S28), y_ = (([(⟨(⟨#[98]⟩ : ByteArray), (⟨#[50]⟩ : ByteArray)⟩ : S28), (⟨(⟨#[97]⟩ : ByteArray), (⟨#[52]⟩ : ByteArray)⟩ : S28)] : List (S28))) := ⟨_, rfl⟩
  replace H : ((head_Same.f k t211 y215).bind fun t218 => (if t218 = true then ((head_Drop.f y206 (⟨#[66]⟩ : ByteArray)).bind fun t219 => (if 0 < (y206.length : Int) then (if 2 < (y206.length : Int) then ((head_Same.f k t219 (([(⟨(rd_T28 y206 0).f0, (rd_T28 y206 0).f1⟩ : S28), (⟨(rd_T28 y206 2).f0, (rd_T28 y206 2).f1⟩ : S28)] : List (S28)))).bind fun t227 => (if t227 = true then ((head_Strip.f y206 (⟨#[65]⟩ : ByteArray)).bind fun t228 => (if 1 < (y206.length : Int) then ((head_Same.f k t228 (([(⟨(rd_T28 y206 1).f0, (rd_T28 y206 1).f1⟩ : S28)] : List (S28)))).bind fun t235 => ((head_Bytes.f k (([(⟨(⟨#[65]⟩ : ByteArray), (⟨#[49]⟩ : ByteArray)⟩ : S28), (⟨(⟨#[98]⟩ : ByteArray), (⟨#[]⟩ : ByteArray)⟩ : S28)] : List (S28)))).bind fun bt239 => (if t200.toList = ([120, 45, 99, 116, 120] : List UInt8) then (if t205 = true then (if t235 = true then (if bt239.2 = 0 then (some ((strOfNums bt239.1).toList == ([65, 58, 32, 49, 13, 10, 98, 58, 32, 13, 10] : List UInt8))) else (none)) else (none)) else (none)) else (none)))) else (none))) else (none))) else (none)) else (none))) else (none))) = some r := by first | (rw [hy215]; with_reducible exact H) | (have H2_ := (Option.bind_some _ _).symm.trans H; rw [hy215]; with_reducible exact H2_) | (have H2_ := (Option.bind_some _ _).symm.trans H; with_reducible exact H2_) | with_reducible exact H | (rw [hy215]; exact H) | exact H
  have Ny215 := Aside0.mk hy215
  clear hy215
  replace H := Option.bind_eq_some_iff.mp H
  obtain ⟨t218, A200, H⟩ := H
  replace H : (if t218 = true then ((head_Drop.f y206 (⟨#[66]⟩ : ByteArray)).bind fun t219 => (if 0 < (y206.length : Int) then (if 2 < (y206.length : Int) then ((head_Same.f k t219 (([(⟨(rd_T28 y206 0).f0, (rd_T28 y206 0).f1⟩ : S28), (⟨(rd_T28 y206 2).f0, (rd_T28 y206 2).f1⟩ : S28)] : List (S28)))).bind fun t227 => (if t227 = true then ((head_Strip.f y206 (⟨#[65]⟩ : ByteArray)).bind fun t228 => (if 1 < (y206.length : Int) then ((head_Same.f k t228 (([(⟨(rd_T28 y206 1).f0, (rd_T28 y206 1).f1⟩ : S28)] : List (S28)))).bind fun t235 => ((head_Bytes.f k (([(⟨(⟨#[65]⟩ : ByteArray), (⟨#[49]⟩ : ByteArray)⟩ : S28), (⟨(⟨#[98]⟩ : ByteArray), (⟨#[]⟩ : ByteArray)⟩ : S28)] : List (S28)))).bind fun bt239 => (if t200.toList = ([120, 45, 99, 116, 120] : List UInt8) then (if t205 = true then (if t235 = true then (if bt239.2 = 0 then (some ((strOfNums bt239.1).toList == ([65, 58, 32, 49, 13, 10, 98, 58, 32, 13, 10] : List UInt8))) else (none)) else (none)) else (none)) else (none)))) else (none))) else (none))) else (none)) else (none))) else (none)) = some r := H
  have A20 := Aside0.mk A200
  clear A200
  by_cases c21 : t218 = true
  rotate_left
  · replace c21 := Bool.eq_false_iff.mpr c21
    subst c21
    have H1 : (none) = some r := by rw [if_neg (show ¬ (false = true) by decide)] at H; exact H
    clear H
    have H := H1
    clear H1
    exact absurd H (by simp)
  subst c21
  have H1 : ((head_Drop.f y206 (⟨#[66]⟩ : ByteArray)).bind fun t219 => (if 0 < (y206.length : Int) then (if 2 < (y206.length : Int) then ((head_Same.f k t219 (([(⟨(rd_T28 y206 0).f0, (rd_T28 y206 0).f1⟩ : S28), (⟨(rd_T28 y206 2).f0, (rd_T28 y206 2).f1⟩ : S28)] : List (S28)))).bind fun t227 => (if t227 = true then ((head_Strip.f y206 (⟨#[65]⟩ : ByteArray)).bind fun t228 => (if 1 < (y206.length : Int) then ((head_Same.f k t228 (([(⟨(rd_T28 y206 1).f0, (rd_T28 y206 1).f1⟩ : S28)] : List (S28)))).bind fun t235 => ((head_Bytes.f k (([(⟨(⟨#[65]⟩ : ByteArray), (⟨#[49]⟩ : ByteArray)⟩ : S28), (⟨(⟨#[98]⟩ : ByteArray), (⟨#[]⟩ : ByteArray)⟩ : S28)] : List (S28)))).bind fun bt239 => (if t200.toList = ([120, 45, 99, 116, 120] : List UInt8) then (if t205 = true then (if t235 = true then (if bt239.2 = 0 then (some ((strOfNums bt239.1).toList == ([65, 58, 32, 49, 13, 10, 98, 58, 32, 13, 10] : List UInt8))) else (none)) else (none)) else (none)) else (none)))) else (none))) else (none))) else (none)) else (none))) = some r := by rw [if_pos rfl] at H; exact H
  clear H
  have H := H1
  clear H1
  replace H := Option.bind_eq_some_iff.mp H
  obtain ⟨t219, A220, H⟩ := H
  replace H : (if 0 < (y206.length : Int) then (if 2 < (y206.length : Int) then ((head_Same.f k t219 (([(⟨(rd_T28 y206 0).f0, (rd_T28 y206 0).f1⟩ : S28), (⟨(rd_T28 y206 2).f0, (rd_T28 y206 2).f1⟩ : S28)] : List (S28)))).bind fun t227 => (if t227 = true then ((head_Strip.f y206 (⟨#[65]⟩ : ByteArray)).bind fun t228 => (if 1 < (y206.length : Int) then ((head_Same.f k t228 (([(⟨(rd_T28 y206 1).f0, (rd_T28 y206 1).f1⟩ : S28)] : List (S28)))).bind fun t235 => ((head_Bytes.f k (([(⟨(⟨#[65]⟩ : ByteArray), (⟨#[49]⟩ : ByteArray)⟩ : S28), (⟨(⟨#[98]⟩ : ByteArray), (⟨#[]⟩ : ByteArray)⟩ : S28)] : List (S28)))).bind fun bt239 => (if t200.toList = ([120, 45, 99, 116, 120] : List UInt8) then (if t205 = true then (if t235 = true then (if bt239.2 = 0 then (some ((strOfNums bt239.1).toList == ([65, 58, 32, 49, 13, 10, 98, 58, 32, 13, 10] : List UInt8))) else (none)) else (none)) else (none)) else (none)))) else (none))) else (none))) else (none)) else (none)) = some r := H
  have A22 := Aside0.mk A220
  clear A220
  by_cases c23 : 0 < (y206.length : Int)
  rotate_left
  · rw [if_neg c23] at H
    exact absurd H (by simp)
  rw [if_pos c23] at H
  have c23b0 : decide (0 < (y206.length : Int)) = true := decide_eq_true c23
  have c23b1 : decide (0 < y206.length) = true := decide_eq_true (by omega)
  clear c23
  by_cases c24 : 2 < (y206.length : Int)
  rotate_left
  · rw [if_neg c24] at H
    exact absurd H (by simp)
  rw [if_pos c24] at H
  have c24b0 : decide (2 < (y206.length : Int)) = true := decide_eq_true c24
  have c24b1 : decide (2 < y206.length) = true := decide_eq_true (by omega)
  clear c24
  obtain ⟨y224, hy224⟩ : ∃ y_ : List (S28), y_ = (([(⟨(rd_T28 y206 0).f0, (rd_T28 y206 0).f1⟩ : S28), (⟨(rd_T28 y206 2).f0, (rd_T28 y206 2).f1⟩ : S28)] : List (S28))) := ⟨_, rfl⟩
  replace H : ((head_Same.f k t219 y224).bind fun t227 => (if t227 = true then ((head_Strip.f y206 (⟨#[65]⟩ : ByteArray)).bind fun t228 => (if 1 < (y206.length : Int) then ((head_Same.f k t228 (([(⟨(rd_T28 y206 1).f0, (rd_T28 y206 1).f1⟩ : S28)] : List (S28)))).bind fun t235 => ((head_Bytes.f k (([(⟨(⟨#[65]⟩ : ByteArray), (⟨#[49]⟩ : ByteArray)⟩ : S28), (⟨(⟨#[98]⟩ : ByteArray), (⟨#[]⟩ : ByteArray)⟩ : S28)] : List (S28)))).bind fun bt239 => (if t200.toList = ([120, 45, 99, 116, 120] : List UInt8) then (if t205 = true then (if t235 = true then (if bt239.2 = 0 then (some ((strOfNums bt239.1).toList == ([65, 58, 32, 49, 13, 10, 98, 58, 32, 13, 10] : List UInt8))) else (none)) else (none)) else (none)) else (none)))) else (none))) else (none))) = some r := by first | (rw [hy224]; with_reducible exact H) | (have H2_ := (Option.bind_some _ _).symm.trans H; rw [hy224]; with_reducible exact H2_) | (have H2_ := (Option.bind_some _ _).symm.trans H; with_reducible exact H2_) | with_reducible exact H | (rw [hy224]; exact H) | exact H
  have Ny224 := Aside0.mk hy224
  clear hy224
  replace H := Option.bind_eq_some_iff.mp H
  obtain ⟨t227, A250, H⟩ := H
  replace H : (if t227 = true then ((head_Strip.f y206 (⟨#[65]⟩ : ByteArray)).bind fun t228 => (if 1 < (y206.length : Int) then ((head_Same.f k t228 (([(⟨(rd_T28 y206 1).f0, (rd_T28 y206 1).f1⟩ : S28)] : List (S28)))).bind fun t235 => ((head_Bytes.f k (([(⟨(⟨#[65]⟩ : ByteArray), (⟨#[49]⟩ : ByteArray)⟩ : S28), (⟨(⟨#[98]⟩ : ByteArray), (⟨#[]⟩ : ByteArray)⟩ : S28)] : List (S28)))).bind fun bt239 => (if t200.toList = ([120, 45, 99, 116, 120] : List UInt8) then (if t205 = true then (if t235 = true then (if bt239.2 = 0 then (some ((strOfNums bt239.1).toList == ([65, 58, 32, 49, 13, 10, 98, 58, 32, 13, 10] : List UInt8))) else (none)) else (none)) else (none)) else (none)))) else (none))) else (none)) = some r := H
  have A25 := Aside0.mk A250
  clear A250
  by_cases c26 : t227 = true
  rotate_left
  · replace c26 := Bool.eq_false_iff.mpr c26
    subst c26
    have H1 : (none) = some r := by rw [if_neg (show ¬ (false = true) by decide)] at H; exact H
    clear H
    have H := H1
    clear H1
    exact absurd H (by simp)
  subst c26
  have H1 : ((head_Strip.f y206 (⟨#[65]⟩ : ByteArray)).bind fun t228 => (if 1 < (y206.length : Int) then ((head_Same.f k t228 (([(⟨(rd_T28 y206 1).f0, (rd_T28 y206 1).f1⟩ : S28)] : List (S28)))).bind fun t235 => ((head_Bytes.f k (([(⟨(⟨#[65]⟩ : ByteArray), (⟨#[49]⟩ : ByteArray)⟩ : S28), (⟨(⟨#[98]⟩ : ByteArray), (⟨#[]⟩ : ByteArray)⟩ : S28)] : List (S28)))).bind fun bt239 => (if t200.toList = ([120, 45, 99, 116, 120] : List UInt8) then (if t205 = true then (if t235 = true then (if bt239.2 = 0 then (some ((strOfNums bt239.1).toList == ([65, 58, 32, 49, 13, 10, 98, 58, 32, 13, 10] : List UInt8))) else (none)) else (none)) else (none)) else (none)))) else (none))) = some r := by rw [if_pos rfl] at H; exact H
  clear H
  have H := H1
  clear H1
  replace H := Option.bind_eq_some_iff.mp H
  obtain ⟨t228, A270, H⟩ := H
  replace H : (if 1 < (y206.length : Int) then ((head_Same.f k t228 (([(⟨(rd_T28 y206 1).f0, (rd_T28 y206 1).f1⟩ : S28)] : List (S28)))).bind fun t235 => ((head_Bytes.f k (([(⟨(⟨#[65]⟩ : ByteArray), (⟨#[49]⟩ : ByteArray)⟩ : S28), (⟨(⟨#[98]⟩ : ByteArray), (⟨#[]⟩ : ByteArray)⟩ : S28)] : List (S28)))).bind fun bt239 => (if t200.toList = ([120, 45, 99, 116, 120] : List UInt8) then (if t205 = true then (if t235 = true then (if bt239.2 = 0 then (some ((strOfNums bt239.1).toList == ([65, 58, 32, 49, 13, 10, 98, 58, 32, 13, 10] : List UInt8))) else (none)) else (none)) else (none)) else (none)))) else (none)) = some r := H
  have A27 := Aside0.mk A270
  clear A270
  by_cases c28 : 1 < (y206.length : Int)
  rotate_left
  · rw [if_neg c28] at H
    exact absurd H (by simp)
  rw [if_pos c28] at H
  have c28b0 : decide (1 < (y206.length : Int)) = true := decide_eq_true c28
  have c28b1 : decide (1 < y206.length) = true := decide_eq_true (by omega)
  clear c28
  obtain ⟨y232, hy232⟩ : ∃ y_ : List (S28), y_ = (([(⟨(rd_T28 y206 1).f0, (rd_T28 y206 1).f1⟩ : S28)] : List (S28))) := ⟨_, rfl⟩
  replace H : ((head_Same.f k t228 y232).bind fun t235 => ((head_Bytes.f k (([(⟨(⟨#[65]⟩ : ByteArray), (⟨#[49]⟩ : ByteArray)⟩ : S28), (⟨(⟨#[98]⟩ : ByteArray), (⟨#[]⟩ : ByteArray)⟩ : S28)] : List (S28)))).bind fun bt239 => (if t200.toList = ([120, 45, 99, 116, 120] : List UInt8) then (if t205 = true then (if t235 = true then (if bt239.2 = 0 then (some ((strOfNums bt239.1).toList == ([65, 58, 32, 49, 13, 10, 98, 58, 32, 13, 10] : List UInt8))) else (none)) else (none)) else (none)) else (none)))) = some r := by first | (rw [hy232]; with_reducible exact H) | (have H2_ := (Option.bind_some _ _).symm.trans H; rw [hy232]; with_reducible exact H2_) | (have H2_ := (Option.bind_some _ _).symm.trans H; with_reducible exact H2_) | with_reducible exact H | (rw [hy232]; exact H) | exact H
  have Ny232 := Aside0.mk hy232
  clear hy232
  replace H := Option.bind_eq_some_iff.mp H
  obtain ⟨t235, A290, H⟩ := H
  replace H : ((head_Bytes.f k (([(⟨(⟨#[65]⟩ : ByteArray), (⟨#[49]⟩ : ByteArray)⟩ : S28), (⟨(⟨#[98]⟩ : ByteArray), (⟨#[]⟩ : ByteArray)⟩ : S28)] : List (S28)))).bind fun bt239 => (if t200.toList = ([120, 45, 99, 116, 120] : List UInt8) then (if t205 = true then (if t235 = true then (if bt239.2 = 0 then (some ((strOfNums bt239.1).toList == ([65, 58, 32, 49, 13, 10, 98, 58, 32, 13, 10] : List UInt8))) else (none)) else (none)) else (none)) else (none))) = some r := H
  have A29 := Aside0.mk A290
  clear A290
  obtain ⟨y236, hy236⟩ : ∃ y_ : List (S28), y_ = (([(⟨(⟨#[65]⟩ : ByteArray), (⟨#[49]⟩ : ByteArray)⟩ : S28), (⟨(⟨#[98]⟩ : ByteArray), (⟨#[]⟩ : ByteArray)⟩ : S28)] : List (S28))) := ⟨_, rfl⟩
  replace H : ((head_Bytes.f k y236).bind fun bt239 => (if t200.toList = ([120, 45, 99, 116, 120] : List UInt8) then (if t205 = true then (if t235 = true then (if bt239.2 = 0 then (some ((strOfNums bt239.1).toList == ([65, 58, 32, 49, 13, 10, 98, 58, 32, 13, 10] : List UInt8))) else (none)) else (none)) else (none)) else (none))) = some r := by first | (rw [hy236]; with_reducible exact H) | (have H2_ := (Option.bind_some _ _).symm.trans H; rw [hy236]; with_reducible exact H2_) | (have H2_ := (Option.bind_some _ _).symm.trans H; with_reducible exact H2_) | with_reducible exact H | (rw [hy236]; exact H) | exact H
  have Ny236 := Aside0.mk hy236
  clear hy236
  replace H := Option.bind_eq_some_iff.mp H
  obtain ⟨⟨t239, t240⟩, A300, H⟩ := H
  replace H : (if t200.toList = ([120, 45, 99, 116, 120] : List UInt8) then (if t205 = true then (if t235 = true then (if t240 = 0 then (some ((strOfNums t239).toList == ([65, 58, 32, 49, 13, 10, 98, 58, 32, 13, 10] : List UInt8))) else (none)) else (none)) else (none)) else (none)) = some r := H
  have A30 := Aside0.mk A300
  clear A300
  by_cases c31 : t200.toList = ([120, 45, 99, 116, 120] : List UInt8)
  rotate_left
  · rw [if_neg c31] at H
    exact absurd H (by simp)
  rw [if_pos c31] at H
  have c31b0 : (t200.toList == ([120, 45, 99, 116, 120] : List UInt8)) = true := beq_iff_eq.mpr c31
  have c31b1 : (t200.toList != ([120, 45, 99, 116, 120] : List UInt8)) = false := bne_eq_false_iff_eq.mpr c31
  clear c31
  by_cases c32 : t205 = true
  rotate_left
  · replace c32 := Bool.eq_false_iff.mpr c32
    subst c32
    have H1 : (none) = some r := by rw [if_neg (show ¬ (false = true) by decide)] at H; exact H
    clear H
    have H := H1
    clear H1
    exact absurd H (by simp)
  subst c32
  have H1 : (if t235 = true then (if t240 = 0 then (some ((strOfNums t239).toList == ([65, 58, 32, 49, 13, 10, 98, 58, 32, 13, 10] : List UInt8))) else (none)) else (none)) = some r := by rw [if_pos rfl] at H; exact H
  clear H
  have H := H1
  clear H1
  by_cases c33 : t235 = true
  rotate_left
  · replace c33 := Bool.eq_false_iff.mpr c33
    subst c33
    have H1 : (none) = some r := by rw [if_neg (show ¬ (false = true) by decide)] at H; exact H
    clear H
    have H := H1
    clear H1
    exact absurd H (by simp)
  subst c33
  have H1 : (if t240 = 0 then (some ((strOfNums t239).toList == ([65, 58, 32, 49, 13, 10, 98, 58, 32, 13, 10] : List UInt8))) else (none)) = some r := by rw [if_pos rfl] at H; exact H
  clear H
  have H := H1
  clear H1
  by_cases c34 : t240 = 0
  rotate_left
  · rw [if_neg c34] at H
    exact absurd H (by simp)
  rw [if_pos c34] at H
  have c34b0 : (t240 == 0) = true := beq_iff_eq.mpr c34
  have c34b1 : (t240 != 0) = false := bne_eq_false_iff_eq.mpr c34
  clear c34
  obtain rfl := Option.some.inj H
  go_enter Tryd.func28, Tryd.ntmps28
  try go_wp2_with (first | ((with_reducible refine gate_callee (f := 16) rfl ?_); refine goesL_ (some 11) rfl rfl Tryd.func16 (by kernel_rfl) rfl #[.string (⟨#[88, 45, 67, 116, 120]⟩ : ByteArray), .string (⟨#[120, 45, 99, 116, 120]⟩ : ByteArray)] rfl (by (try simp only [List.map_toArray, List.map_cons, List.map_nil]); first | done | rfl | (simp only [List.length_drop, List.length_take]; rfl)) ?_; (with_reducible refine (head_Alike.calls (⟨#[88, 45, 67, 116, 120]⟩ : ByteArray) (⟨#[120, 45, 99, 116, 120]⟩ : ByteArray) true _ A1.out).mono ?_); rintro e w35 ⟨rfl, hb⟩; refine ⟨_, rfl, ?_⟩; have n0_ := Aside0.mk (below_step (by repeat (first | (with_reducible first | exact HB.out | apply below_alloc | apply pw_below_drewN | apply below_drew1) | exact HB.out)) hb); clear HB; have HB := n0_; clear n0_; (try clear hb); (try clear hb2); (try clear hk); (try clear hi)) | (go_at_call 16; (with_reducible refine (head_Alike.calls (⟨#[97, 32, 98]⟩ : ByteArray) (⟨#[97, 32, 98]⟩ : ByteArray) false _ A3.out).mono ?_); rintro e w36 ⟨rfl, hb⟩; have n0_ := Aside0.mk (below_step (by repeat (first | (with_reducible first | exact HB.out | apply below_alloc | apply pw_below_drewN | apply below_drew1) | exact HB.out)) hb); clear HB; have HB := n0_; clear n0_; (try clear hb); (try clear hb2); (try clear hk); (try clear hi)) | (go_at_call 18; (with_reducible refine (head_Lower.calls (⟨#[88, 45, 67, 116, 120]⟩ : ByteArray) t200 _ A5.out).mono ?_); rintro e w37 ⟨rfl, hb⟩; have n0_ := Aside0.mk (below_step (by repeat (first | (with_reducible first | exact HB.out | apply below_alloc | apply pw_below_drewN | apply below_drew1) | exact HB.out)) hb); clear HB; have HB := n0_; clear n0_; (try clear hb); (try clear hb2); (try clear hk); (try clear hi)) | ((with_reducible refine gate_callee (f := 37) rfl ?_); refine goesL_ (some 20) rfl rfl Tryd.func37 (by kernel_rfl) rfl #[.string (⟨#[65, 58, 32, 49]⟩ : ByteArray), .string (⟨#[65]⟩ : ByteArray), .string (⟨#[49]⟩ : ByteArray)] rfl (by (try simp only [List.map_toArray, List.map_cons, List.map_nil]); first | done | rfl | (simp only [List.length_drop, List.length_take]; rfl)) ?_; (with_reducible refine (chinoiserielaw04_line.calls (⟨#[65, 58, 32, 49]⟩ : ByteArray) (⟨#[65]⟩ : ByteArray) (⟨#[49]⟩ : ByteArray) true _ A6.out).mono ?_); rintro e w38 ⟨rfl, hb⟩; refine ⟨_, rfl, ?_⟩; have n0_ := Aside0.mk (below_step (by repeat (first | (with_reducible first | exact HB.out | apply below_alloc | apply pw_below_drewN | apply below_drew1) | exact HB.out)) hb); clear HB; have HB := n0_; clear n0_; (try clear hb); (try clear hb2); (try clear hk); (try clear hi)) | (go_at_call 37; (with_reducible refine (chinoiserielaw04_line.calls (⟨#[65, 58, 9, 49, 32]⟩ : ByteArray) (⟨#[65]⟩ : ByteArray) (⟨#[49]⟩ : ByteArray) true _ A8.out).mono ?_); rintro e w39 ⟨rfl, hb⟩; have n0_ := Aside0.mk (below_step (by repeat (first | (with_reducible first | exact HB.out | apply below_alloc | apply pw_below_drewN | apply below_drew1) | exact HB.out)) hb); clear HB; have HB := n0_; clear n0_; (try clear hb); (try clear hb2); (try clear hk); (try clear hi)) | (go_at_call 38; (with_reducible refine (chinoiserielaw04_wrong.calls (⟨#[65, 32, 58, 32, 49]⟩ : ByteArray) true _ A10.out).mono ?_); rintro e w40 ⟨rfl, hb⟩; have n0_ := Aside0.mk (below_step (by repeat (first | (with_reducible first | exact HB.out | apply below_alloc | apply pw_below_drewN | apply below_drew1) | exact HB.out)) hb); clear HB; have HB := n0_; clear n0_; (try clear hb); (try clear hb2); (try clear hk); (try clear hi)) | (go_at_call 38; (with_reducible refine (chinoiserielaw04_wrong.calls (⟨#[58, 32, 49]⟩ : ByteArray) true _ A12.out).mono ?_); rintro e w41 ⟨rfl, hb⟩; have n0_ := Aside0.mk (below_step (by repeat (first | (with_reducible first | exact HB.out | apply below_alloc | apply pw_below_drewN | apply below_drew1) | exact HB.out)) hb); clear HB; have HB := n0_; clear n0_; (try clear hb); (try clear hb2); (try clear hk); (try clear hi)) | (go_at_call 38; (with_reducible refine (chinoiserielaw04_wrong.calls (⟨#[65]⟩ : ByteArray) true _ A14.out).mono ?_); rintro e w42 ⟨rfl, hb⟩; have n0_ := Aside0.mk (below_step (by repeat (first | (with_reducible first | exact HB.out | apply below_alloc | apply pw_below_drewN | apply below_drew1) | exact HB.out)) hb); clear HB; have HB := n0_; clear n0_; (try clear hb); (try clear hb2); (try clear hk); (try clear hi)) | ((with_reducible refine gate_dst (N := 36) rfl ?_); (try (refine gate_guard (by rfl) ?_; dsimp only)); refine Kd.R_lit k28 _ 28 ?hg (N := 36) ?hd (xs := ([(⟨(⟨#[65]⟩ : ByteArray), (⟨#[49]⟩ : ByteArray)⟩ : S28), (⟨(⟨#[98]⟩ : ByteArray), (⟨#[50]⟩ : ByteArray)⟩ : S28), (⟨(⟨#[97]⟩ : ByteArray), (⟨#[51]⟩ : ByteArray)⟩ : S28)] : List (S28))) (inner := [.string (⟨#[65]⟩ : ByteArray), .string (⟨#[49]⟩ : ByteArray), .string (⟨#[98]⟩ : ByteArray), .string (⟨#[50]⟩ : ByteArray), .string (⟨#[97]⟩ : ByteArray), .string (⟨#[51]⟩ : ByteArray)]) (ok := fun _ => True) (okp := fun _ => True) ?hr ?hp (fun _ hk => hk) trivial (Below.refl _ _) (Nat.le_refl _) (by simp) ?_; (case hd => rfl); (case hg => rfl); (case hr => first | (go_simp; done) | (go_simp; rfl)); (case hp => exact (Reps.c2 (show Kd.M k28 _ _ _ (⟨(⟨#[65]⟩ : ByteArray), (⟨#[49]⟩ : ByteArray)⟩ : S28) [.string (⟨#[65]⟩ : ByteArray), .string (⟨#[49]⟩ : ByteArray)] from (k28_mkM _ _ _ (⟨(⟨#[65]⟩ : ByteArray), (⟨#[49]⟩ : ByteArray)⟩ : S28) )) (Reps.c2 (show Kd.M k28 _ _ _ (⟨(⟨#[98]⟩ : ByteArray), (⟨#[50]⟩ : ByteArray)⟩ : S28) [.string (⟨#[98]⟩ : ByteArray), .string (⟨#[50]⟩ : ByteArray)] from (k28_mkM _ _ _ (⟨(⟨#[98]⟩ : ByteArray), (⟨#[50]⟩ : ByteArray)⟩ : S28) )) (Reps.c2 (show Kd.M k28 _ _ _ (⟨(⟨#[97]⟩ : ByteArray), (⟨#[51]⟩ : ByteArray)⟩ : S28) [.string (⟨#[97]⟩ : ByteArray), .string (⟨#[51]⟩ : ByteArray)] from (k28_mkM _ _ _ (⟨(⟨#[97]⟩ : ByteArray), (⟨#[51]⟩ : ByteArray)⟩ : S28) )) (Reps.none _ _))))); intro v207 w43 ho44 hb hg_ hnew_; clear hg_ hnew_; (first | rw [← Ny206.out] at ho44 | (simp only [Int.reduceToNat] at ho44; rw [← Ny206.out] at ho44)); have n0_ := Aside0.mk (Kd.R_lower ho44 (below_size (by repeat (first | (with_reducible first | exact HB.out | apply below_alloc | apply pw_below_drewN | apply below_drew1) | exact HB.out)))); have n1_ := Aside0.mk (below_step (by repeat (first | (with_reducible first | exact HB.out | apply below_alloc | apply pw_below_drewN | apply below_drew1) | exact HB.out)) hb); clear HB; have HO208 := n0_; have HB := n1_; clear n0_ n1_; clear hb ho44; obtain ⟨Ao45, co45, eo45⟩ := Kd.R_slice HO208.out; subst eo45) | ((with_reducible refine gate_callee (f := 12) rfl ?_); refine goesL_ (some 39) rfl rfl Tryd.func12 (by kernel_rfl) rfl #[.slice Ao45 y206.length co45, .string (⟨#[65]⟩ : ByteArray)] rfl (by (try simp only [List.map_toArray, List.map_cons, List.map_nil]); first | done | rfl | (simp only [List.length_drop, List.length_take]; rfl)) ?_; (with_reducible refine (head_Get.calls _ _ y206 (⟨#[65]⟩ : ByteArray) t209 t210 _ ?side1 ?side2 A15.out).mono ?_); (case side1 => repeat (first | exact (Kd.R_reads' HO208.out).2.2 | (with_reducible refine Kd.C_alloc ?_ _) | (with_reducible refine Kd.C_drewN ?_ _) | (with_reducible refine Kd.C_drew ?_))); (case side2 => exact (Kd.R_reads' HO208.out).2.1); rintro e w46 ⟨rfl, hb⟩; refine ⟨_, rfl, ?_⟩; have n0_ := Aside0.mk (Kd.R_below (by (with_reducible repeat (first | apply Kd.R_alloc | apply Kd.R_drewN | apply Kd.R_drew)); exact HO208.out) hb); have n1_ := Aside0.mk (below_step (by repeat (first | (with_reducible first | exact HB.out | apply below_alloc | apply pw_below_drewN | apply below_drew1) | exact HB.out)) hb); clear HO208; clear HB; have HO208 := n0_; have HB := n1_; clear n0_ n1_; (try clear hb); (try clear hb2); (try clear hk); (try clear hi)) | ((with_reducible refine gate_callee (f := 29) rfl ?_); refine goesL_ (some 44) rfl rfl Tryd.func29 (by kernel_rfl) rfl #[.slice Ao45 y206.length co45, .string (⟨#[97]⟩ : ByteArray), .string (⟨#[52]⟩ : ByteArray)] rfl (by (try simp only [List.map_toArray, List.map_cons, List.map_nil]); first | done | rfl | (simp only [List.length_drop, List.length_take]; rfl)) ?_; (with_reducible refine (head_Set.calls _ _ y206 (⟨#[97]⟩ : ByteArray) (⟨#[52]⟩ : ByteArray) t211 t212 _ ?side1 ?side2 A16.out).mono ?_); (case side1 => repeat (first | exact (Kd.R_reads' HO208.out).2.2 | (with_reducible refine Kd.C_alloc ?_ _) | (with_reducible refine Kd.C_drewN ?_ _) | (with_reducible refine Kd.C_drew ?_))); (case side2 => exact (Kd.R_reads' HO208.out).2.1); rintro e w47 ⟨v213, rfl, ho0, hb⟩; refine ⟨_, rfl, ?_⟩; have n0_ := Aside0.mk (Kd.R_elder' (by (with_reducible repeat (first | apply Kd.R_alloc | apply Kd.R_drewN | apply Kd.R_drew)); exact HO208.out) (Kd.R_base ho0) hb); have n1_ := Aside0.mk (Kd.R_lower (Kd.R_new' ho0 (Kd.R_lt (by (with_reducible repeat (first | apply Kd.R_alloc | apply Kd.R_drewN | apply Kd.R_drew)); exact HO208.out))) (below_size (by repeat (first | (with_reducible first | exact HB.out | apply below_alloc | apply pw_below_drewN | apply below_drew1) | exact HB.out)))); have n2_ := Aside0.mk (below_step (by repeat (first | (with_reducible first | exact HB.out | apply below_alloc | apply pw_below_drewN | apply below_drew1) | exact HB.out)) hb); clear HO208; clear HB; have HO208 := n0_; have HO214 := n1_; have HB := n2_; clear n0_ n1_ n2_; (try clear hb); (try clear hb2); (try clear hk); (try clear hi); (try clear ho0); obtain ⟨Ao48, co48, eo48⟩ := Kd.R_slice HO214.out; subst eo48))
  have n0_ := Aside0.mk (Kd.R_drew HO208.out)
  have n1_ := Aside0.mk (Kd.R_drew HO214.out)
  have n2_ := Aside0.mk (below_drew1 HB.out)
  clear HO208
  clear HO214
  clear HB
  have HO208 := n0_
  have HO214 := n1_
  have HB := n2_
  clear n0_ n1_ n2_
  have p222 : 0 ≤ (0 : Int) := (by omega)
  have q222 : 0 < (y206.length : Int) := of_decide_eq_true (by first | (with_reducible assumption) | assumption)
  obtain ⟨ad222, e222, hx222_0, hx222_1⟩ := at_T28 (Kd.R_reads' HO208.out).2.2 0 p222 q222
  cases e222
  have qi222 : (0 < y206.length) = True := eq_true (by omega)
  (try rw [show ((0 : Int)).toNat = 0 from rfl] at hx222_0)
  (try rw [show 0 * 2 = 0 from rfl] at hx222_0)
  (try rw [Addr.add_zero'] at hx222_0)
  (try rw [show ((0 : Int)).toNat = 0 from rfl] at hx222_1)
  (try rw [show 0 * 2 = 0 from rfl] at hx222_1)
  (try rw [Addr.add_zero'] at hx222_1)
  replace p222 := eq_true p222
  replace q222 := eq_true q222
  have p223 : 0 ≤ (2 : Int) := (by omega)
  have q223 : 2 < (y206.length : Int) := of_decide_eq_true (by first | (with_reducible assumption) | assumption)
  obtain ⟨ad223, e223, hx223_0, hx223_1⟩ := at_T28 (Kd.R_reads' HO208.out).2.2 2 p223 q223
  obtain rfl : ad222 = ad223 := (by injection e223)
  (try simp only [show (2 : Int).toNat = 2 from rfl, Nat.reduceMul, Nat.reduceEqDiff, Go.Addr.add, ↓reduceIte] at hx223_0)
  (try simp only [show (2 : Int).toNat = 2 from rfl, Nat.reduceMul, Nat.reduceEqDiff, Go.Addr.add, ↓reduceIte] at hx223_1)
  have qi223 : (2 < y206.length) = True := eq_true (by omega)
  (try rw [show ((2 : Int)).toNat = 2 from rfl] at hx223_0)
  (try rw [show 2 * 2 = 4 from rfl] at hx223_0)
  (try rw [show ((2 : Int)).toNat = 2 from rfl] at hx223_1)
  (try rw [show 2 * 2 = 4 from rfl] at hx223_1)
  replace p223 := eq_true p223
  replace q223 := eq_true q223
  have p231 : 0 ≤ (1 : Int) := (by omega)
  have q231 : 1 < (y206.length : Int) := of_decide_eq_true (by first | (with_reducible assumption) | assumption)
  obtain ⟨ad231, e231, hx231_0, hx231_1⟩ := at_T28 (Kd.R_reads' HO208.out).2.2 1 p231 q231
  obtain rfl : ad222 = ad231 := (by injection e231)
  (try simp only [show (1 : Int).toNat = 1 from rfl, Nat.reduceMul, Nat.reduceEqDiff, Go.Addr.add, ↓reduceIte] at hx231_0)
  (try simp only [show (1 : Int).toNat = 1 from rfl, Nat.reduceMul, Nat.reduceEqDiff, Go.Addr.add, ↓reduceIte] at hx231_1)
  have qi231 : (1 < y206.length) = True := eq_true (by omega)
  (try rw [show ((1 : Int)).toNat = 1 from rfl] at hx231_0)
  (try rw [show 1 * 2 = 2 from rfl] at hx231_0)
  (try rw [show ((1 : Int)).toNat = 1 from rfl] at hx231_1)
  (try rw [show 1 * 2 = 2 from rfl] at hx231_1)
  replace p231 := eq_true p231
  replace q231 := eq_true q231
  refine start_ (n := 39) (S := fun w' => w'.cell? ad222 = some (.string ((rd_T28 y206 0).f0)) ∧ w'.cell? ⟨ad222.block, ad222.off + 1, none⟩ = some (.string ((rd_T28 y206 0).f1)) ∧ w'.cell? ⟨ad222.block, ad222.off + 4, none⟩ = some (.string ((rd_T28 y206 2).f0)) ∧ w'.cell? ⟨ad222.block, ad222.off + 4 + 1, none⟩ = some (.string ((rd_T28 y206 2).f1)) ∧ w'.cell? ⟨ad222.block, ad222.off + 2, none⟩ = some (.string ((rd_T28 y206 1).f0)) ∧ w'.cell? ⟨ad222.block, ad222.off + 2 + 1, none⟩ = some (.string ((rd_T28 y206 1).f1))) (ds := []) (tf 0 39) (by kernel_rfl) rfl rfl ⟨hx222_0, hx222_1, hx223_0, hx223_1, hx231_0, hx231_1⟩ (fun hHeld => ?_); refine with_tabW chinoiserielaw04_works.tab6 chinoiserielaw04_works.bits6 (fun HT_ HW_ => ?_)
  generalize w47.drew = w49 at HO208 HO214 HB hx222_0 hx222_1 hx223_0 hx223_1 hx231_0 hx231_1 hHeld ⊢
  refine pure_ (i := 0) (N := some 47) (v := ?_) (a' := ?_) (tf 1 38) rfl rfl (any_of HT_.out (by kernel_rfl)) (fun _ _ _ h => h) (Or.inl ⟨by rfl, ?_⟩) ?_ ?_
  rotate_left
  · intro w'
    go_simp
    with_reducible rfl
  rotate_left
  · simp only [Act.put, List.setIfInBounds_toArray, List.set_cons_zero, List.set_cons_succ, i64_w, i32_w]
    rfl
  refine pure_ (i := 1) (N := some 48) (v := ?_) (a' := ?_) (tf 2 37) rfl rfl (any_of HT_.out (by kernel_rfl)) (fun _ _ _ h => h) (Or.inl ⟨by rfl, ?_⟩) ?_ ?_
  rotate_left
  · intro w'
    go_simp
    with_reducible rfl
  rotate_left
  · simp only [Act.put, List.setIfInBounds_toArray, List.set_cons_zero, List.set_cons_succ, i64_w, i32_w]
    rfl
  refine pure_ (i := 2) (N := some 49) (v := ?_) (a' := ?_) (tf 3 36) rfl rfl (any_of HT_.out (by kernel_rfl)) (fun _ _ _ h => h) (Or.inl ⟨by rfl, ?_⟩) ?_ ?_
  rotate_left
  · intro w'
    go_simp
    with_reducible rfl
  rotate_left
  · simp only [Act.put, List.setIfInBounds_toArray, List.set_cons_zero, List.set_cons_succ, i64_w, i32_w]
    rfl
  refine pure_ (i := 3) (N := some 50) (v := ?_) (a' := ?_) (tf 4 35) rfl rfl (any_of HT_.out (by kernel_rfl)) (fun _ _ _ h => h) (Or.inl ⟨by rfl, ?_⟩) ?_ ?_
  rotate_left
  · intro w'
    go_simp
    with_reducible rfl
  rotate_left
  · simp only [Act.put, List.setIfInBounds_toArray, List.set_cons_zero, List.set_cons_succ, i64_w, i32_w]
    rfl
  refine pure_ (i := 4) (N := some 51) (v := ?_) (a' := ?_) (tf 5 34) rfl rfl (any_of HT_.out (by kernel_rfl)) (fun _ _ _ h => h) (Or.inl ⟨by rfl, ?_⟩) ?_ ?_
  rotate_left
  · intro w'
    go_simp
    with_reducible rfl
  rotate_left
  · simp only [Act.put, List.setIfInBounds_toArray, List.set_cons_zero, List.set_cons_succ, i64_w, i32_w]
    rfl
  refine pure_ (i := 5) (N := some 52) (v := ?_) (a' := ?_) (tf 6 33) rfl rfl (any_of HT_.out (by kernel_rfl)) (fun _ _ _ h => h) (Or.inl ⟨by rfl, ?_⟩) ?_ ?_
  rotate_left
  · intro w'
    go_simp
    with_reducible rfl
  rotate_left
  · simp only [Act.put, List.setIfInBounds_toArray, List.set_cons_zero, List.set_cons_succ, i64_w, i32_w]
    rfl
  refine pure_ (i := 6) (N := some 53) (v := ?_) (a' := ?_) (tf 7 32) rfl rfl (any_of HT_.out (by kernel_rfl)) (fun _ _ _ h => h) (Or.inl ⟨by rfl, ?_⟩) ?_ ?_
  rotate_left
  · intro w'
    go_simp
    with_reducible rfl
  rotate_left
  · simp only [Act.put, List.setIfInBounds_toArray, List.set_cons_zero, List.set_cons_succ, i64_w, i32_w]
    rfl
  refine pure_ (i := 7) (N := some 54) (v := ?_) (a' := ?_) (tf 8 31) rfl rfl (any_of HT_.out (by kernel_rfl)) (fun _ _ _ h => h) (Or.inl ⟨by rfl, ?_⟩) ?_ ?_
  rotate_left
  · intro w'
    go_simp
    with_reducible rfl
  rotate_left
  · simp only [Act.put, List.setIfInBounds_toArray, List.set_cons_zero, List.set_cons_succ, i64_w, i32_w]
    rfl
  refine pure_ (i := 8) (N := some 55) (v := ?_) (a' := ?_) (tf 9 30) rfl rfl (any_of HT_.out (by kernel_rfl)) (fun _ _ _ h => h) (Or.inl ⟨by rfl, ?_⟩) ?_ ?_
  rotate_left
  · intro w'
    go_simp
    with_reducible rfl
  rotate_left
  · simp only [Act.put, List.setIfInBounds_toArray, List.set_cons_zero, List.set_cons_succ, i64_w, i32_w]
    rfl
  refine pure_ (i := 9) (N := some 56) (v := ?_) (a' := ?_) (tf 10 29) rfl rfl (any_of HT_.out (by kernel_rfl)) (fun _ _ _ h => h) (Or.inl ⟨by rfl, ?_⟩) ?_ ?_
  rotate_left
  · intro w'
    go_simp
    with_reducible rfl
  rotate_left
  · simp only [Act.put, List.setIfInBounds_toArray, List.set_cons_zero, List.set_cons_succ, i64_w, i32_w]
    rfl
  refine pure_ (i := 10) (N := some 57) (v := ?_) (a' := ?_) (tf 11 28) rfl rfl (any_of HT_.out (by kernel_rfl)) (fun _ _ _ h => h) (Or.inl ⟨by rfl, ?_⟩) ?_ ?_
  rotate_left
  · intro w'
    go_simp
    with_reducible rfl
  rotate_left
  · simp only [Act.put, List.setIfInBounds_toArray, List.set_cons_zero, List.set_cons_succ, i64_w, i32_w]
    rfl
  refine pure_ (i := 11) (N := some 58) (v := ?_) (a' := ?_) (tf 12 27) rfl rfl (any_of HT_.out (by kernel_rfl)) (fun _ _ _ h => h) (Or.inl ⟨by rfl, ?_⟩) ?_ ?_
  rotate_left
  · intro w'
    go_simp
    with_reducible rfl
  rotate_left
  · simp only [Act.put, List.setIfInBounds_toArray, List.set_cons_zero, List.set_cons_succ, i64_w, i32_w]
    rfl
  refine pure_ (i := 12) (N := some 59) (v := ?_) (a' := ?_) (tf 13 26) rfl rfl (any_of HT_.out (by kernel_rfl)) (fun _ _ _ h => h) (Or.inl ⟨by rfl, ?_⟩) ?_ ?_
  rotate_left
  · intro w'
    go_simp
    with_reducible rfl
  rotate_left
  · simp only [Act.put, List.setIfInBounds_toArray, List.set_cons_zero, List.set_cons_succ, i64_w, i32_w]
    rfl
  refine pure_ (i := 13) (N := some 60) (v := ?_) (a' := ?_) (tf 14 25) rfl rfl (any_of HT_.out (by kernel_rfl)) (fun _ _ _ h => h) (Or.inl ⟨by rfl, ?_⟩) ?_ ?_
  rotate_left
  · intro w'
    go_simp
    with_reducible rfl
  rotate_left
  · simp only [Act.put, List.setIfInBounds_toArray, List.set_cons_zero, List.set_cons_succ, i64_w, i32_w]
    rfl
  refine one_ (i := 14) (N := some 61) (tf 15 24) rfl rfl (one_of HT_.out (by kernel_rfl)) (by decide) (fun K hK => ?_)
  refine Kd.R_lit_step k28 _ 28 ?hg (N := 61) ?hd (xs := ([(⟨(⟨#[98]⟩ : ByteArray), (⟨#[50]⟩ : ByteArray)⟩ : S28), (⟨(⟨#[97]⟩ : ByteArray), (⟨#[52]⟩ : ByteArray)⟩ : S28)] : List (S28))) (inner := [.string (⟨#[98]⟩ : ByteArray), .string (⟨#[50]⟩ : ByteArray), .string (⟨#[97]⟩ : ByteArray), .string (⟨#[52]⟩ : ByteArray)]) (ok := fun _ => True) (okp := fun _ => True) ?hr ?hp (fun _ hk => hk) trivial (Below.refl _ _) (Nat.le_refl _) (by simp) ?_; (case hd => rfl); (case hg => rfl); (case hr => first | (go_simp; done) | (go_simp; rfl)); (case hp => exact (Reps.c2 (show Kd.M k28 _ _ _ (⟨(⟨#[98]⟩ : ByteArray), (⟨#[50]⟩ : ByteArray)⟩ : S28) [.string (⟨#[98]⟩ : ByteArray), .string (⟨#[50]⟩ : ByteArray)] from (k28_mkM _ _ _ (⟨(⟨#[98]⟩ : ByteArray), (⟨#[50]⟩ : ByteArray)⟩ : S28) )) (Reps.c2 (show Kd.M k28 _ _ _ (⟨(⟨#[97]⟩ : ByteArray), (⟨#[52]⟩ : ByteArray)⟩ : S28) [.string (⟨#[97]⟩ : ByteArray), .string (⟨#[52]⟩ : ByteArray)] from (k28_mkM _ _ _ (⟨(⟨#[97]⟩ : ByteArray), (⟨#[52]⟩ : ByteArray)⟩ : S28) )) (Reps.none _ _))))
  intro v216 w50 ho51 hb hg_ hnew_
  have HS0_ := (hb.cell (World.block_lt_of_cell? _ _ (hHeld.1))).trans (hHeld.1)
  have HS1_ := (hb.cell (World.block_lt_of_cell? _ _ (hHeld.2.1))).trans (hHeld.2.1)
  have HS2_ := (hb.cell (World.block_lt_of_cell? _ _ (hHeld.2.2.1))).trans (hHeld.2.2.1)
  have HS3_ := (hb.cell (World.block_lt_of_cell? _ _ (hHeld.2.2.2.1))).trans (hHeld.2.2.2.1)
  have HS4_ := (hb.cell (World.block_lt_of_cell? _ _ (hHeld.2.2.2.2.1))).trans (hHeld.2.2.2.2.1)
  have HS5_ := (hb.cell (World.block_lt_of_cell? _ _ (hHeld.2.2.2.2.2))).trans (hHeld.2.2.2.2.2)
  clear hg_ hnew_
  (first | rw [← Ny215.out] at ho51 | (simp only [Int.reduceToNat] at ho51; rw [← Ny215.out] at ho51))
  have n0_ := Aside0.mk (Kd.R_elder' (by (with_reducible repeat (first | apply Kd.R_alloc | apply Kd.R_drewN | apply Kd.R_drew)); exact HO208.out) (Kd.R_base ho51) hb)
  have n1_ := Aside0.mk (Kd.R_elder' (by (with_reducible repeat (first | apply Kd.R_alloc | apply Kd.R_drewN | apply Kd.R_drew)); exact HO214.out) (Kd.R_base ho51) hb)
  have n2_ := Aside0.mk (Kd.R_lower (Kd.R_new' (Kd.R_new' ho51 (Kd.R_lt (by (with_reducible repeat (first | apply Kd.R_alloc | apply Kd.R_drewN | apply Kd.R_drew)); exact HO208.out))) (Kd.R_lt (by (with_reducible repeat (first | apply Kd.R_alloc | apply Kd.R_drewN | apply Kd.R_drew)); exact HO214.out))) (below_size (by repeat (first | (with_reducible first | exact HB.out | apply below_alloc | apply pw_below_drewN | apply below_drew1) | exact HB.out))))
  have n3_ := Aside0.mk (below_step (by repeat (first | (with_reducible first | exact HB.out | apply below_alloc | apply pw_below_drewN | apply below_drew1) | exact HB.out)) hb)
  clear HO208
  clear HO214
  clear HB
  have HO208 := n0_
  have HO214 := n1_
  have HO217 := n2_
  have HB := n3_
  clear n0_ n1_ n2_ n3_
  clear hb ho51
  obtain ⟨Ao52, co52, eo52⟩ := Kd.R_slice HO217.out
  (first | subst eo52 | (injection eo52 with f1_ f2_ f3_; have f4_ := f1_.symm; have f5_ := f3_.symm; clear f1_ f2_ f3_; subst f4_; subst f5_))
  refine hK.out _ _ ⟨HS0_, HS1_, HS2_, HS3_, HS4_, HS5_⟩ (fun hHeld => ?_)
  clear hK K
  refine norm_ (a' := ?_) ?_ ?_
  rotate_left
  · show Act.put _ (some 61) _ = _
    simp only [Act.put, List.setIfInBounds_toArray, List.set_cons_zero, List.set_cons_succ, i64_w, i32_w]
    rfl
  refine one_ (i := 15) (N := some 62) (tf 16 23) rfl rfl (one_of HT_.out (by kernel_rfl)) (by decide) (fun K hK => ?_)
  refine goes_ Tryd.func20 (by kernel_rfl) rfl #[.slice Ao48 t211.length co48, .slice Ao52 y215.length co52] (by rfl) rfl rfl (by (try simp only [List.map_toArray, List.map_cons, List.map_nil]); first | done | rfl | (simp only [List.length_drop, List.length_take]; rfl)) ?_
  with_reducible refine (head_Same.calls k _ _ t211 _ _ y215 true _ ?side1 ?side2 ?side3 ?side4 A20.out).mono ?_
  (case side1 => repeat (first | exact (Kd.R_reads' HO214.out).2.2 | (with_reducible refine Kd.C_alloc ?_ _) | (with_reducible refine Kd.C_drewN ?_ _) | (with_reducible refine Kd.C_drew ?_)))
  (case side2 => exact (Kd.R_reads' HO214.out).2.1)
  (case side3 => repeat (first | exact (Kd.R_reads' HO217.out).2.2 | (with_reducible refine Kd.C_alloc ?_ _) | (with_reducible refine Kd.C_drewN ?_ _) | (with_reducible refine Kd.C_drew ?_)))
  (case side4 => exact (Kd.R_reads' HO217.out).2.1)
  rintro e w' ⟨rfl, ⟨nd, rfl⟩⟩
  refine ⟨_, rfl, ?_⟩
  refine hK.out _ _ ⟨hHeld.1, hHeld.2.1, hHeld.2.2.1, hHeld.2.2.2.1, hHeld.2.2.2.2.1, hHeld.2.2.2.2.2⟩ (fun hHeld => ?_)
  clear hK K
  refine norm_ (a' := ?_) ?_ ?_
  rotate_left
  · show Act.put _ (some 62) _ = _
    simp only [Act.put, List.setIfInBounds_toArray, List.set_cons_zero, List.set_cons_succ, i64_w, i32_w]
    rfl
  refine pure_ (i := 16) (N := some 63) (v := ?_) (a' := ?_) (tf 17 22) rfl rfl (any_of HT_.out (by kernel_rfl)) (fun _ _ _ h => h) (Or.inl ⟨by rfl, ?_⟩) ?_ ?_
  rotate_left
  · intro w'
    go_simp
    with_reducible rfl
  rotate_left
  · simp only [Act.put, List.setIfInBounds_toArray, List.set_cons_zero, List.set_cons_succ, i64_w, i32_w]
    rfl
  refine pure_ (i := 17) (N := some 64) (v := ?_) (a' := ?_) (tf 18 21) rfl rfl (any_of HT_.out (by kernel_rfl)) (fun _ _ _ h => h) (Or.inl ⟨by rfl, ?_⟩) ?_ ?_
  rotate_left
  · intro w'
    go_simp
    with_reducible rfl
  rotate_left
  · simp only [Act.put, List.setIfInBounds_toArray, List.set_cons_zero, List.set_cons_succ, i64_w, i32_w]
    rfl
  refine pure_ (i := 18) (N := some 65) (v := ?_) (a' := ?_) (tf 19 20) rfl rfl (any_of HT_.out (by kernel_rfl)) (fun _ _ _ h => h) (Or.inl ⟨by rfl, ?_⟩) ?_ ?_
  rotate_left
  · intro w'
    go_simp
    with_reducible rfl
  rotate_left
  · simp only [Act.put, List.setIfInBounds_toArray, List.set_cons_zero, List.set_cons_succ, i64_w, i32_w]
    rfl
  refine pure_ (i := 20) (N := some 67) (v := ?_) (a' := ?_) #[true, true, true, true, true, true, true, true, true, true, true, true, true, true, true, true, true, true, true, false, true, false, false, false, false, false, false, false, false, false, false, false, false, false, false, false, false, false, false] rfl rfl (any_of HT_.out (by kernel_rfl)) (fun _ _ _ h => h) (Or.inl ⟨by rfl, ?_⟩) ?_ ?_
  rotate_left
  · intro w'
    go_simp
    with_reducible rfl
  rotate_left
  · simp only [Act.put, List.setIfInBounds_toArray, List.set_cons_zero, List.set_cons_succ, i64_w, i32_w]
    rfl
  refine pure_ (i := 21) (N := some 68) (v := ?_) (a' := ?_) #[true, true, true, true, true, true, true, true, true, true, true, true, true, true, true, true, true, true, true, false, true, true, false, false, false, false, false, false, false, false, false, false, false, false, false, false, false, false, false] rfl rfl (any_of HT_.out (by kernel_rfl)) (fun _ _ _ h => h) (Or.inl ⟨by rfl, ?_⟩) ?_ ?_
  rotate_left
  · intro w'
    go_simp
    with_reducible rfl
  rotate_left
  · simp only [Act.put, List.setIfInBounds_toArray, List.set_cons_zero, List.set_cons_succ, i64_w, i32_w]
    rfl
  refine pure_ (i := 23) (N := some 70) (v := ?_) (a' := ?_) #[true, true, true, true, true, true, true, true, true, true, true, true, true, true, true, true, true, true, true, false, true, true, false, true, false, false, false, false, false, false, false, false, false, false, false, false, false, false, false] rfl rfl (any_of HT_.out (by kernel_rfl)) (fun _ _ _ h => h) (Or.inl ⟨by rfl, ?_⟩) ?_ ?_
  rotate_left
  · intro w'
    go_simp
    with_reducible rfl
  rotate_left
  · simp only [Act.put, List.setIfInBounds_toArray, List.set_cons_zero, List.set_cons_succ, i64_w, i32_w]
    rfl
  refine pure_ (i := 24) (N := some 71) (v := ?_) (a' := ?_) #[true, true, true, true, true, true, true, true, true, true, true, true, true, true, true, true, true, true, true, false, true, true, false, true, true, false, false, false, false, false, false, false, false, false, false, false, false, false, false] rfl rfl (any_of HT_.out (by kernel_rfl)) (fun _ _ _ h => h) (Or.inl ⟨by rfl, ?_⟩) ?_ ?_
  rotate_left
  · intro w'
    go_simp
    with_reducible rfl
  rotate_left
  · simp only [Act.put, List.setIfInBounds_toArray, List.set_cons_zero, List.set_cons_succ, i64_w, i32_w]
    rfl
  refine take_ (i := 22) (N := some 69) (v := ?_) (a' := ?_) #[true, true, true, true, true, true, true, true, true, true, true, true, true, true, true, true, true, true, true, false, true, true, true, true, true, false, false, false, false, false, false, false, false, false, false, false, false, false, false] rfl rfl (take_ofW HT_.out HW_.out (by kernel_rfl)) (fun _ _ _ h => h) (Or.inl ⟨by rfl, ?_⟩) hHeld ?_ ?_
  rotate_left
  · rintro w' ⟨s0, s1, s2, s3, s4, s5⟩
    go_simp
    with_reducible rfl
  rotate_left
  · simp only [Act.put, List.setIfInBounds_toArray, List.set_cons_zero, List.set_cons_succ, i64_w, i32_w]
    rfl
  refine take_ (i := 25) (N := some 72) (v := ?_) (a' := ?_) #[true, true, true, true, true, true, true, true, true, true, true, true, true, true, true, true, true, true, true, false, true, true, true, true, true, true, false, false, false, false, false, false, false, false, false, false, false, false, false] rfl rfl (take_ofW HT_.out HW_.out (by kernel_rfl)) (fun _ _ _ h => h) (Or.inl ⟨by rfl, ?_⟩) hHeld ?_ ?_
  rotate_left
  · rintro w' ⟨s0, s1, s2, s3, s4, s5⟩
    go_simp
    with_reducible rfl
  rotate_left
  · simp only [Act.put, List.setIfInBounds_toArray, List.set_cons_zero, List.set_cons_succ, i64_w, i32_w]
    rfl
  refine join_ (σ := Value × Value × Value × Value) 3 (tf 36 3) (fun s_ => [(66, s_.1), (73, s_.2.1), (74, .bool true), (78, s_.2.2.1), (82, s_.2.2.2), (75, .bool true), (76, .bool true), (77, .slice (some ad222) y206.length co45), (79, .slice (some ad222) y206.length co45), (80, .pointer (some (ad222.add 2))), (81, .agg #[.string ((rd_T28 y206 1).f0), .string ((rd_T28 y206 1).f1)])]) (fun s_ w' => (w'.cell? ad222 = some (.string ((rd_T28 y206 0).f0)) ∧ w'.cell? ⟨ad222.block, ad222.off + 1, none⟩ = some (.string ((rd_T28 y206 0).f1)) ∧ w'.cell? ⟨ad222.block, ad222.off + 4, none⟩ = some (.string ((rd_T28 y206 2).f0)) ∧ w'.cell? ⟨ad222.block, ad222.off + 4 + 1, none⟩ = some (.string ((rd_T28 y206 2).f1)) ∧ w'.cell? ⟨ad222.block, ad222.off + 2, none⟩ = some (.string ((rd_T28 y206 1).f0)) ∧ w'.cell? ⟨ad222.block, ad222.off + 2 + 1, none⟩ = some (.string ((rd_T28 y206 1).f1))) ∧ (Kd.R k28 28 w' w.heap.size (fun k_ => some k_ ≠ (.slice Ao48 t211.length co48 : Value).ownBlock ∧ some k_ ≠ (.slice Ao52 y215.length co52 : Value).ownBlock ∧ some k_ ≠ (s_.1 : Value).ownBlock ∧ some k_ ≠ (s_.2.1 : Value).ownBlock ∧ some k_ ≠ (s_.2.2.1 : Value).ownBlock ∧ some k_ ≠ (s_.2.2.2 : Value).ownBlock) (.slice (some ad222) y206.length co45) y206) ∧ (Kd.R k28 28 w' w.heap.size (fun k_ => some k_ ≠ (.slice (some ad222) y206.length co45 : Value).ownBlock ∧ some k_ ≠ (.slice Ao52 y215.length co52 : Value).ownBlock ∧ some k_ ≠ (s_.1 : Value).ownBlock ∧ some k_ ≠ (s_.2.1 : Value).ownBlock ∧ some k_ ≠ (s_.2.2.1 : Value).ownBlock ∧ some k_ ≠ (s_.2.2.2 : Value).ownBlock) (.slice Ao48 t211.length co48) t211) ∧ (Kd.R k28 28 w' w.heap.size (fun k_ => some k_ ≠ (.slice (some ad222) y206.length co45 : Value).ownBlock ∧ some k_ ≠ (.slice Ao48 t211.length co48 : Value).ownBlock ∧ some k_ ≠ (s_.1 : Value).ownBlock ∧ some k_ ≠ (s_.2.1 : Value).ownBlock ∧ some k_ ≠ (s_.2.2.1 : Value).ownBlock ∧ some k_ ≠ (s_.2.2.2 : Value).ownBlock) (.slice Ao52 y215.length co52) y215) ∧ (Kd.R k28 28 w' w.heap.size (fun k_ => some k_ ≠ (.slice (some ad222) y206.length co45 : Value).ownBlock ∧ some k_ ≠ (.slice Ao48 t211.length co48 : Value).ownBlock ∧ some k_ ≠ (.slice Ao52 y215.length co52 : Value).ownBlock ∧ some k_ ≠ (s_.2.1 : Value).ownBlock ∧ some k_ ≠ (s_.2.2.1 : Value).ownBlock ∧ some k_ ≠ (s_.2.2.2 : Value).ownBlock) s_.1 t219) ∧ (Kd.R k28 28 w' w.heap.size (fun k_ => some k_ ≠ (.slice (some ad222) y206.length co45 : Value).ownBlock ∧ some k_ ≠ (.slice Ao48 t211.length co48 : Value).ownBlock ∧ some k_ ≠ (.slice Ao52 y215.length co52 : Value).ownBlock ∧ some k_ ≠ (s_.1 : Value).ownBlock ∧ some k_ ≠ (s_.2.2.1 : Value).ownBlock ∧ some k_ ≠ (s_.2.2.2 : Value).ownBlock) s_.2.1 y224) ∧ (Kd.R k28 28 w' w.heap.size (fun k_ => some k_ ≠ (.slice (some ad222) y206.length co45 : Value).ownBlock ∧ some k_ ≠ (.slice Ao48 t211.length co48 : Value).ownBlock ∧ some k_ ≠ (.slice Ao52 y215.length co52 : Value).ownBlock ∧ some k_ ≠ (s_.1 : Value).ownBlock ∧ some k_ ≠ (s_.2.1 : Value).ownBlock ∧ some k_ ≠ (s_.2.2.2 : Value).ownBlock) s_.2.2.1 t228) ∧ (Kd.R k28 28 w' w.heap.size (fun k_ => some k_ ≠ (.slice (some ad222) y206.length co45 : Value).ownBlock ∧ some k_ ≠ (.slice Ao48 t211.length co48 : Value).ownBlock ∧ some k_ ≠ (.slice Ao52 y215.length co52 : Value).ownBlock ∧ some k_ ≠ (s_.1 : Value).ownBlock ∧ some k_ ≠ (s_.2.1 : Value).ownBlock ∧ some k_ ≠ (s_.2.2.1 : Value).ownBlock) s_.2.2.2 y232) ∧ (Below w.heap.size w w')) ?_ ?_
  rotate_left
  · intro hCont
    refine two_ (i := 19) (j := 26) (Ni := some 66) (Nj := some 73) (tf 26 13) #[true, true, true, true, true, true, true, true, true, true, true, true, true, true, true, true, true, true, true, false, true, true, true, true, true, true, true, false, false, false, false, false, false, false, false, false, false, false, false] rfl rfl rfl rfl (two_of HT_.out (by kernel_rfl)) (by decide) (by decide) (fun K hK => ?_) (fun K hK => ?_)
    · skip
      refine goes_ Tryd.func23 (by kernel_rfl) rfl #[.slice (some ad222) y206.length co45, .string (⟨#[66]⟩ : ByteArray)] (by rfl) rfl rfl (by (try simp only [List.map_toArray, List.map_cons, List.map_nil]); first | done | rfl | (simp only [List.length_drop, List.length_take]; rfl)) ?_
      with_reducible refine (head_Drop.calls _ _ y206 (⟨#[66]⟩ : ByteArray) t219 _ ?side1 ?side2 A22.out).mono ?_
      (case side1 => repeat (first | exact (Kd.R_reads' HO208.out).2.2 | (with_reducible refine Kd.C_alloc ?_ _) | (with_reducible refine Kd.C_drewN ?_ _) | (with_reducible refine Kd.C_drew ?_)))
      (case side2 => exact (Kd.R_reads' HO208.out).2.1)
      rintro e w53 ⟨v220, rfl, ho0, hb⟩
      have HS0_ := (hb.cell (World.block_lt_of_cell? _ _ (hHeld.1))).trans (hHeld.1)
      have HS1_ := (hb.cell (World.block_lt_of_cell? _ _ (hHeld.2.1))).trans (hHeld.2.1)
      have HS2_ := (hb.cell (World.block_lt_of_cell? _ _ (hHeld.2.2.1))).trans (hHeld.2.2.1)
      have HS3_ := (hb.cell (World.block_lt_of_cell? _ _ (hHeld.2.2.2.1))).trans (hHeld.2.2.2.1)
      have HS4_ := (hb.cell (World.block_lt_of_cell? _ _ (hHeld.2.2.2.2.1))).trans (hHeld.2.2.2.2.1)
      have HS5_ := (hb.cell (World.block_lt_of_cell? _ _ (hHeld.2.2.2.2.2))).trans (hHeld.2.2.2.2.2)
      refine ⟨_, rfl, ?_⟩
      have n0_ := Aside0.mk (Kd.R_elder' (by (with_reducible repeat (first | apply Kd.R_alloc | apply Kd.R_drewN | apply Kd.R_drew)); exact HO208.out) (Kd.R_base ho0) hb)
      have n1_ := Aside0.mk (Kd.R_elder' (by (with_reducible repeat (first | apply Kd.R_alloc | apply Kd.R_drewN | apply Kd.R_drew)); exact HO214.out) (Kd.R_base ho0) hb)
      have n2_ := Aside0.mk (Kd.R_elder' (by (with_reducible repeat (first | apply Kd.R_alloc | apply Kd.R_drewN | apply Kd.R_drew)); exact HO217.out) (Kd.R_base ho0) hb)
      have n3_ := Aside0.mk (Kd.R_lower (Kd.R_new' (Kd.R_new' (Kd.R_new' ho0 (Kd.R_lt (by (with_reducible repeat (first | apply Kd.R_alloc | apply Kd.R_drewN | apply Kd.R_drew)); exact HO208.out))) (Kd.R_lt (by (with_reducible repeat (first | apply Kd.R_alloc | apply Kd.R_drewN | apply Kd.R_drew)); exact HO214.out))) (Kd.R_lt (by (with_reducible repeat (first | apply Kd.R_alloc | apply Kd.R_drewN | apply Kd.R_drew)); exact HO217.out))) (below_size (by repeat (first | (with_reducible first | exact HB.out | apply below_alloc | apply pw_below_drewN | apply below_drew1) | exact HB.out))))
      have n4_ := Aside0.mk (below_step (by repeat (first | (with_reducible first | exact HB.out | apply below_alloc | apply pw_below_drewN | apply below_drew1) | exact HB.out)) hb)
      clear HO208
      clear HO214
      clear HO217
      clear HB
      have HO208 := n0_
      have HO214 := n1_
      have HO217 := n2_
      have HO221 := n3_
      have HB := n4_
      clear n0_ n1_ n2_ n3_ n4_
      (try clear hb)
      (try clear hb2)
      (try clear hk)
      (try clear hi)
      (try clear ho0)
      refine hK.out _ _ ⟨HS0_, HS1_, HS2_, HS3_, HS4_, HS5_⟩ (fun hHeld => ?_)
      clear hK K
      refine norm_ (a' := ?_) ?_ ?_
      rotate_left
      · show Act.put _ (some 66) _ = _
        simp only [Act.put, List.setIfInBounds_toArray, List.set_cons_zero, List.set_cons_succ, i64_w, i32_w]
        rfl
      refine one_ (i := 26) (N := some 73) (tf 27 12) rfl rfl (one_of HT_.out (by kernel_rfl)) (by decide) (fun K hK => ?_)
      refine Kd.R_lit_step k28 _ 28 ?hg (N := 73) ?hd (xs := ([(⟨(rd_T28 y206 0).f0, (rd_T28 y206 0).f1⟩ : S28), (⟨(rd_T28 y206 2).f0, (rd_T28 y206 2).f1⟩ : S28)] : List (S28))) (inner := [.string ((rd_T28 y206 0).f0), .string ((rd_T28 y206 0).f1), .string ((rd_T28 y206 2).f0), .string ((rd_T28 y206 2).f1)]) (ok := fun _ => True) (okp := fun _ => True) ?hr ?hp (fun _ hk => hk) trivial (Below.refl _ _) (Nat.le_refl _) (by simp) ?_; (case hd => rfl); (case hg => rfl); (case hr => first | (go_simp; done) | (go_simp; rfl)); (case hp => exact (Reps.c2 (show Kd.M k28 _ _ _ (⟨(rd_T28 y206 0).f0, (rd_T28 y206 0).f1⟩ : S28) [.string ((rd_T28 y206 0).f0), .string ((rd_T28 y206 0).f1)] from (k28_mkM _ _ _ (⟨(rd_T28 y206 0).f0, (rd_T28 y206 0).f1⟩ : S28) )) (Reps.c2 (show Kd.M k28 _ _ _ (⟨(rd_T28 y206 2).f0, (rd_T28 y206 2).f1⟩ : S28) [.string ((rd_T28 y206 2).f0), .string ((rd_T28 y206 2).f1)] from (k28_mkM _ _ _ (⟨(rd_T28 y206 2).f0, (rd_T28 y206 2).f1⟩ : S28) )) (Reps.none _ _))))
      intro v225 w54 ho55 hb hg_ hnew_
      have HS0_ := (hb.cell (World.block_lt_of_cell? _ _ (hHeld.1))).trans (hHeld.1)
      have HS1_ := (hb.cell (World.block_lt_of_cell? _ _ (hHeld.2.1))).trans (hHeld.2.1)
      have HS2_ := (hb.cell (World.block_lt_of_cell? _ _ (hHeld.2.2.1))).trans (hHeld.2.2.1)
      have HS3_ := (hb.cell (World.block_lt_of_cell? _ _ (hHeld.2.2.2.1))).trans (hHeld.2.2.2.1)
      have HS4_ := (hb.cell (World.block_lt_of_cell? _ _ (hHeld.2.2.2.2.1))).trans (hHeld.2.2.2.2.1)
      have HS5_ := (hb.cell (World.block_lt_of_cell? _ _ (hHeld.2.2.2.2.2))).trans (hHeld.2.2.2.2.2)
      clear hg_ hnew_
      (first | rw [← Ny224.out] at ho55 | (simp only [Int.reduceToNat] at ho55; rw [← Ny224.out] at ho55))
      have n0_ := Aside0.mk (Kd.R_elder' (by (with_reducible repeat (first | apply Kd.R_alloc | apply Kd.R_drewN | apply Kd.R_drew)); exact HO208.out) (Kd.R_base ho55) hb)
      have n1_ := Aside0.mk (Kd.R_elder' (by (with_reducible repeat (first | apply Kd.R_alloc | apply Kd.R_drewN | apply Kd.R_drew)); exact HO214.out) (Kd.R_base ho55) hb)
      have n2_ := Aside0.mk (Kd.R_elder' (by (with_reducible repeat (first | apply Kd.R_alloc | apply Kd.R_drewN | apply Kd.R_drew)); exact HO217.out) (Kd.R_base ho55) hb)
      have n3_ := Aside0.mk (Kd.R_elder' (by (with_reducible repeat (first | apply Kd.R_alloc | apply Kd.R_drewN | apply Kd.R_drew)); exact HO221.out) (Kd.R_base ho55) hb)
      have n4_ := Aside0.mk (Kd.R_lower (Kd.R_new' (Kd.R_new' (Kd.R_new' (Kd.R_new' ho55 (Kd.R_lt (by (with_reducible repeat (first | apply Kd.R_alloc | apply Kd.R_drewN | apply Kd.R_drew)); exact HO208.out))) (Kd.R_lt (by (with_reducible repeat (first | apply Kd.R_alloc | apply Kd.R_drewN | apply Kd.R_drew)); exact HO214.out))) (Kd.R_lt (by (with_reducible repeat (first | apply Kd.R_alloc | apply Kd.R_drewN | apply Kd.R_drew)); exact HO217.out))) (Kd.R_lt (by (with_reducible repeat (first | apply Kd.R_alloc | apply Kd.R_drewN | apply Kd.R_drew)); exact HO221.out))) (below_size (by repeat (first | (with_reducible first | exact HB.out | apply below_alloc | apply pw_below_drewN | apply below_drew1) | exact HB.out))))
      have n5_ := Aside0.mk (below_step (by repeat (first | (with_reducible first | exact HB.out | apply below_alloc | apply pw_below_drewN | apply below_drew1) | exact HB.out)) hb)
      clear HO208
      clear HO214
      clear HO217
      clear HO221
      clear HB
      have HO208 := n0_
      have HO214 := n1_
      have HO217 := n2_
      have HO221 := n3_
      have HO226 := n4_
      have HB := n5_
      clear n0_ n1_ n2_ n3_ n4_ n5_
      clear hb ho55
      obtain ⟨Ao56, co56, eo56⟩ := Kd.R_slice HO221.out
      (first | subst eo56 | (injection eo56 with f1_ f2_ f3_; have f4_ := f1_.symm; have f5_ := f3_.symm; clear f1_ f2_ f3_; subst f4_; subst f5_))
      obtain ⟨Ao57, co57, eo57⟩ := Kd.R_slice HO226.out
      (first | subst eo57 | (injection eo57 with f1_ f2_ f3_; have f4_ := f1_.symm; have f5_ := f3_.symm; clear f1_ f2_ f3_; subst f4_; subst f5_))
      refine hK.out _ _ ⟨HS0_, HS1_, HS2_, HS3_, HS4_, HS5_⟩ (fun hHeld => ?_)
      clear hK K
      refine norm_ (a' := ?_) ?_ ?_
      rotate_left
      · show Act.put _ (some 73) _ = _
        simp only [Act.put, List.setIfInBounds_toArray, List.set_cons_zero, List.set_cons_succ, i64_w, i32_w]
        rfl
      refine one_ (i := 27) (N := some 74) (tf 28 11) rfl rfl (one_of HT_.out (by kernel_rfl)) (by decide) (fun K hK => ?_)
      refine goes_ Tryd.func20 (by kernel_rfl) rfl #[.slice Ao56 t219.length co56, .slice Ao57 y224.length co57] (by rfl) rfl rfl (by (try simp only [List.map_toArray, List.map_cons, List.map_nil]); first | done | rfl | (simp only [List.length_drop, List.length_take]; rfl)) ?_
      with_reducible refine (head_Same.calls k _ _ t219 _ _ y224 true _ ?side1 ?side2 ?side3 ?side4 A25.out).mono ?_
      (case side1 => repeat (first | exact (Kd.R_reads' HO221.out).2.2 | (with_reducible refine Kd.C_alloc ?_ _) | (with_reducible refine Kd.C_drewN ?_ _) | (with_reducible refine Kd.C_drew ?_)))
      (case side2 => exact (Kd.R_reads' HO221.out).2.1)
      (case side3 => repeat (first | exact (Kd.R_reads' HO226.out).2.2 | (with_reducible refine Kd.C_alloc ?_ _) | (with_reducible refine Kd.C_drewN ?_ _) | (with_reducible refine Kd.C_drew ?_)))
      (case side4 => exact (Kd.R_reads' HO226.out).2.1)
      rintro e w' ⟨rfl, ⟨nd, rfl⟩⟩
      refine ⟨_, rfl, ?_⟩
      refine hK.out _ _ ⟨hHeld.1, hHeld.2.1, hHeld.2.2.1, hHeld.2.2.2.1, hHeld.2.2.2.2.1, hHeld.2.2.2.2.2⟩ (fun hHeld => ?_)
      clear hK K
      refine norm_ (a' := ?_) ?_ ?_
      rotate_left
      · show Act.put _ (some 74) _ = _
        simp only [Act.put, List.setIfInBounds_toArray, List.set_cons_zero, List.set_cons_succ, i64_w, i32_w]
        rfl
      refine pure_ (i := 28) (N := some 75) (v := ?_) (a' := ?_) (tf 29 10) rfl rfl (any_of HT_.out (by kernel_rfl)) (fun _ _ _ h => h) (Or.inl ⟨by rfl, ?_⟩) ?_ ?_
      rotate_left
      · intro w'
        go_simp
        with_reducible rfl
      rotate_left
      · simp only [Act.put, List.setIfInBounds_toArray, List.set_cons_zero, List.set_cons_succ, i64_w, i32_w]
        rfl
      refine pure_ (i := 29) (N := some 76) (v := ?_) (a' := ?_) (tf 30 9) rfl rfl (any_of HT_.out (by kernel_rfl)) (fun _ _ _ h => h) (Or.inl ⟨by rfl, ?_⟩) ?_ ?_
      rotate_left
      · intro w'
        go_simp
        with_reducible rfl
      rotate_left
      · simp only [Act.put, List.setIfInBounds_toArray, List.set_cons_zero, List.set_cons_succ, i64_w, i32_w]
        rfl
      refine pure_ (i := 30) (N := some 77) (v := ?_) (a' := ?_) (tf 31 8) rfl rfl (any_of HT_.out (by kernel_rfl)) (fun _ _ _ h => h) (Or.inl ⟨by rfl, ?_⟩) ?_ ?_
      rotate_left
      · intro w'
        go_simp
        with_reducible rfl
      rotate_left
      · simp only [Act.put, List.setIfInBounds_toArray, List.set_cons_zero, List.set_cons_succ, i64_w, i32_w]
        rfl
      refine pure_ (i := 32) (N := some 79) (v := ?_) (a' := ?_) #[true, true, true, true, true, true, true, true, true, true, true, true, true, true, true, true, true, true, true, true, true, true, true, true, true, true, true, true, true, true, true, false, true, false, false, false, false, false, false] rfl rfl (any_of HT_.out (by kernel_rfl)) (fun _ _ _ h => h) (Or.inl ⟨by rfl, ?_⟩) ?_ ?_
      rotate_left
      · intro w'
        go_simp
        with_reducible rfl
      rotate_left
      · simp only [Act.put, List.setIfInBounds_toArray, List.set_cons_zero, List.set_cons_succ, i64_w, i32_w]
        rfl
      refine pure_ (i := 33) (N := some 80) (v := ?_) (a' := ?_) #[true, true, true, true, true, true, true, true, true, true, true, true, true, true, true, true, true, true, true, true, true, true, true, true, true, true, true, true, true, true, true, false, true, true, false, false, false, false, false] rfl rfl (any_of HT_.out (by kernel_rfl)) (fun _ _ _ h => h) (Or.inl ⟨by rfl, ?_⟩) ?_ ?_
      rotate_left
      · intro w'
        go_simp
        with_reducible rfl
      rotate_left
      · simp only [Act.put, List.setIfInBounds_toArray, List.set_cons_zero, List.set_cons_succ, i64_w, i32_w]
        rfl
      refine take_ (i := 34) (N := some 81) (v := ?_) (a' := ?_) #[true, true, true, true, true, true, true, true, true, true, true, true, true, true, true, true, true, true, true, true, true, true, true, true, true, true, true, true, true, true, true, false, true, true, true, false, false, false, false] rfl rfl (take_ofW HT_.out HW_.out (by kernel_rfl)) (fun _ _ _ h => h) (Or.inl ⟨by rfl, ?_⟩) hHeld ?_ ?_
      rotate_left
      · rintro w' ⟨s0, s1, s2, s3, s4, s5⟩
        go_simp
        with_reducible rfl
      rotate_left
      · simp only [Act.put, List.setIfInBounds_toArray, List.set_cons_zero, List.set_cons_succ, i64_w, i32_w]
        rfl
      refine two_ (i := 31) (j := 35) (Ni := some 78) (Nj := some 82) (tf 35 4) #[true, true, true, true, true, true, true, true, true, true, true, true, true, true, true, true, true, true, true, true, true, true, true, true, true, true, true, true, true, true, true, false, true, true, true, true, false, false, false] rfl rfl rfl rfl (two_of HT_.out (by kernel_rfl)) (by decide) (by decide) (fun K hK => ?_) (fun K hK => ?_)
      · skip
        refine goes_ Tryd.func24 (by kernel_rfl) rfl #[.slice (some ad222) y206.length co45, .string (⟨#[65]⟩ : ByteArray)] (by rfl) rfl rfl (by (try simp only [List.map_toArray, List.map_cons, List.map_nil]); first | done | rfl | (simp only [List.length_drop, List.length_take]; rfl)) ?_
        with_reducible refine (head_Strip.calls _ _ y206 (⟨#[65]⟩ : ByteArray) t228 _ ?side1 ?side2 A27.out).mono ?_
        (case side1 => repeat (first | exact (Kd.R_reads' HO208.out).2.2 | (with_reducible refine Kd.C_alloc ?_ _) | (with_reducible refine Kd.C_drewN ?_ _) | (with_reducible refine Kd.C_drew ?_)))
        (case side2 => exact (Kd.R_reads' HO208.out).2.1)
        rintro e w58 ⟨v229, rfl, ho0, hb⟩
        have HS0_ := (hb.cell (World.block_lt_of_cell? _ _ (hHeld.1))).trans (hHeld.1)
        have HS1_ := (hb.cell (World.block_lt_of_cell? _ _ (hHeld.2.1))).trans (hHeld.2.1)
        have HS2_ := (hb.cell (World.block_lt_of_cell? _ _ (hHeld.2.2.1))).trans (hHeld.2.2.1)
        have HS3_ := (hb.cell (World.block_lt_of_cell? _ _ (hHeld.2.2.2.1))).trans (hHeld.2.2.2.1)
        have HS4_ := (hb.cell (World.block_lt_of_cell? _ _ (hHeld.2.2.2.2.1))).trans (hHeld.2.2.2.2.1)
        have HS5_ := (hb.cell (World.block_lt_of_cell? _ _ (hHeld.2.2.2.2.2))).trans (hHeld.2.2.2.2.2)
        refine ⟨_, rfl, ?_⟩
        have n0_ := Aside0.mk (Kd.R_elder' (by (with_reducible repeat (first | apply Kd.R_alloc | apply Kd.R_drewN | apply Kd.R_drew)); exact HO208.out) (Kd.R_base ho0) hb)
        have n1_ := Aside0.mk (Kd.R_elder' (by (with_reducible repeat (first | apply Kd.R_alloc | apply Kd.R_drewN | apply Kd.R_drew)); exact HO214.out) (Kd.R_base ho0) hb)
        have n2_ := Aside0.mk (Kd.R_elder' (by (with_reducible repeat (first | apply Kd.R_alloc | apply Kd.R_drewN | apply Kd.R_drew)); exact HO217.out) (Kd.R_base ho0) hb)
        have n3_ := Aside0.mk (Kd.R_elder' (by (with_reducible repeat (first | apply Kd.R_alloc | apply Kd.R_drewN | apply Kd.R_drew)); exact HO221.out) (Kd.R_base ho0) hb)
        have n4_ := Aside0.mk (Kd.R_elder' (by (with_reducible repeat (first | apply Kd.R_alloc | apply Kd.R_drewN | apply Kd.R_drew)); exact HO226.out) (Kd.R_base ho0) hb)
        have n5_ := Aside0.mk (Kd.R_lower (Kd.R_new' (Kd.R_new' (Kd.R_new' (Kd.R_new' (Kd.R_new' ho0 (Kd.R_lt (by (with_reducible repeat (first | apply Kd.R_alloc | apply Kd.R_drewN | apply Kd.R_drew)); exact HO208.out))) (Kd.R_lt (by (with_reducible repeat (first | apply Kd.R_alloc | apply Kd.R_drewN | apply Kd.R_drew)); exact HO214.out))) (Kd.R_lt (by (with_reducible repeat (first | apply Kd.R_alloc | apply Kd.R_drewN | apply Kd.R_drew)); exact HO217.out))) (Kd.R_lt (by (with_reducible repeat (first | apply Kd.R_alloc | apply Kd.R_drewN | apply Kd.R_drew)); exact HO221.out))) (Kd.R_lt (by (with_reducible repeat (first | apply Kd.R_alloc | apply Kd.R_drewN | apply Kd.R_drew)); exact HO226.out))) (below_size (by repeat (first | (with_reducible first | exact HB.out | apply below_alloc | apply pw_below_drewN | apply below_drew1) | exact HB.out))))
        have n6_ := Aside0.mk (below_step (by repeat (first | (with_reducible first | exact HB.out | apply below_alloc | apply pw_below_drewN | apply below_drew1) | exact HB.out)) hb)
        clear HO208
        clear HO214
        clear HO217
        clear HO221
        clear HO226
        clear HB
        have HO208 := n0_
        have HO214 := n1_
        have HO217 := n2_
        have HO221 := n3_
        have HO226 := n4_
        have HO230 := n5_
        have HB := n6_
        clear n0_ n1_ n2_ n3_ n4_ n5_ n6_
        (try clear hb)
        (try clear hb2)
        (try clear hk)
        (try clear hi)
        (try clear ho0)
        refine hK.out _ _ ⟨HS0_, HS1_, HS2_, HS3_, HS4_, HS5_⟩ (fun hHeld => ?_)
        clear hK K
        refine norm_ (a' := ?_) ?_ ?_
        rotate_left
        · show Act.put _ (some 78) _ = _
          simp only [Act.put, List.setIfInBounds_toArray, List.set_cons_zero, List.set_cons_succ, i64_w, i32_w]
          rfl
        refine one_ (i := 35) (N := some 82) (tf 36 3) rfl rfl (one_of HT_.out (by kernel_rfl)) (by decide) (fun K hK => ?_)
        refine Kd.R_lit_step k28 _ 28 ?hg (N := 82) ?hd (xs := ([(⟨(rd_T28 y206 1).f0, (rd_T28 y206 1).f1⟩ : S28)] : List (S28))) (inner := [.string ((rd_T28 y206 1).f0), .string ((rd_T28 y206 1).f1)]) (ok := fun _ => True) (okp := fun _ => True) ?hr ?hp (fun _ hk => hk) trivial (Below.refl _ _) (Nat.le_refl _) (by simp) ?_; (case hd => rfl); (case hg => rfl); (case hr => first | (go_simp; done) | (go_simp; rfl)); (case hp => exact (Reps.c2 (show Kd.M k28 _ _ _ (⟨(rd_T28 y206 1).f0, (rd_T28 y206 1).f1⟩ : S28) [.string ((rd_T28 y206 1).f0), .string ((rd_T28 y206 1).f1)] from (k28_mkM _ _ _ (⟨(rd_T28 y206 1).f0, (rd_T28 y206 1).f1⟩ : S28) )) (Reps.none _ _)))
        intro v233 w59 ho60 hb hg_ hnew_
        have HS0_ := (hb.cell (World.block_lt_of_cell? _ _ (hHeld.1))).trans (hHeld.1)
        have HS1_ := (hb.cell (World.block_lt_of_cell? _ _ (hHeld.2.1))).trans (hHeld.2.1)
        have HS2_ := (hb.cell (World.block_lt_of_cell? _ _ (hHeld.2.2.1))).trans (hHeld.2.2.1)
        have HS3_ := (hb.cell (World.block_lt_of_cell? _ _ (hHeld.2.2.2.1))).trans (hHeld.2.2.2.1)
        have HS4_ := (hb.cell (World.block_lt_of_cell? _ _ (hHeld.2.2.2.2.1))).trans (hHeld.2.2.2.2.1)
        have HS5_ := (hb.cell (World.block_lt_of_cell? _ _ (hHeld.2.2.2.2.2))).trans (hHeld.2.2.2.2.2)
        clear hg_ hnew_
        (first | rw [← Ny232.out] at ho60 | (simp only [Int.reduceToNat] at ho60; rw [← Ny232.out] at ho60))
        have n0_ := Aside0.mk (Kd.R_elder' (by (with_reducible repeat (first | apply Kd.R_alloc | apply Kd.R_drewN | apply Kd.R_drew)); exact HO208.out) (Kd.R_base ho60) hb)
        have n1_ := Aside0.mk (Kd.R_elder' (by (with_reducible repeat (first | apply Kd.R_alloc | apply Kd.R_drewN | apply Kd.R_drew)); exact HO214.out) (Kd.R_base ho60) hb)
        have n2_ := Aside0.mk (Kd.R_elder' (by (with_reducible repeat (first | apply Kd.R_alloc | apply Kd.R_drewN | apply Kd.R_drew)); exact HO217.out) (Kd.R_base ho60) hb)
        have n3_ := Aside0.mk (Kd.R_elder' (by (with_reducible repeat (first | apply Kd.R_alloc | apply Kd.R_drewN | apply Kd.R_drew)); exact HO221.out) (Kd.R_base ho60) hb)
        have n4_ := Aside0.mk (Kd.R_elder' (by (with_reducible repeat (first | apply Kd.R_alloc | apply Kd.R_drewN | apply Kd.R_drew)); exact HO226.out) (Kd.R_base ho60) hb)
        have n5_ := Aside0.mk (Kd.R_elder' (by (with_reducible repeat (first | apply Kd.R_alloc | apply Kd.R_drewN | apply Kd.R_drew)); exact HO230.out) (Kd.R_base ho60) hb)
        have n6_ := Aside0.mk (Kd.R_lower (Kd.R_new' (Kd.R_new' (Kd.R_new' (Kd.R_new' (Kd.R_new' (Kd.R_new' ho60 (Kd.R_lt (by (with_reducible repeat (first | apply Kd.R_alloc | apply Kd.R_drewN | apply Kd.R_drew)); exact HO208.out))) (Kd.R_lt (by (with_reducible repeat (first | apply Kd.R_alloc | apply Kd.R_drewN | apply Kd.R_drew)); exact HO214.out))) (Kd.R_lt (by (with_reducible repeat (first | apply Kd.R_alloc | apply Kd.R_drewN | apply Kd.R_drew)); exact HO217.out))) (Kd.R_lt (by (with_reducible repeat (first | apply Kd.R_alloc | apply Kd.R_drewN | apply Kd.R_drew)); exact HO221.out))) (Kd.R_lt (by (with_reducible repeat (first | apply Kd.R_alloc | apply Kd.R_drewN | apply Kd.R_drew)); exact HO226.out))) (Kd.R_lt (by (with_reducible repeat (first | apply Kd.R_alloc | apply Kd.R_drewN | apply Kd.R_drew)); exact HO230.out))) (below_size (by repeat (first | (with_reducible first | exact HB.out | apply below_alloc | apply pw_below_drewN | apply below_drew1) | exact HB.out))))
        have n7_ := Aside0.mk (below_step (by repeat (first | (with_reducible first | exact HB.out | apply below_alloc | apply pw_below_drewN | apply below_drew1) | exact HB.out)) hb)
        clear HO208
        clear HO214
        clear HO217
        clear HO221
        clear HO226
        clear HO230
        clear HB
        have HO208 := n0_
        have HO214 := n1_
        have HO217 := n2_
        have HO221 := n3_
        have HO226 := n4_
        have HO230 := n5_
        have HO234 := n6_
        have HB := n7_
        clear n0_ n1_ n2_ n3_ n4_ n5_ n6_ n7_
        clear hb ho60
        refine hK.out _ _ ⟨HS0_, HS1_, HS2_, HS3_, HS4_, HS5_⟩ (fun hHeld => ?_)
        clear hK K
        refine norm_ (a' := ?_) ?_ ?_
        rotate_left
        · show Act.put _ (some 82) _ = _
          simp only [Act.put, List.setIfInBounds_toArray, List.set_cons_zero, List.set_cons_succ, i64_w, i32_w]
          rfl
        exact norm_ (by first | (simp only [putAll, Act.put, List.setIfInBounds_toArray, List.set_cons_zero, List.set_cons_succ]; done) | (simp only [putAll, Act.put, List.setIfInBounds_toArray, List.set_cons_zero, List.set_cons_succ, i64_w, i32_w]; rfl)) (hCont (.slice Ao56 t219.length co56, .slice Ao57 y224.length co57, v229, v233) _ ⟨hHeld, (by (with_reducible repeat (first | apply Kd.R_alloc | apply Kd.R_drewN | apply Kd.R_drew)); exact Kd.R_mono HO208.out (fun _ hk => ⟨hk.1.1.1.1.1.2, ⟨hk.1.1.1.1.2, ⟨hk.1.1.1.2, ⟨hk.1.1.2, ⟨hk.1.2, hk.2⟩⟩⟩⟩⟩)), (by (with_reducible repeat (first | apply Kd.R_alloc | apply Kd.R_drewN | apply Kd.R_drew)); exact Kd.R_mono HO214.out (fun _ hk => ⟨hk.1.1.1.1.1.2, ⟨hk.1.1.1.1.2, ⟨hk.1.1.1.2, ⟨hk.1.1.2, ⟨hk.1.2, hk.2⟩⟩⟩⟩⟩)), (by (with_reducible repeat (first | apply Kd.R_alloc | apply Kd.R_drewN | apply Kd.R_drew)); exact Kd.R_mono HO217.out (fun _ hk => ⟨hk.1.1.1.1.1.2, ⟨hk.1.1.1.1.2, ⟨hk.1.1.1.2, ⟨hk.1.1.2, ⟨hk.1.2, hk.2⟩⟩⟩⟩⟩)), (by (with_reducible repeat (first | apply Kd.R_alloc | apply Kd.R_drewN | apply Kd.R_drew)); exact Kd.R_mono HO221.out (fun _ hk => ⟨hk.1.1.1.1.1.2, ⟨hk.1.1.1.1.2, ⟨hk.1.1.1.2, ⟨hk.1.1.2, ⟨hk.1.2, hk.2⟩⟩⟩⟩⟩)), (by (with_reducible repeat (first | apply Kd.R_alloc | apply Kd.R_drewN | apply Kd.R_drew)); exact Kd.R_mono HO226.out (fun _ hk => ⟨hk.1.1.1.1.1.2, ⟨hk.1.1.1.1.2, ⟨hk.1.1.1.2, ⟨hk.1.1.2, ⟨hk.1.2, hk.2⟩⟩⟩⟩⟩)), (by (with_reducible repeat (first | apply Kd.R_alloc | apply Kd.R_drewN | apply Kd.R_drew)); exact Kd.R_mono HO230.out (fun _ hk => ⟨hk.1.1.1.1.1.2, ⟨hk.1.1.1.1.2, ⟨hk.1.1.1.2, ⟨hk.1.1.2, ⟨hk.1.2, hk.2⟩⟩⟩⟩⟩)), (by (with_reducible repeat (first | apply Kd.R_alloc | apply Kd.R_drewN | apply Kd.R_drew)); exact Kd.R_mono HO234.out (fun _ hk => ⟨hk.1.1.1.1.1.2, ⟨hk.1.1.1.1.2, ⟨hk.1.1.1.2, ⟨hk.1.1.2, ⟨hk.1.2, hk.2⟩⟩⟩⟩⟩)), (by repeat (first | (with_reducible first | exact HB.out | apply below_alloc | apply pw_below_drewN | apply below_drew1) | exact HB.out))⟩)
      · skip
        refine Kd.R_lit_step k28 _ 28 ?hg (N := 82) ?hd (xs := ([(⟨(rd_T28 y206 1).f0, (rd_T28 y206 1).f1⟩ : S28)] : List (S28))) (inner := [.string ((rd_T28 y206 1).f0), .string ((rd_T28 y206 1).f1)]) (ok := fun _ => True) (okp := fun _ => True) ?hr ?hp (fun _ hk => hk) trivial (Below.refl _ _) (Nat.le_refl _) (by simp) ?_; (case hd => rfl); (case hg => rfl); (case hr => first | (go_simp; done) | (go_simp; rfl)); (case hp => exact (Reps.c2 (show Kd.M k28 _ _ _ (⟨(rd_T28 y206 1).f0, (rd_T28 y206 1).f1⟩ : S28) [.string ((rd_T28 y206 1).f0), .string ((rd_T28 y206 1).f1)] from (k28_mkM _ _ _ (⟨(rd_T28 y206 1).f0, (rd_T28 y206 1).f1⟩ : S28) )) (Reps.none _ _)))
        intro v233 w58 ho59 hb hg_ hnew_
        have HS0_ := (hb.cell (World.block_lt_of_cell? _ _ (hHeld.1))).trans (hHeld.1)
        have HS1_ := (hb.cell (World.block_lt_of_cell? _ _ (hHeld.2.1))).trans (hHeld.2.1)
        have HS2_ := (hb.cell (World.block_lt_of_cell? _ _ (hHeld.2.2.1))).trans (hHeld.2.2.1)
        have HS3_ := (hb.cell (World.block_lt_of_cell? _ _ (hHeld.2.2.2.1))).trans (hHeld.2.2.2.1)
        have HS4_ := (hb.cell (World.block_lt_of_cell? _ _ (hHeld.2.2.2.2.1))).trans (hHeld.2.2.2.2.1)
        have HS5_ := (hb.cell (World.block_lt_of_cell? _ _ (hHeld.2.2.2.2.2))).trans (hHeld.2.2.2.2.2)
        clear hg_ hnew_
        (first | rw [← Ny232.out] at ho59 | (simp only [Int.reduceToNat] at ho59; rw [← Ny232.out] at ho59))
        have n0_ := Aside0.mk (Kd.R_elder' (by (with_reducible repeat (first | apply Kd.R_alloc | apply Kd.R_drewN | apply Kd.R_drew)); exact HO208.out) (Kd.R_base ho59) hb)
        have n1_ := Aside0.mk (Kd.R_elder' (by (with_reducible repeat (first | apply Kd.R_alloc | apply Kd.R_drewN | apply Kd.R_drew)); exact HO214.out) (Kd.R_base ho59) hb)
        have n2_ := Aside0.mk (Kd.R_elder' (by (with_reducible repeat (first | apply Kd.R_alloc | apply Kd.R_drewN | apply Kd.R_drew)); exact HO217.out) (Kd.R_base ho59) hb)
        have n3_ := Aside0.mk (Kd.R_elder' (by (with_reducible repeat (first | apply Kd.R_alloc | apply Kd.R_drewN | apply Kd.R_drew)); exact HO221.out) (Kd.R_base ho59) hb)
        have n4_ := Aside0.mk (Kd.R_elder' (by (with_reducible repeat (first | apply Kd.R_alloc | apply Kd.R_drewN | apply Kd.R_drew)); exact HO226.out) (Kd.R_base ho59) hb)
        have n5_ := Aside0.mk (Kd.R_lower (Kd.R_new' (Kd.R_new' (Kd.R_new' (Kd.R_new' (Kd.R_new' ho59 (Kd.R_lt (by (with_reducible repeat (first | apply Kd.R_alloc | apply Kd.R_drewN | apply Kd.R_drew)); exact HO208.out))) (Kd.R_lt (by (with_reducible repeat (first | apply Kd.R_alloc | apply Kd.R_drewN | apply Kd.R_drew)); exact HO214.out))) (Kd.R_lt (by (with_reducible repeat (first | apply Kd.R_alloc | apply Kd.R_drewN | apply Kd.R_drew)); exact HO217.out))) (Kd.R_lt (by (with_reducible repeat (first | apply Kd.R_alloc | apply Kd.R_drewN | apply Kd.R_drew)); exact HO221.out))) (Kd.R_lt (by (with_reducible repeat (first | apply Kd.R_alloc | apply Kd.R_drewN | apply Kd.R_drew)); exact HO226.out))) (below_size (by repeat (first | (with_reducible first | exact HB.out | apply below_alloc | apply pw_below_drewN | apply below_drew1) | exact HB.out))))
        have n6_ := Aside0.mk (below_step (by repeat (first | (with_reducible first | exact HB.out | apply below_alloc | apply pw_below_drewN | apply below_drew1) | exact HB.out)) hb)
        clear HO208
        clear HO214
        clear HO217
        clear HO221
        clear HO226
        clear HB
        have HO208 := n0_
        have HO214 := n1_
        have HO217 := n2_
        have HO221 := n3_
        have HO226 := n4_
        have HO234 := n5_
        have HB := n6_
        clear n0_ n1_ n2_ n3_ n4_ n5_ n6_
        clear hb ho59
        refine hK.out _ _ ⟨HS0_, HS1_, HS2_, HS3_, HS4_, HS5_⟩ (fun hHeld => ?_)
        clear hK K
        refine norm_ (a' := ?_) ?_ ?_
        rotate_left
        · show Act.put _ (some 82) _ = _
          simp only [Act.put, List.setIfInBounds_toArray, List.set_cons_zero, List.set_cons_succ, i64_w, i32_w]
          rfl
        refine one_ (i := 31) (N := some 78) (tf 36 3) rfl rfl (one_of HT_.out (by kernel_rfl)) (by decide) (fun K hK => ?_)
        refine goes_ Tryd.func24 (by kernel_rfl) rfl #[.slice (some ad222) y206.length co45, .string (⟨#[65]⟩ : ByteArray)] (by rfl) rfl rfl (by (try simp only [List.map_toArray, List.map_cons, List.map_nil]); first | done | rfl | (simp only [List.length_drop, List.length_take]; rfl)) ?_
        with_reducible refine (head_Strip.calls _ _ y206 (⟨#[65]⟩ : ByteArray) t228 _ ?side1 ?side2 A27.out).mono ?_
        (case side1 => repeat (first | exact (Kd.R_reads' HO208.out).2.2 | (with_reducible refine Kd.C_alloc ?_ _) | (with_reducible refine Kd.C_drewN ?_ _) | (with_reducible refine Kd.C_drew ?_)))
        (case side2 => exact (Kd.R_reads' HO208.out).2.1)
        rintro e w60 ⟨v229, rfl, ho0, hb⟩
        have HS0_ := (hb.cell (World.block_lt_of_cell? _ _ (hHeld.1))).trans (hHeld.1)
        have HS1_ := (hb.cell (World.block_lt_of_cell? _ _ (hHeld.2.1))).trans (hHeld.2.1)
        have HS2_ := (hb.cell (World.block_lt_of_cell? _ _ (hHeld.2.2.1))).trans (hHeld.2.2.1)
        have HS3_ := (hb.cell (World.block_lt_of_cell? _ _ (hHeld.2.2.2.1))).trans (hHeld.2.2.2.1)
        have HS4_ := (hb.cell (World.block_lt_of_cell? _ _ (hHeld.2.2.2.2.1))).trans (hHeld.2.2.2.2.1)
        have HS5_ := (hb.cell (World.block_lt_of_cell? _ _ (hHeld.2.2.2.2.2))).trans (hHeld.2.2.2.2.2)
        refine ⟨_, rfl, ?_⟩
        have n0_ := Aside0.mk (Kd.R_elder' (by (with_reducible repeat (first | apply Kd.R_alloc | apply Kd.R_drewN | apply Kd.R_drew)); exact HO208.out) (Kd.R_base ho0) hb)
        have n1_ := Aside0.mk (Kd.R_elder' (by (with_reducible repeat (first | apply Kd.R_alloc | apply Kd.R_drewN | apply Kd.R_drew)); exact HO214.out) (Kd.R_base ho0) hb)
        have n2_ := Aside0.mk (Kd.R_elder' (by (with_reducible repeat (first | apply Kd.R_alloc | apply Kd.R_drewN | apply Kd.R_drew)); exact HO217.out) (Kd.R_base ho0) hb)
        have n3_ := Aside0.mk (Kd.R_elder' (by (with_reducible repeat (first | apply Kd.R_alloc | apply Kd.R_drewN | apply Kd.R_drew)); exact HO221.out) (Kd.R_base ho0) hb)
        have n4_ := Aside0.mk (Kd.R_elder' (by (with_reducible repeat (first | apply Kd.R_alloc | apply Kd.R_drewN | apply Kd.R_drew)); exact HO226.out) (Kd.R_base ho0) hb)
        have n5_ := Aside0.mk (Kd.R_elder' (by (with_reducible repeat (first | apply Kd.R_alloc | apply Kd.R_drewN | apply Kd.R_drew)); exact HO234.out) (Kd.R_base ho0) hb)
        have n6_ := Aside0.mk (Kd.R_lower (Kd.R_new' (Kd.R_new' (Kd.R_new' (Kd.R_new' (Kd.R_new' (Kd.R_new' ho0 (Kd.R_lt (by (with_reducible repeat (first | apply Kd.R_alloc | apply Kd.R_drewN | apply Kd.R_drew)); exact HO208.out))) (Kd.R_lt (by (with_reducible repeat (first | apply Kd.R_alloc | apply Kd.R_drewN | apply Kd.R_drew)); exact HO214.out))) (Kd.R_lt (by (with_reducible repeat (first | apply Kd.R_alloc | apply Kd.R_drewN | apply Kd.R_drew)); exact HO217.out))) (Kd.R_lt (by (with_reducible repeat (first | apply Kd.R_alloc | apply Kd.R_drewN | apply Kd.R_drew)); exact HO221.out))) (Kd.R_lt (by (with_reducible repeat (first | apply Kd.R_alloc | apply Kd.R_drewN | apply Kd.R_drew)); exact HO226.out))) (Kd.R_lt (by (with_reducible repeat (first | apply Kd.R_alloc | apply Kd.R_drewN | apply Kd.R_drew)); exact HO234.out))) (below_size (by repeat (first | (with_reducible first | exact HB.out | apply below_alloc | apply pw_below_drewN | apply below_drew1) | exact HB.out))))
        have n7_ := Aside0.mk (below_step (by repeat (first | (with_reducible first | exact HB.out | apply below_alloc | apply pw_below_drewN | apply below_drew1) | exact HB.out)) hb)
        clear HO208
        clear HO214
        clear HO217
        clear HO221
        clear HO226
        clear HO234
        clear HB
        have HO208 := n0_
        have HO214 := n1_
        have HO217 := n2_
        have HO221 := n3_
        have HO226 := n4_
        have HO234 := n5_
        have HO230 := n6_
        have HB := n7_
        clear n0_ n1_ n2_ n3_ n4_ n5_ n6_ n7_
        (try clear hb)
        (try clear hb2)
        (try clear hk)
        (try clear hi)
        (try clear ho0)
        refine hK.out _ _ ⟨HS0_, HS1_, HS2_, HS3_, HS4_, HS5_⟩ (fun hHeld => ?_)
        clear hK K
        refine norm_ (a' := ?_) ?_ ?_
        rotate_left
        · show Act.put _ (some 78) _ = _
          simp only [Act.put, List.setIfInBounds_toArray, List.set_cons_zero, List.set_cons_succ, i64_w, i32_w]
          rfl
        exact norm_ (by first | (simp only [putAll, Act.put, List.setIfInBounds_toArray, List.set_cons_zero, List.set_cons_succ]; done) | (simp only [putAll, Act.put, List.setIfInBounds_toArray, List.set_cons_zero, List.set_cons_succ, i64_w, i32_w]; rfl)) (hCont (.slice Ao56 t219.length co56, .slice Ao57 y224.length co57, v229, v233) _ ⟨hHeld, (by (with_reducible repeat (first | apply Kd.R_alloc | apply Kd.R_drewN | apply Kd.R_drew)); exact Kd.R_mono HO208.out (fun _ hk => ⟨hk.1.1.1.1.1.2, ⟨hk.1.1.1.1.2, ⟨hk.1.1.1.2, ⟨hk.1.1.2, ⟨hk.2, hk.1.2⟩⟩⟩⟩⟩)), (by (with_reducible repeat (first | apply Kd.R_alloc | apply Kd.R_drewN | apply Kd.R_drew)); exact Kd.R_mono HO214.out (fun _ hk => ⟨hk.1.1.1.1.1.2, ⟨hk.1.1.1.1.2, ⟨hk.1.1.1.2, ⟨hk.1.1.2, ⟨hk.2, hk.1.2⟩⟩⟩⟩⟩)), (by (with_reducible repeat (first | apply Kd.R_alloc | apply Kd.R_drewN | apply Kd.R_drew)); exact Kd.R_mono HO217.out (fun _ hk => ⟨hk.1.1.1.1.1.2, ⟨hk.1.1.1.1.2, ⟨hk.1.1.1.2, ⟨hk.1.1.2, ⟨hk.2, hk.1.2⟩⟩⟩⟩⟩)), (by (with_reducible repeat (first | apply Kd.R_alloc | apply Kd.R_drewN | apply Kd.R_drew)); exact Kd.R_mono HO221.out (fun _ hk => ⟨hk.1.1.1.1.1.2, ⟨hk.1.1.1.1.2, ⟨hk.1.1.1.2, ⟨hk.1.1.2, ⟨hk.2, hk.1.2⟩⟩⟩⟩⟩)), (by (with_reducible repeat (first | apply Kd.R_alloc | apply Kd.R_drewN | apply Kd.R_drew)); exact Kd.R_mono HO226.out (fun _ hk => ⟨hk.1.1.1.1.1.2, ⟨hk.1.1.1.1.2, ⟨hk.1.1.1.2, ⟨hk.1.1.2, ⟨hk.2, hk.1.2⟩⟩⟩⟩⟩)), (by (with_reducible repeat (first | apply Kd.R_alloc | apply Kd.R_drewN | apply Kd.R_drew)); exact Kd.R_mono HO230.out (fun _ hk => ⟨hk.1.1.1.1.1.2, ⟨hk.1.1.1.1.2, ⟨hk.1.1.1.2, ⟨hk.1.1.2, ⟨hk.1.2, hk.2⟩⟩⟩⟩⟩)), (by (with_reducible repeat (first | apply Kd.R_alloc | apply Kd.R_drewN | apply Kd.R_drew)); exact Kd.R_mono HO234.out (fun _ hk => ⟨hk.1.1.1.1.1.2, ⟨hk.1.1.1.1.2, ⟨hk.1.1.1.2, ⟨hk.1.1.2, ⟨hk.1.2, hk.2⟩⟩⟩⟩⟩)), (by repeat (first | (with_reducible first | exact HB.out | apply below_alloc | apply pw_below_drewN | apply below_drew1) | exact HB.out))⟩)
    · skip
      refine Kd.R_lit_step k28 _ 28 ?hg (N := 73) ?hd (xs := ([(⟨(rd_T28 y206 0).f0, (rd_T28 y206 0).f1⟩ : S28), (⟨(rd_T28 y206 2).f0, (rd_T28 y206 2).f1⟩ : S28)] : List (S28))) (inner := [.string ((rd_T28 y206 0).f0), .string ((rd_T28 y206 0).f1), .string ((rd_T28 y206 2).f0), .string ((rd_T28 y206 2).f1)]) (ok := fun _ => True) (okp := fun _ => True) ?hr ?hp (fun _ hk => hk) trivial (Below.refl _ _) (Nat.le_refl _) (by simp) ?_; (case hd => rfl); (case hg => rfl); (case hr => first | (go_simp; done) | (go_simp; rfl)); (case hp => exact (Reps.c2 (show Kd.M k28 _ _ _ (⟨(rd_T28 y206 0).f0, (rd_T28 y206 0).f1⟩ : S28) [.string ((rd_T28 y206 0).f0), .string ((rd_T28 y206 0).f1)] from (k28_mkM _ _ _ (⟨(rd_T28 y206 0).f0, (rd_T28 y206 0).f1⟩ : S28) )) (Reps.c2 (show Kd.M k28 _ _ _ (⟨(rd_T28 y206 2).f0, (rd_T28 y206 2).f1⟩ : S28) [.string ((rd_T28 y206 2).f0), .string ((rd_T28 y206 2).f1)] from (k28_mkM _ _ _ (⟨(rd_T28 y206 2).f0, (rd_T28 y206 2).f1⟩ : S28) )) (Reps.none _ _))))
      intro v225 w53 ho54 hb hg_ hnew_
      have HS0_ := (hb.cell (World.block_lt_of_cell? _ _ (hHeld.1))).trans (hHeld.1)
      have HS1_ := (hb.cell (World.block_lt_of_cell? _ _ (hHeld.2.1))).trans (hHeld.2.1)
      have HS2_ := (hb.cell (World.block_lt_of_cell? _ _ (hHeld.2.2.1))).trans (hHeld.2.2.1)
      have HS3_ := (hb.cell (World.block_lt_of_cell? _ _ (hHeld.2.2.2.1))).trans (hHeld.2.2.2.1)
      have HS4_ := (hb.cell (World.block_lt_of_cell? _ _ (hHeld.2.2.2.2.1))).trans (hHeld.2.2.2.2.1)
      have HS5_ := (hb.cell (World.block_lt_of_cell? _ _ (hHeld.2.2.2.2.2))).trans (hHeld.2.2.2.2.2)
      clear hg_ hnew_
      (first | rw [← Ny224.out] at ho54 | (simp only [Int.reduceToNat] at ho54; rw [← Ny224.out] at ho54))
      have n0_ := Aside0.mk (Kd.R_elder' (by (with_reducible repeat (first | apply Kd.R_alloc | apply Kd.R_drewN | apply Kd.R_drew)); exact HO208.out) (Kd.R_base ho54) hb)
      have n1_ := Aside0.mk (Kd.R_elder' (by (with_reducible repeat (first | apply Kd.R_alloc | apply Kd.R_drewN | apply Kd.R_drew)); exact HO214.out) (Kd.R_base ho54) hb)
      have n2_ := Aside0.mk (Kd.R_elder' (by (with_reducible repeat (first | apply Kd.R_alloc | apply Kd.R_drewN | apply Kd.R_drew)); exact HO217.out) (Kd.R_base ho54) hb)
      have n3_ := Aside0.mk (Kd.R_lower (Kd.R_new' (Kd.R_new' (Kd.R_new' ho54 (Kd.R_lt (by (with_reducible repeat (first | apply Kd.R_alloc | apply Kd.R_drewN | apply Kd.R_drew)); exact HO208.out))) (Kd.R_lt (by (with_reducible repeat (first | apply Kd.R_alloc | apply Kd.R_drewN | apply Kd.R_drew)); exact HO214.out))) (Kd.R_lt (by (with_reducible repeat (first | apply Kd.R_alloc | apply Kd.R_drewN | apply Kd.R_drew)); exact HO217.out))) (below_size (by repeat (first | (with_reducible first | exact HB.out | apply below_alloc | apply pw_below_drewN | apply below_drew1) | exact HB.out))))
      have n4_ := Aside0.mk (below_step (by repeat (first | (with_reducible first | exact HB.out | apply below_alloc | apply pw_below_drewN | apply below_drew1) | exact HB.out)) hb)
      clear HO208
      clear HO214
      clear HO217
      clear HB
      have HO208 := n0_
      have HO214 := n1_
      have HO217 := n2_
      have HO226 := n3_
      have HB := n4_
      clear n0_ n1_ n2_ n3_ n4_
      clear hb ho54
      refine hK.out _ _ ⟨HS0_, HS1_, HS2_, HS3_, HS4_, HS5_⟩ (fun hHeld => ?_)
      clear hK K
      refine norm_ (a' := ?_) ?_ ?_
      rotate_left
      · show Act.put _ (some 73) _ = _
        simp only [Act.put, List.setIfInBounds_toArray, List.set_cons_zero, List.set_cons_succ, i64_w, i32_w]
        rfl
      refine one_ (i := 19) (N := some 66) (tf 27 12) rfl rfl (one_of HT_.out (by kernel_rfl)) (by decide) (fun K hK => ?_)
      refine goes_ Tryd.func23 (by kernel_rfl) rfl #[.slice (some ad222) y206.length co45, .string (⟨#[66]⟩ : ByteArray)] (by rfl) rfl rfl (by (try simp only [List.map_toArray, List.map_cons, List.map_nil]); first | done | rfl | (simp only [List.length_drop, List.length_take]; rfl)) ?_
      with_reducible refine (head_Drop.calls _ _ y206 (⟨#[66]⟩ : ByteArray) t219 _ ?side1 ?side2 A22.out).mono ?_
      (case side1 => repeat (first | exact (Kd.R_reads' HO208.out).2.2 | (with_reducible refine Kd.C_alloc ?_ _) | (with_reducible refine Kd.C_drewN ?_ _) | (with_reducible refine Kd.C_drew ?_)))
      (case side2 => exact (Kd.R_reads' HO208.out).2.1)
      rintro e w55 ⟨v220, rfl, ho0, hb⟩
      have HS0_ := (hb.cell (World.block_lt_of_cell? _ _ (hHeld.1))).trans (hHeld.1)
      have HS1_ := (hb.cell (World.block_lt_of_cell? _ _ (hHeld.2.1))).trans (hHeld.2.1)
      have HS2_ := (hb.cell (World.block_lt_of_cell? _ _ (hHeld.2.2.1))).trans (hHeld.2.2.1)
      have HS3_ := (hb.cell (World.block_lt_of_cell? _ _ (hHeld.2.2.2.1))).trans (hHeld.2.2.2.1)
      have HS4_ := (hb.cell (World.block_lt_of_cell? _ _ (hHeld.2.2.2.2.1))).trans (hHeld.2.2.2.2.1)
      have HS5_ := (hb.cell (World.block_lt_of_cell? _ _ (hHeld.2.2.2.2.2))).trans (hHeld.2.2.2.2.2)
      refine ⟨_, rfl, ?_⟩
      have n0_ := Aside0.mk (Kd.R_elder' (by (with_reducible repeat (first | apply Kd.R_alloc | apply Kd.R_drewN | apply Kd.R_drew)); exact HO208.out) (Kd.R_base ho0) hb)
      have n1_ := Aside0.mk (Kd.R_elder' (by (with_reducible repeat (first | apply Kd.R_alloc | apply Kd.R_drewN | apply Kd.R_drew)); exact HO214.out) (Kd.R_base ho0) hb)
      have n2_ := Aside0.mk (Kd.R_elder' (by (with_reducible repeat (first | apply Kd.R_alloc | apply Kd.R_drewN | apply Kd.R_drew)); exact HO217.out) (Kd.R_base ho0) hb)
      have n3_ := Aside0.mk (Kd.R_elder' (by (with_reducible repeat (first | apply Kd.R_alloc | apply Kd.R_drewN | apply Kd.R_drew)); exact HO226.out) (Kd.R_base ho0) hb)
      have n4_ := Aside0.mk (Kd.R_lower (Kd.R_new' (Kd.R_new' (Kd.R_new' (Kd.R_new' ho0 (Kd.R_lt (by (with_reducible repeat (first | apply Kd.R_alloc | apply Kd.R_drewN | apply Kd.R_drew)); exact HO208.out))) (Kd.R_lt (by (with_reducible repeat (first | apply Kd.R_alloc | apply Kd.R_drewN | apply Kd.R_drew)); exact HO214.out))) (Kd.R_lt (by (with_reducible repeat (first | apply Kd.R_alloc | apply Kd.R_drewN | apply Kd.R_drew)); exact HO217.out))) (Kd.R_lt (by (with_reducible repeat (first | apply Kd.R_alloc | apply Kd.R_drewN | apply Kd.R_drew)); exact HO226.out))) (below_size (by repeat (first | (with_reducible first | exact HB.out | apply below_alloc | apply pw_below_drewN | apply below_drew1) | exact HB.out))))
      have n5_ := Aside0.mk (below_step (by repeat (first | (with_reducible first | exact HB.out | apply below_alloc | apply pw_below_drewN | apply below_drew1) | exact HB.out)) hb)
      clear HO208
      clear HO214
      clear HO217
      clear HO226
      clear HB
      have HO208 := n0_
      have HO214 := n1_
      have HO217 := n2_
      have HO226 := n3_
      have HO221 := n4_
      have HB := n5_
      clear n0_ n1_ n2_ n3_ n4_ n5_
      (try clear hb)
      (try clear hb2)
      (try clear hk)
      (try clear hi)
      (try clear ho0)
      obtain ⟨Ao56, co56, eo56⟩ := Kd.R_slice HO221.out
      (first | subst eo56 | (injection eo56 with f1_ f2_ f3_; have f4_ := f1_.symm; have f5_ := f3_.symm; clear f1_ f2_ f3_; subst f4_; subst f5_))
      obtain ⟨Ao57, co57, eo57⟩ := Kd.R_slice HO226.out
      (first | subst eo57 | (injection eo57 with f1_ f2_ f3_; have f4_ := f1_.symm; have f5_ := f3_.symm; clear f1_ f2_ f3_; subst f4_; subst f5_))
      refine hK.out _ _ ⟨HS0_, HS1_, HS2_, HS3_, HS4_, HS5_⟩ (fun hHeld => ?_)
      clear hK K
      refine norm_ (a' := ?_) ?_ ?_
      rotate_left
      · show Act.put _ (some 66) _ = _
        simp only [Act.put, List.setIfInBounds_toArray, List.set_cons_zero, List.set_cons_succ, i64_w, i32_w]
        rfl
      refine one_ (i := 27) (N := some 74) (tf 28 11) rfl rfl (one_of HT_.out (by kernel_rfl)) (by decide) (fun K hK => ?_)
      refine goes_ Tryd.func20 (by kernel_rfl) rfl #[.slice Ao56 t219.length co56, .slice Ao57 y224.length co57] (by rfl) rfl rfl (by (try simp only [List.map_toArray, List.map_cons, List.map_nil]); first | done | rfl | (simp only [List.length_drop, List.length_take]; rfl)) ?_
      with_reducible refine (head_Same.calls k _ _ t219 _ _ y224 true _ ?side1 ?side2 ?side3 ?side4 A25.out).mono ?_
      (case side1 => repeat (first | exact (Kd.R_reads' HO221.out).2.2 | (with_reducible refine Kd.C_alloc ?_ _) | (with_reducible refine Kd.C_drewN ?_ _) | (with_reducible refine Kd.C_drew ?_)))
      (case side2 => exact (Kd.R_reads' HO221.out).2.1)
      (case side3 => repeat (first | exact (Kd.R_reads' HO226.out).2.2 | (with_reducible refine Kd.C_alloc ?_ _) | (with_reducible refine Kd.C_drewN ?_ _) | (with_reducible refine Kd.C_drew ?_)))
      (case side4 => exact (Kd.R_reads' HO226.out).2.1)
      rintro e w' ⟨rfl, ⟨nd, rfl⟩⟩
      refine ⟨_, rfl, ?_⟩
      refine hK.out _ _ ⟨hHeld.1, hHeld.2.1, hHeld.2.2.1, hHeld.2.2.2.1, hHeld.2.2.2.2.1, hHeld.2.2.2.2.2⟩ (fun hHeld => ?_)
      clear hK K
      refine norm_ (a' := ?_) ?_ ?_
      rotate_left
      · show Act.put _ (some 74) _ = _
        simp only [Act.put, List.setIfInBounds_toArray, List.set_cons_zero, List.set_cons_succ, i64_w, i32_w]
        rfl
      refine pure_ (i := 28) (N := some 75) (v := ?_) (a' := ?_) (tf 29 10) rfl rfl (any_of HT_.out (by kernel_rfl)) (fun _ _ _ h => h) (Or.inl ⟨by rfl, ?_⟩) ?_ ?_
      rotate_left
      · intro w'
        go_simp
        with_reducible rfl
      rotate_left
      · simp only [Act.put, List.setIfInBounds_toArray, List.set_cons_zero, List.set_cons_succ, i64_w, i32_w]
        rfl
      refine pure_ (i := 29) (N := some 76) (v := ?_) (a' := ?_) (tf 30 9) rfl rfl (any_of HT_.out (by kernel_rfl)) (fun _ _ _ h => h) (Or.inl ⟨by rfl, ?_⟩) ?_ ?_
      rotate_left
      · intro w'
        go_simp
        with_reducible rfl
      rotate_left
      · simp only [Act.put, List.setIfInBounds_toArray, List.set_cons_zero, List.set_cons_succ, i64_w, i32_w]
        rfl
      refine pure_ (i := 30) (N := some 77) (v := ?_) (a' := ?_) (tf 31 8) rfl rfl (any_of HT_.out (by kernel_rfl)) (fun _ _ _ h => h) (Or.inl ⟨by rfl, ?_⟩) ?_ ?_
      rotate_left
      · intro w'
        go_simp
        with_reducible rfl
      rotate_left
      · simp only [Act.put, List.setIfInBounds_toArray, List.set_cons_zero, List.set_cons_succ, i64_w, i32_w]
        rfl
      refine pure_ (i := 32) (N := some 79) (v := ?_) (a' := ?_) #[true, true, true, true, true, true, true, true, true, true, true, true, true, true, true, true, true, true, true, true, true, true, true, true, true, true, true, true, true, true, true, false, true, false, false, false, false, false, false] rfl rfl (any_of HT_.out (by kernel_rfl)) (fun _ _ _ h => h) (Or.inl ⟨by rfl, ?_⟩) ?_ ?_
      rotate_left
      · intro w'
        go_simp
        with_reducible rfl
      rotate_left
      · simp only [Act.put, List.setIfInBounds_toArray, List.set_cons_zero, List.set_cons_succ, i64_w, i32_w]
        rfl
      refine pure_ (i := 33) (N := some 80) (v := ?_) (a' := ?_) #[true, true, true, true, true, true, true, true, true, true, true, true, true, true, true, true, true, true, true, true, true, true, true, true, true, true, true, true, true, true, true, false, true, true, false, false, false, false, false] rfl rfl (any_of HT_.out (by kernel_rfl)) (fun _ _ _ h => h) (Or.inl ⟨by rfl, ?_⟩) ?_ ?_
      rotate_left
      · intro w'
        go_simp
        with_reducible rfl
      rotate_left
      · simp only [Act.put, List.setIfInBounds_toArray, List.set_cons_zero, List.set_cons_succ, i64_w, i32_w]
        rfl
      refine take_ (i := 34) (N := some 81) (v := ?_) (a' := ?_) #[true, true, true, true, true, true, true, true, true, true, true, true, true, true, true, true, true, true, true, true, true, true, true, true, true, true, true, true, true, true, true, false, true, true, true, false, false, false, false] rfl rfl (take_ofW HT_.out HW_.out (by kernel_rfl)) (fun _ _ _ h => h) (Or.inl ⟨by rfl, ?_⟩) hHeld ?_ ?_
      rotate_left
      · rintro w' ⟨s0, s1, s2, s3, s4, s5⟩
        go_simp
        with_reducible rfl
      rotate_left
      · simp only [Act.put, List.setIfInBounds_toArray, List.set_cons_zero, List.set_cons_succ, i64_w, i32_w]
        rfl
      refine two_ (i := 31) (j := 35) (Ni := some 78) (Nj := some 82) (tf 35 4) #[true, true, true, true, true, true, true, true, true, true, true, true, true, true, true, true, true, true, true, true, true, true, true, true, true, true, true, true, true, true, true, false, true, true, true, true, false, false, false] rfl rfl rfl rfl (two_of HT_.out (by kernel_rfl)) (by decide) (by decide) (fun K hK => ?_) (fun K hK => ?_)
      · skip
        refine goes_ Tryd.func24 (by kernel_rfl) rfl #[.slice (some ad222) y206.length co45, .string (⟨#[65]⟩ : ByteArray)] (by rfl) rfl rfl (by (try simp only [List.map_toArray, List.map_cons, List.map_nil]); first | done | rfl | (simp only [List.length_drop, List.length_take]; rfl)) ?_
        with_reducible refine (head_Strip.calls _ _ y206 (⟨#[65]⟩ : ByteArray) t228 _ ?side1 ?side2 A27.out).mono ?_
        (case side1 => repeat (first | exact (Kd.R_reads' HO208.out).2.2 | (with_reducible refine Kd.C_alloc ?_ _) | (with_reducible refine Kd.C_drewN ?_ _) | (with_reducible refine Kd.C_drew ?_)))
        (case side2 => exact (Kd.R_reads' HO208.out).2.1)
        rintro e w58 ⟨v229, rfl, ho0, hb⟩
        have HS0_ := (hb.cell (World.block_lt_of_cell? _ _ (hHeld.1))).trans (hHeld.1)
        have HS1_ := (hb.cell (World.block_lt_of_cell? _ _ (hHeld.2.1))).trans (hHeld.2.1)
        have HS2_ := (hb.cell (World.block_lt_of_cell? _ _ (hHeld.2.2.1))).trans (hHeld.2.2.1)
        have HS3_ := (hb.cell (World.block_lt_of_cell? _ _ (hHeld.2.2.2.1))).trans (hHeld.2.2.2.1)
        have HS4_ := (hb.cell (World.block_lt_of_cell? _ _ (hHeld.2.2.2.2.1))).trans (hHeld.2.2.2.2.1)
        have HS5_ := (hb.cell (World.block_lt_of_cell? _ _ (hHeld.2.2.2.2.2))).trans (hHeld.2.2.2.2.2)
        refine ⟨_, rfl, ?_⟩
        have n0_ := Aside0.mk (Kd.R_elder' (by (with_reducible repeat (first | apply Kd.R_alloc | apply Kd.R_drewN | apply Kd.R_drew)); exact HO208.out) (Kd.R_base ho0) hb)
        have n1_ := Aside0.mk (Kd.R_elder' (by (with_reducible repeat (first | apply Kd.R_alloc | apply Kd.R_drewN | apply Kd.R_drew)); exact HO214.out) (Kd.R_base ho0) hb)
        have n2_ := Aside0.mk (Kd.R_elder' (by (with_reducible repeat (first | apply Kd.R_alloc | apply Kd.R_drewN | apply Kd.R_drew)); exact HO217.out) (Kd.R_base ho0) hb)
        have n3_ := Aside0.mk (Kd.R_elder' (by (with_reducible repeat (first | apply Kd.R_alloc | apply Kd.R_drewN | apply Kd.R_drew)); exact HO226.out) (Kd.R_base ho0) hb)
        have n4_ := Aside0.mk (Kd.R_elder' (by (with_reducible repeat (first | apply Kd.R_alloc | apply Kd.R_drewN | apply Kd.R_drew)); exact HO221.out) (Kd.R_base ho0) hb)
        have n5_ := Aside0.mk (Kd.R_lower (Kd.R_new' (Kd.R_new' (Kd.R_new' (Kd.R_new' (Kd.R_new' ho0 (Kd.R_lt (by (with_reducible repeat (first | apply Kd.R_alloc | apply Kd.R_drewN | apply Kd.R_drew)); exact HO208.out))) (Kd.R_lt (by (with_reducible repeat (first | apply Kd.R_alloc | apply Kd.R_drewN | apply Kd.R_drew)); exact HO214.out))) (Kd.R_lt (by (with_reducible repeat (first | apply Kd.R_alloc | apply Kd.R_drewN | apply Kd.R_drew)); exact HO217.out))) (Kd.R_lt (by (with_reducible repeat (first | apply Kd.R_alloc | apply Kd.R_drewN | apply Kd.R_drew)); exact HO226.out))) (Kd.R_lt (by (with_reducible repeat (first | apply Kd.R_alloc | apply Kd.R_drewN | apply Kd.R_drew)); exact HO221.out))) (below_size (by repeat (first | (with_reducible first | exact HB.out | apply below_alloc | apply pw_below_drewN | apply below_drew1) | exact HB.out))))
        have n6_ := Aside0.mk (below_step (by repeat (first | (with_reducible first | exact HB.out | apply below_alloc | apply pw_below_drewN | apply below_drew1) | exact HB.out)) hb)
        clear HO208
        clear HO214
        clear HO217
        clear HO226
        clear HO221
        clear HB
        have HO208 := n0_
        have HO214 := n1_
        have HO217 := n2_
        have HO226 := n3_
        have HO221 := n4_
        have HO230 := n5_
        have HB := n6_
        clear n0_ n1_ n2_ n3_ n4_ n5_ n6_
        (try clear hb)
        (try clear hb2)
        (try clear hk)
        (try clear hi)
        (try clear ho0)
        refine hK.out _ _ ⟨HS0_, HS1_, HS2_, HS3_, HS4_, HS5_⟩ (fun hHeld => ?_)
        clear hK K
        refine norm_ (a' := ?_) ?_ ?_
        rotate_left
        · show Act.put _ (some 78) _ = _
          simp only [Act.put, List.setIfInBounds_toArray, List.set_cons_zero, List.set_cons_succ, i64_w, i32_w]
          rfl
        refine one_ (i := 35) (N := some 82) (tf 36 3) rfl rfl (one_of HT_.out (by kernel_rfl)) (by decide) (fun K hK => ?_)
        refine Kd.R_lit_step k28 _ 28 ?hg (N := 82) ?hd (xs := ([(⟨(rd_T28 y206 1).f0, (rd_T28 y206 1).f1⟩ : S28)] : List (S28))) (inner := [.string ((rd_T28 y206 1).f0), .string ((rd_T28 y206 1).f1)]) (ok := fun _ => True) (okp := fun _ => True) ?hr ?hp (fun _ hk => hk) trivial (Below.refl _ _) (Nat.le_refl _) (by simp) ?_; (case hd => rfl); (case hg => rfl); (case hr => first | (go_simp; done) | (go_simp; rfl)); (case hp => exact (Reps.c2 (show Kd.M k28 _ _ _ (⟨(rd_T28 y206 1).f0, (rd_T28 y206 1).f1⟩ : S28) [.string ((rd_T28 y206 1).f0), .string ((rd_T28 y206 1).f1)] from (k28_mkM _ _ _ (⟨(rd_T28 y206 1).f0, (rd_T28 y206 1).f1⟩ : S28) )) (Reps.none _ _)))
        intro v233 w59 ho60 hb hg_ hnew_
        have HS0_ := (hb.cell (World.block_lt_of_cell? _ _ (hHeld.1))).trans (hHeld.1)
        have HS1_ := (hb.cell (World.block_lt_of_cell? _ _ (hHeld.2.1))).trans (hHeld.2.1)
        have HS2_ := (hb.cell (World.block_lt_of_cell? _ _ (hHeld.2.2.1))).trans (hHeld.2.2.1)
        have HS3_ := (hb.cell (World.block_lt_of_cell? _ _ (hHeld.2.2.2.1))).trans (hHeld.2.2.2.1)
        have HS4_ := (hb.cell (World.block_lt_of_cell? _ _ (hHeld.2.2.2.2.1))).trans (hHeld.2.2.2.2.1)
        have HS5_ := (hb.cell (World.block_lt_of_cell? _ _ (hHeld.2.2.2.2.2))).trans (hHeld.2.2.2.2.2)
        clear hg_ hnew_
        (first | rw [← Ny232.out] at ho60 | (simp only [Int.reduceToNat] at ho60; rw [← Ny232.out] at ho60))
        have n0_ := Aside0.mk (Kd.R_elder' (by (with_reducible repeat (first | apply Kd.R_alloc | apply Kd.R_drewN | apply Kd.R_drew)); exact HO208.out) (Kd.R_base ho60) hb)
        have n1_ := Aside0.mk (Kd.R_elder' (by (with_reducible repeat (first | apply Kd.R_alloc | apply Kd.R_drewN | apply Kd.R_drew)); exact HO214.out) (Kd.R_base ho60) hb)
        have n2_ := Aside0.mk (Kd.R_elder' (by (with_reducible repeat (first | apply Kd.R_alloc | apply Kd.R_drewN | apply Kd.R_drew)); exact HO217.out) (Kd.R_base ho60) hb)
        have n3_ := Aside0.mk (Kd.R_elder' (by (with_reducible repeat (first | apply Kd.R_alloc | apply Kd.R_drewN | apply Kd.R_drew)); exact HO226.out) (Kd.R_base ho60) hb)
        have n4_ := Aside0.mk (Kd.R_elder' (by (with_reducible repeat (first | apply Kd.R_alloc | apply Kd.R_drewN | apply Kd.R_drew)); exact HO221.out) (Kd.R_base ho60) hb)
        have n5_ := Aside0.mk (Kd.R_elder' (by (with_reducible repeat (first | apply Kd.R_alloc | apply Kd.R_drewN | apply Kd.R_drew)); exact HO230.out) (Kd.R_base ho60) hb)
        have n6_ := Aside0.mk (Kd.R_lower (Kd.R_new' (Kd.R_new' (Kd.R_new' (Kd.R_new' (Kd.R_new' (Kd.R_new' ho60 (Kd.R_lt (by (with_reducible repeat (first | apply Kd.R_alloc | apply Kd.R_drewN | apply Kd.R_drew)); exact HO208.out))) (Kd.R_lt (by (with_reducible repeat (first | apply Kd.R_alloc | apply Kd.R_drewN | apply Kd.R_drew)); exact HO214.out))) (Kd.R_lt (by (with_reducible repeat (first | apply Kd.R_alloc | apply Kd.R_drewN | apply Kd.R_drew)); exact HO217.out))) (Kd.R_lt (by (with_reducible repeat (first | apply Kd.R_alloc | apply Kd.R_drewN | apply Kd.R_drew)); exact HO226.out))) (Kd.R_lt (by (with_reducible repeat (first | apply Kd.R_alloc | apply Kd.R_drewN | apply Kd.R_drew)); exact HO221.out))) (Kd.R_lt (by (with_reducible repeat (first | apply Kd.R_alloc | apply Kd.R_drewN | apply Kd.R_drew)); exact HO230.out))) (below_size (by repeat (first | (with_reducible first | exact HB.out | apply below_alloc | apply pw_below_drewN | apply below_drew1) | exact HB.out))))
        have n7_ := Aside0.mk (below_step (by repeat (first | (with_reducible first | exact HB.out | apply below_alloc | apply pw_below_drewN | apply below_drew1) | exact HB.out)) hb)
        clear HO208
        clear HO214
        clear HO217
        clear HO226
        clear HO221
        clear HO230
        clear HB
        have HO208 := n0_
        have HO214 := n1_
        have HO217 := n2_
        have HO226 := n3_
        have HO221 := n4_
        have HO230 := n5_
        have HO234 := n6_
        have HB := n7_
        clear n0_ n1_ n2_ n3_ n4_ n5_ n6_ n7_
        clear hb ho60
        refine hK.out _ _ ⟨HS0_, HS1_, HS2_, HS3_, HS4_, HS5_⟩ (fun hHeld => ?_)
        clear hK K
        refine norm_ (a' := ?_) ?_ ?_
        rotate_left
        · show Act.put _ (some 82) _ = _
          simp only [Act.put, List.setIfInBounds_toArray, List.set_cons_zero, List.set_cons_succ, i64_w, i32_w]
          rfl
        exact norm_ (by first | (simp only [putAll, Act.put, List.setIfInBounds_toArray, List.set_cons_zero, List.set_cons_succ]; done) | (simp only [putAll, Act.put, List.setIfInBounds_toArray, List.set_cons_zero, List.set_cons_succ, i64_w, i32_w]; rfl)) (hCont (.slice Ao56 t219.length co56, .slice Ao57 y224.length co57, v229, v233) _ ⟨hHeld, (by (with_reducible repeat (first | apply Kd.R_alloc | apply Kd.R_drewN | apply Kd.R_drew)); exact Kd.R_mono HO208.out (fun _ hk => ⟨hk.1.1.1.1.1.2, ⟨hk.1.1.1.1.2, ⟨hk.1.1.2, ⟨hk.1.1.1.2, ⟨hk.1.2, hk.2⟩⟩⟩⟩⟩)), (by (with_reducible repeat (first | apply Kd.R_alloc | apply Kd.R_drewN | apply Kd.R_drew)); exact Kd.R_mono HO214.out (fun _ hk => ⟨hk.1.1.1.1.1.2, ⟨hk.1.1.1.1.2, ⟨hk.1.1.2, ⟨hk.1.1.1.2, ⟨hk.1.2, hk.2⟩⟩⟩⟩⟩)), (by (with_reducible repeat (first | apply Kd.R_alloc | apply Kd.R_drewN | apply Kd.R_drew)); exact Kd.R_mono HO217.out (fun _ hk => ⟨hk.1.1.1.1.1.2, ⟨hk.1.1.1.1.2, ⟨hk.1.1.2, ⟨hk.1.1.1.2, ⟨hk.1.2, hk.2⟩⟩⟩⟩⟩)), (by (with_reducible repeat (first | apply Kd.R_alloc | apply Kd.R_drewN | apply Kd.R_drew)); exact Kd.R_mono HO221.out (fun _ hk => ⟨hk.1.1.1.1.1.2, ⟨hk.1.1.1.1.2, ⟨hk.1.1.1.2, ⟨hk.1.1.2, ⟨hk.1.2, hk.2⟩⟩⟩⟩⟩)), (by (with_reducible repeat (first | apply Kd.R_alloc | apply Kd.R_drewN | apply Kd.R_drew)); exact Kd.R_mono HO226.out (fun _ hk => ⟨hk.1.1.1.1.1.2, ⟨hk.1.1.1.1.2, ⟨hk.1.1.1.2, ⟨hk.1.1.2, ⟨hk.1.2, hk.2⟩⟩⟩⟩⟩)), (by (with_reducible repeat (first | apply Kd.R_alloc | apply Kd.R_drewN | apply Kd.R_drew)); exact Kd.R_mono HO230.out (fun _ hk => ⟨hk.1.1.1.1.1.2, ⟨hk.1.1.1.1.2, ⟨hk.1.1.1.2, ⟨hk.1.2, ⟨hk.1.1.2, hk.2⟩⟩⟩⟩⟩)), (by (with_reducible repeat (first | apply Kd.R_alloc | apply Kd.R_drewN | apply Kd.R_drew)); exact Kd.R_mono HO234.out (fun _ hk => ⟨hk.1.1.1.1.1.2, ⟨hk.1.1.1.1.2, ⟨hk.1.1.1.2, ⟨hk.1.2, ⟨hk.1.1.2, hk.2⟩⟩⟩⟩⟩)), (by repeat (first | (with_reducible first | exact HB.out | apply below_alloc | apply pw_below_drewN | apply below_drew1) | exact HB.out))⟩)
      · skip
        refine Kd.R_lit_step k28 _ 28 ?hg (N := 82) ?hd (xs := ([(⟨(rd_T28 y206 1).f0, (rd_T28 y206 1).f1⟩ : S28)] : List (S28))) (inner := [.string ((rd_T28 y206 1).f0), .string ((rd_T28 y206 1).f1)]) (ok := fun _ => True) (okp := fun _ => True) ?hr ?hp (fun _ hk => hk) trivial (Below.refl _ _) (Nat.le_refl _) (by simp) ?_; (case hd => rfl); (case hg => rfl); (case hr => first | (go_simp; done) | (go_simp; rfl)); (case hp => exact (Reps.c2 (show Kd.M k28 _ _ _ (⟨(rd_T28 y206 1).f0, (rd_T28 y206 1).f1⟩ : S28) [.string ((rd_T28 y206 1).f0), .string ((rd_T28 y206 1).f1)] from (k28_mkM _ _ _ (⟨(rd_T28 y206 1).f0, (rd_T28 y206 1).f1⟩ : S28) )) (Reps.none _ _)))
        intro v233 w58 ho59 hb hg_ hnew_
        have HS0_ := (hb.cell (World.block_lt_of_cell? _ _ (hHeld.1))).trans (hHeld.1)
        have HS1_ := (hb.cell (World.block_lt_of_cell? _ _ (hHeld.2.1))).trans (hHeld.2.1)
        have HS2_ := (hb.cell (World.block_lt_of_cell? _ _ (hHeld.2.2.1))).trans (hHeld.2.2.1)
        have HS3_ := (hb.cell (World.block_lt_of_cell? _ _ (hHeld.2.2.2.1))).trans (hHeld.2.2.2.1)
        have HS4_ := (hb.cell (World.block_lt_of_cell? _ _ (hHeld.2.2.2.2.1))).trans (hHeld.2.2.2.2.1)
        have HS5_ := (hb.cell (World.block_lt_of_cell? _ _ (hHeld.2.2.2.2.2))).trans (hHeld.2.2.2.2.2)
        clear hg_ hnew_
        (first | rw [← Ny232.out] at ho59 | (simp only [Int.reduceToNat] at ho59; rw [← Ny232.out] at ho59))
        have n0_ := Aside0.mk (Kd.R_elder' (by (with_reducible repeat (first | apply Kd.R_alloc | apply Kd.R_drewN | apply Kd.R_drew)); exact HO208.out) (Kd.R_base ho59) hb)
        have n1_ := Aside0.mk (Kd.R_elder' (by (with_reducible repeat (first | apply Kd.R_alloc | apply Kd.R_drewN | apply Kd.R_drew)); exact HO214.out) (Kd.R_base ho59) hb)
        have n2_ := Aside0.mk (Kd.R_elder' (by (with_reducible repeat (first | apply Kd.R_alloc | apply Kd.R_drewN | apply Kd.R_drew)); exact HO217.out) (Kd.R_base ho59) hb)
        have n3_ := Aside0.mk (Kd.R_elder' (by (with_reducible repeat (first | apply Kd.R_alloc | apply Kd.R_drewN | apply Kd.R_drew)); exact HO226.out) (Kd.R_base ho59) hb)
        have n4_ := Aside0.mk (Kd.R_elder' (by (with_reducible repeat (first | apply Kd.R_alloc | apply Kd.R_drewN | apply Kd.R_drew)); exact HO221.out) (Kd.R_base ho59) hb)
        have n5_ := Aside0.mk (Kd.R_lower (Kd.R_new' (Kd.R_new' (Kd.R_new' (Kd.R_new' (Kd.R_new' ho59 (Kd.R_lt (by (with_reducible repeat (first | apply Kd.R_alloc | apply Kd.R_drewN | apply Kd.R_drew)); exact HO208.out))) (Kd.R_lt (by (with_reducible repeat (first | apply Kd.R_alloc | apply Kd.R_drewN | apply Kd.R_drew)); exact HO214.out))) (Kd.R_lt (by (with_reducible repeat (first | apply Kd.R_alloc | apply Kd.R_drewN | apply Kd.R_drew)); exact HO217.out))) (Kd.R_lt (by (with_reducible repeat (first | apply Kd.R_alloc | apply Kd.R_drewN | apply Kd.R_drew)); exact HO226.out))) (Kd.R_lt (by (with_reducible repeat (first | apply Kd.R_alloc | apply Kd.R_drewN | apply Kd.R_drew)); exact HO221.out))) (below_size (by repeat (first | (with_reducible first | exact HB.out | apply below_alloc | apply pw_below_drewN | apply below_drew1) | exact HB.out))))
        have n6_ := Aside0.mk (below_step (by repeat (first | (with_reducible first | exact HB.out | apply below_alloc | apply pw_below_drewN | apply below_drew1) | exact HB.out)) hb)
        clear HO208
        clear HO214
        clear HO217
        clear HO226
        clear HO221
        clear HB
        have HO208 := n0_
        have HO214 := n1_
        have HO217 := n2_
        have HO226 := n3_
        have HO221 := n4_
        have HO234 := n5_
        have HB := n6_
        clear n0_ n1_ n2_ n3_ n4_ n5_ n6_
        clear hb ho59
        refine hK.out _ _ ⟨HS0_, HS1_, HS2_, HS3_, HS4_, HS5_⟩ (fun hHeld => ?_)
        clear hK K
        refine norm_ (a' := ?_) ?_ ?_
        rotate_left
        · show Act.put _ (some 82) _ = _
          simp only [Act.put, List.setIfInBounds_toArray, List.set_cons_zero, List.set_cons_succ, i64_w, i32_w]
          rfl
        refine one_ (i := 31) (N := some 78) (tf 36 3) rfl rfl (one_of HT_.out (by kernel_rfl)) (by decide) (fun K hK => ?_)
        refine goes_ Tryd.func24 (by kernel_rfl) rfl #[.slice (some ad222) y206.length co45, .string (⟨#[65]⟩ : ByteArray)] (by rfl) rfl rfl (by (try simp only [List.map_toArray, List.map_cons, List.map_nil]); first | done | rfl | (simp only [List.length_drop, List.length_take]; rfl)) ?_
        with_reducible refine (head_Strip.calls _ _ y206 (⟨#[65]⟩ : ByteArray) t228 _ ?side1 ?side2 A27.out).mono ?_
        (case side1 => repeat (first | exact (Kd.R_reads' HO208.out).2.2 | (with_reducible refine Kd.C_alloc ?_ _) | (with_reducible refine Kd.C_drewN ?_ _) | (with_reducible refine Kd.C_drew ?_)))
        (case side2 => exact (Kd.R_reads' HO208.out).2.1)
        rintro e w60 ⟨v229, rfl, ho0, hb⟩
        have HS0_ := (hb.cell (World.block_lt_of_cell? _ _ (hHeld.1))).trans (hHeld.1)
        have HS1_ := (hb.cell (World.block_lt_of_cell? _ _ (hHeld.2.1))).trans (hHeld.2.1)
        have HS2_ := (hb.cell (World.block_lt_of_cell? _ _ (hHeld.2.2.1))).trans (hHeld.2.2.1)
        have HS3_ := (hb.cell (World.block_lt_of_cell? _ _ (hHeld.2.2.2.1))).trans (hHeld.2.2.2.1)
        have HS4_ := (hb.cell (World.block_lt_of_cell? _ _ (hHeld.2.2.2.2.1))).trans (hHeld.2.2.2.2.1)
        have HS5_ := (hb.cell (World.block_lt_of_cell? _ _ (hHeld.2.2.2.2.2))).trans (hHeld.2.2.2.2.2)
        refine ⟨_, rfl, ?_⟩
        have n0_ := Aside0.mk (Kd.R_elder' (by (with_reducible repeat (first | apply Kd.R_alloc | apply Kd.R_drewN | apply Kd.R_drew)); exact HO208.out) (Kd.R_base ho0) hb)
        have n1_ := Aside0.mk (Kd.R_elder' (by (with_reducible repeat (first | apply Kd.R_alloc | apply Kd.R_drewN | apply Kd.R_drew)); exact HO214.out) (Kd.R_base ho0) hb)
        have n2_ := Aside0.mk (Kd.R_elder' (by (with_reducible repeat (first | apply Kd.R_alloc | apply Kd.R_drewN | apply Kd.R_drew)); exact HO217.out) (Kd.R_base ho0) hb)
        have n3_ := Aside0.mk (Kd.R_elder' (by (with_reducible repeat (first | apply Kd.R_alloc | apply Kd.R_drewN | apply Kd.R_drew)); exact HO226.out) (Kd.R_base ho0) hb)
        have n4_ := Aside0.mk (Kd.R_elder' (by (with_reducible repeat (first | apply Kd.R_alloc | apply Kd.R_drewN | apply Kd.R_drew)); exact HO221.out) (Kd.R_base ho0) hb)
        have n5_ := Aside0.mk (Kd.R_elder' (by (with_reducible repeat (first | apply Kd.R_alloc | apply Kd.R_drewN | apply Kd.R_drew)); exact HO234.out) (Kd.R_base ho0) hb)
        have n6_ := Aside0.mk (Kd.R_lower (Kd.R_new' (Kd.R_new' (Kd.R_new' (Kd.R_new' (Kd.R_new' (Kd.R_new' ho0 (Kd.R_lt (by (with_reducible repeat (first | apply Kd.R_alloc | apply Kd.R_drewN | apply Kd.R_drew)); exact HO208.out))) (Kd.R_lt (by (with_reducible repeat (first | apply Kd.R_alloc | apply Kd.R_drewN | apply Kd.R_drew)); exact HO214.out))) (Kd.R_lt (by (with_reducible repeat (first | apply Kd.R_alloc | apply Kd.R_drewN | apply Kd.R_drew)); exact HO217.out))) (Kd.R_lt (by (with_reducible repeat (first | apply Kd.R_alloc | apply Kd.R_drewN | apply Kd.R_drew)); exact HO226.out))) (Kd.R_lt (by (with_reducible repeat (first | apply Kd.R_alloc | apply Kd.R_drewN | apply Kd.R_drew)); exact HO221.out))) (Kd.R_lt (by (with_reducible repeat (first | apply Kd.R_alloc | apply Kd.R_drewN | apply Kd.R_drew)); exact HO234.out))) (below_size (by repeat (first | (with_reducible first | exact HB.out | apply below_alloc | apply pw_below_drewN | apply below_drew1) | exact HB.out))))
        have n7_ := Aside0.mk (below_step (by repeat (first | (with_reducible first | exact HB.out | apply below_alloc | apply pw_below_drewN | apply below_drew1) | exact HB.out)) hb)
        clear HO208
        clear HO214
        clear HO217
        clear HO226
        clear HO221
        clear HO234
        clear HB
        have HO208 := n0_
        have HO214 := n1_
        have HO217 := n2_
        have HO226 := n3_
        have HO221 := n4_
        have HO234 := n5_
        have HO230 := n6_
        have HB := n7_
        clear n0_ n1_ n2_ n3_ n4_ n5_ n6_ n7_
        (try clear hb)
        (try clear hb2)
        (try clear hk)
        (try clear hi)
        (try clear ho0)
        refine hK.out _ _ ⟨HS0_, HS1_, HS2_, HS3_, HS4_, HS5_⟩ (fun hHeld => ?_)
        clear hK K
        refine norm_ (a' := ?_) ?_ ?_
        rotate_left
        · show Act.put _ (some 78) _ = _
          simp only [Act.put, List.setIfInBounds_toArray, List.set_cons_zero, List.set_cons_succ, i64_w, i32_w]
          rfl
        exact norm_ (by first | (simp only [putAll, Act.put, List.setIfInBounds_toArray, List.set_cons_zero, List.set_cons_succ]; done) | (simp only [putAll, Act.put, List.setIfInBounds_toArray, List.set_cons_zero, List.set_cons_succ, i64_w, i32_w]; rfl)) (hCont (.slice Ao56 t219.length co56, .slice Ao57 y224.length co57, v229, v233) _ ⟨hHeld, (by (with_reducible repeat (first | apply Kd.R_alloc | apply Kd.R_drewN | apply Kd.R_drew)); exact Kd.R_mono HO208.out (fun _ hk => ⟨hk.1.1.1.1.1.2, ⟨hk.1.1.1.1.2, ⟨hk.1.1.2, ⟨hk.1.1.1.2, ⟨hk.2, hk.1.2⟩⟩⟩⟩⟩)), (by (with_reducible repeat (first | apply Kd.R_alloc | apply Kd.R_drewN | apply Kd.R_drew)); exact Kd.R_mono HO214.out (fun _ hk => ⟨hk.1.1.1.1.1.2, ⟨hk.1.1.1.1.2, ⟨hk.1.1.2, ⟨hk.1.1.1.2, ⟨hk.2, hk.1.2⟩⟩⟩⟩⟩)), (by (with_reducible repeat (first | apply Kd.R_alloc | apply Kd.R_drewN | apply Kd.R_drew)); exact Kd.R_mono HO217.out (fun _ hk => ⟨hk.1.1.1.1.1.2, ⟨hk.1.1.1.1.2, ⟨hk.1.1.2, ⟨hk.1.1.1.2, ⟨hk.2, hk.1.2⟩⟩⟩⟩⟩)), (by (with_reducible repeat (first | apply Kd.R_alloc | apply Kd.R_drewN | apply Kd.R_drew)); exact Kd.R_mono HO221.out (fun _ hk => ⟨hk.1.1.1.1.1.2, ⟨hk.1.1.1.1.2, ⟨hk.1.1.1.2, ⟨hk.1.1.2, ⟨hk.2, hk.1.2⟩⟩⟩⟩⟩)), (by (with_reducible repeat (first | apply Kd.R_alloc | apply Kd.R_drewN | apply Kd.R_drew)); exact Kd.R_mono HO226.out (fun _ hk => ⟨hk.1.1.1.1.1.2, ⟨hk.1.1.1.1.2, ⟨hk.1.1.1.2, ⟨hk.1.1.2, ⟨hk.2, hk.1.2⟩⟩⟩⟩⟩)), (by (with_reducible repeat (first | apply Kd.R_alloc | apply Kd.R_drewN | apply Kd.R_drew)); exact Kd.R_mono HO230.out (fun _ hk => ⟨hk.1.1.1.1.1.2, ⟨hk.1.1.1.1.2, ⟨hk.1.1.1.2, ⟨hk.1.2, ⟨hk.1.1.2, hk.2⟩⟩⟩⟩⟩)), (by (with_reducible repeat (first | apply Kd.R_alloc | apply Kd.R_drewN | apply Kd.R_drew)); exact Kd.R_mono HO234.out (fun _ hk => ⟨hk.1.1.1.1.1.2, ⟨hk.1.1.1.1.2, ⟨hk.1.1.1.2, ⟨hk.1.2, ⟨hk.1.1.2, hk.2⟩⟩⟩⟩⟩)), (by repeat (first | (with_reducible first | exact HB.out | apply below_alloc | apply pw_below_drewN | apply below_drew1) | exact HB.out))⟩)
  rintro ⟨v220, v225, v229, v233⟩ w61 ⟨hS_, h0_, h1_, h2_, h3_, h4_, h5_, h6_, h7_⟩
  have n0_ : Aside0 (Kd.R k28 28 w61 w.heap.size (fun k_ => some k_ ≠ (.slice Ao48 t211.length co48 : Value).ownBlock ∧ some k_ ≠ (.slice Ao52 y215.length co52 : Value).ownBlock ∧ some k_ ≠ (v220 : Value).ownBlock ∧ some k_ ≠ (v225 : Value).ownBlock ∧ some k_ ≠ (v229 : Value).ownBlock ∧ some k_ ≠ (v233 : Value).ownBlock) (.slice (some ad222) y206.length co45) y206) := ⟨h0_⟩
  have n1_ : Aside0 (Kd.R k28 28 w61 w.heap.size (fun k_ => some k_ ≠ (.slice (some ad222) y206.length co45 : Value).ownBlock ∧ some k_ ≠ (.slice Ao52 y215.length co52 : Value).ownBlock ∧ some k_ ≠ (v220 : Value).ownBlock ∧ some k_ ≠ (v225 : Value).ownBlock ∧ some k_ ≠ (v229 : Value).ownBlock ∧ some k_ ≠ (v233 : Value).ownBlock) (.slice Ao48 t211.length co48) t211) := ⟨h1_⟩
  have n2_ : Aside0 (Kd.R k28 28 w61 w.heap.size (fun k_ => some k_ ≠ (.slice (some ad222) y206.length co45 : Value).ownBlock ∧ some k_ ≠ (.slice Ao48 t211.length co48 : Value).ownBlock ∧ some k_ ≠ (v220 : Value).ownBlock ∧ some k_ ≠ (v225 : Value).ownBlock ∧ some k_ ≠ (v229 : Value).ownBlock ∧ some k_ ≠ (v233 : Value).ownBlock) (.slice Ao52 y215.length co52) y215) := ⟨h2_⟩
  have n3_ : Aside0 (Kd.R k28 28 w61 w.heap.size (fun k_ => some k_ ≠ (.slice (some ad222) y206.length co45 : Value).ownBlock ∧ some k_ ≠ (.slice Ao48 t211.length co48 : Value).ownBlock ∧ some k_ ≠ (.slice Ao52 y215.length co52 : Value).ownBlock ∧ some k_ ≠ (v225 : Value).ownBlock ∧ some k_ ≠ (v229 : Value).ownBlock ∧ some k_ ≠ (v233 : Value).ownBlock) v220 t219) := ⟨h3_⟩
  have n4_ : Aside0 (Kd.R k28 28 w61 w.heap.size (fun k_ => some k_ ≠ (.slice (some ad222) y206.length co45 : Value).ownBlock ∧ some k_ ≠ (.slice Ao48 t211.length co48 : Value).ownBlock ∧ some k_ ≠ (.slice Ao52 y215.length co52 : Value).ownBlock ∧ some k_ ≠ (v220 : Value).ownBlock ∧ some k_ ≠ (v229 : Value).ownBlock ∧ some k_ ≠ (v233 : Value).ownBlock) v225 y224) := ⟨h4_⟩
  have n5_ : Aside0 (Kd.R k28 28 w61 w.heap.size (fun k_ => some k_ ≠ (.slice (some ad222) y206.length co45 : Value).ownBlock ∧ some k_ ≠ (.slice Ao48 t211.length co48 : Value).ownBlock ∧ some k_ ≠ (.slice Ao52 y215.length co52 : Value).ownBlock ∧ some k_ ≠ (v220 : Value).ownBlock ∧ some k_ ≠ (v225 : Value).ownBlock ∧ some k_ ≠ (v233 : Value).ownBlock) v229 t228) := ⟨h5_⟩
  have n6_ : Aside0 (Kd.R k28 28 w61 w.heap.size (fun k_ => some k_ ≠ (.slice (some ad222) y206.length co45 : Value).ownBlock ∧ some k_ ≠ (.slice Ao48 t211.length co48 : Value).ownBlock ∧ some k_ ≠ (.slice Ao52 y215.length co52 : Value).ownBlock ∧ some k_ ≠ (v220 : Value).ownBlock ∧ some k_ ≠ (v225 : Value).ownBlock ∧ some k_ ≠ (v229 : Value).ownBlock) v233 y232) := ⟨h6_⟩
  have n7_ : Aside0 (Below w.heap.size w w61) := ⟨h7_⟩
  clear HO208
  clear HO214
  clear HB
  clear h0_ h1_ h2_ h3_ h4_ h5_ h6_ h7_
  have HO208 := n0_
  have HO214 := n1_
  have HO217 := n2_
  have HO221 := n3_
  have HO226 := n4_
  have HO230 := n5_
  have HO234 := n6_
  have HB := n7_
  clear n0_ n1_ n2_ n3_ n4_ n5_ n6_ n7_
  have hHeld : w61.cell? ad222 = some (.string ((rd_T28 y206 0).f0)) ∧ w61.cell? ⟨ad222.block, ad222.off + 1, none⟩ = some (.string ((rd_T28 y206 0).f1)) ∧ w61.cell? ⟨ad222.block, ad222.off + 4, none⟩ = some (.string ((rd_T28 y206 2).f0)) ∧ w61.cell? ⟨ad222.block, ad222.off + 4 + 1, none⟩ = some (.string ((rd_T28 y206 2).f1)) ∧ w61.cell? ⟨ad222.block, ad222.off + 2, none⟩ = some (.string ((rd_T28 y206 1).f0)) ∧ w61.cell? ⟨ad222.block, ad222.off + 2 + 1, none⟩ = some (.string ((rd_T28 y206 1).f1)) := hS_
  obtain ⟨Ao62, co62, eo62⟩ := Kd.R_slice HO230.out
  (first | subst eo62 | (injection eo62 with f1_ f2_ f3_; have f4_ := f1_.symm; have f5_ := f3_.symm; clear f1_ f2_ f3_; subst f4_; subst f5_))
  obtain ⟨Ao63, co63, eo63⟩ := Kd.R_slice HO234.out
  (first | subst eo63 | (injection eo63 with f1_ f2_ f3_; have f4_ := f1_.symm; have f5_ := f3_.symm; clear f1_ f2_ f3_; subst f4_; subst f5_))
  refine norm_ (a' := ?_) ?_ ?_
  rotate_left
  · simp only [putAll, Act.put, List.setIfInBounds_toArray, List.set_cons_zero, List.set_cons_succ]
    rfl
  refine one_ (i := 36) (N := some 83) (tf 37 2) rfl rfl (one_of HT_.out (by kernel_rfl)) (by decide) (fun K hK => ?_)
  refine goes_ Tryd.func20 (by kernel_rfl) rfl #[.slice Ao62 t228.length co62, .slice Ao63 y232.length co63] (by rfl) rfl rfl (by (try simp only [List.map_toArray, List.map_cons, List.map_nil]); first | done | rfl | (simp only [List.length_drop, List.length_take]; rfl)) ?_
  with_reducible refine (head_Same.calls k _ _ t228 _ _ y232 true _ ?side1 ?side2 ?side3 ?side4 A29.out).mono ?_
  (case side1 => repeat (first | exact (Kd.R_reads' HO230.out).2.2 | (with_reducible refine Kd.C_alloc ?_ _) | (with_reducible refine Kd.C_drewN ?_ _) | (with_reducible refine Kd.C_drew ?_)))
  (case side2 => exact (Kd.R_reads' HO230.out).2.1)
  (case side3 => repeat (first | exact (Kd.R_reads' HO234.out).2.2 | (with_reducible refine Kd.C_alloc ?_ _) | (with_reducible refine Kd.C_drewN ?_ _) | (with_reducible refine Kd.C_drew ?_)))
  (case side4 => exact (Kd.R_reads' HO234.out).2.1)
  rintro e w' ⟨rfl, ⟨nd, rfl⟩⟩
  refine ⟨_, rfl, ?_⟩
  refine hK.out _ _ ⟨hHeld.1, hHeld.2.1, hHeld.2.2.1, hHeld.2.2.2.1, hHeld.2.2.2.2.1, hHeld.2.2.2.2.2⟩ (fun hHeld => ?_)
  clear hK K
  refine norm_ (a' := ?_) ?_ ?_
  rotate_left
  · show Act.put _ (some 83) _ = _
    simp only [Act.put, List.setIfInBounds_toArray, List.set_cons_zero, List.set_cons_succ, i64_w, i32_w]
    rfl
  refine pure_ (i := 37) (N := some 84) (v := ?_) (a' := ?_) (tf 38 1) rfl rfl (any_of HT_.out (by kernel_rfl)) (fun _ _ _ h => h) (Or.inl ⟨by rfl, ?_⟩) ?_ ?_
  rotate_left
  · intro w'
    go_simp
    with_reducible rfl
  rotate_left
  · simp only [Act.put, List.setIfInBounds_toArray, List.set_cons_zero, List.set_cons_succ, i64_w, i32_w]
    rfl
  refine pure_ (i := 38) (N := some 8) (v := ?_) (a' := ?_) (tf 39 0) rfl rfl (any_of HT_.out (by kernel_rfl)) (fun _ _ _ h => h) (Or.inl ⟨by rfl, ?_⟩) ?_ ?_
  rotate_left
  · intro w'
    go_simp
    with_reducible rfl
  rotate_left
  · simp only [Act.put, List.setIfInBounds_toArray, List.set_cons_zero, List.set_cons_succ, i64_w, i32_w]
    rfl
  refine done_ (done_of HT_.out (by kernel_rfl)) ?_
  try go_wp2_with (first | ((with_reducible refine gate_dst (N := 88) rfl ?_); (try (refine gate_guard (by rfl) ?_; dsimp only)); refine Kd.R_lit k28 _ 28 ?hg (N := 88) ?hd (xs := ([(⟨(⟨#[65]⟩ : ByteArray), (⟨#[49]⟩ : ByteArray)⟩ : S28), (⟨(⟨#[98]⟩ : ByteArray), (⟨#[]⟩ : ByteArray)⟩ : S28)] : List (S28))) (inner := [.string (⟨#[65]⟩ : ByteArray), .string (⟨#[49]⟩ : ByteArray), .string (⟨#[98]⟩ : ByteArray), .string (⟨#[]⟩ : ByteArray)]) (ok := fun _ => True) (okp := fun _ => True) ?hr ?hp (fun _ hk => hk) trivial (Below.refl _ _) (Nat.le_refl _) (by simp) ?_; (case hd => rfl); (case hg => rfl); (case hr => first | (go_simp; done) | (go_simp; rfl)); (case hp => exact (Reps.c2 (show Kd.M k28 _ _ _ (⟨(⟨#[65]⟩ : ByteArray), (⟨#[49]⟩ : ByteArray)⟩ : S28) [.string (⟨#[65]⟩ : ByteArray), .string (⟨#[49]⟩ : ByteArray)] from (k28_mkM _ _ _ (⟨(⟨#[65]⟩ : ByteArray), (⟨#[49]⟩ : ByteArray)⟩ : S28) )) (Reps.c2 (show Kd.M k28 _ _ _ (⟨(⟨#[98]⟩ : ByteArray), (⟨#[]⟩ : ByteArray)⟩ : S28) [.string (⟨#[98]⟩ : ByteArray), .string (⟨#[]⟩ : ByteArray)] from (k28_mkM _ _ _ (⟨(⟨#[98]⟩ : ByteArray), (⟨#[]⟩ : ByteArray)⟩ : S28) )) (Reps.none _ _)))); intro v237 w64 ho65 hb hg_ hnew_; clear hg_ hnew_; (first | rw [← Ny236.out] at ho65 | (simp only [Int.reduceToNat] at ho65; rw [← Ny236.out] at ho65)); have n0_ := Aside0.mk (Kd.R_elder' (by (with_reducible repeat (first | apply Kd.R_alloc | apply Kd.R_drewN | apply Kd.R_drew)); exact HO208.out) (Kd.R_base ho65) hb); have n1_ := Aside0.mk (Kd.R_elder' (by (with_reducible repeat (first | apply Kd.R_alloc | apply Kd.R_drewN | apply Kd.R_drew)); exact HO214.out) (Kd.R_base ho65) hb); have n2_ := Aside0.mk (Kd.R_elder' (by (with_reducible repeat (first | apply Kd.R_alloc | apply Kd.R_drewN | apply Kd.R_drew)); exact HO217.out) (Kd.R_base ho65) hb); have n3_ := Aside0.mk (Kd.R_elder' (by (with_reducible repeat (first | apply Kd.R_alloc | apply Kd.R_drewN | apply Kd.R_drew)); exact HO221.out) (Kd.R_base ho65) hb); have n4_ := Aside0.mk (Kd.R_elder' (by (with_reducible repeat (first | apply Kd.R_alloc | apply Kd.R_drewN | apply Kd.R_drew)); exact HO226.out) (Kd.R_base ho65) hb); have n5_ := Aside0.mk (Kd.R_elder' (by (with_reducible repeat (first | apply Kd.R_alloc | apply Kd.R_drewN | apply Kd.R_drew)); exact HO230.out) (Kd.R_base ho65) hb); have n6_ := Aside0.mk (Kd.R_elder' (by (with_reducible repeat (first | apply Kd.R_alloc | apply Kd.R_drewN | apply Kd.R_drew)); exact HO234.out) (Kd.R_base ho65) hb); have n7_ := Aside0.mk (Kd.R_lower (Kd.R_new' (Kd.R_new' (Kd.R_new' (Kd.R_new' (Kd.R_new' (Kd.R_new' (Kd.R_new' ho65 (Kd.R_lt (by (with_reducible repeat (first | apply Kd.R_alloc | apply Kd.R_drewN | apply Kd.R_drew)); exact HO208.out))) (Kd.R_lt (by (with_reducible repeat (first | apply Kd.R_alloc | apply Kd.R_drewN | apply Kd.R_drew)); exact HO214.out))) (Kd.R_lt (by (with_reducible repeat (first | apply Kd.R_alloc | apply Kd.R_drewN | apply Kd.R_drew)); exact HO217.out))) (Kd.R_lt (by (with_reducible repeat (first | apply Kd.R_alloc | apply Kd.R_drewN | apply Kd.R_drew)); exact HO221.out))) (Kd.R_lt (by (with_reducible repeat (first | apply Kd.R_alloc | apply Kd.R_drewN | apply Kd.R_drew)); exact HO226.out))) (Kd.R_lt (by (with_reducible repeat (first | apply Kd.R_alloc | apply Kd.R_drewN | apply Kd.R_drew)); exact HO230.out))) (Kd.R_lt (by (with_reducible repeat (first | apply Kd.R_alloc | apply Kd.R_drewN | apply Kd.R_drew)); exact HO234.out))) (below_size (by repeat (first | (with_reducible first | exact HB.out | apply below_alloc | apply pw_below_drewN | apply below_drew1) | exact HB.out)))); have n8_ := Aside0.mk (below_step (by repeat (first | (with_reducible first | exact HB.out | apply below_alloc | apply pw_below_drewN | apply below_drew1) | exact HB.out)) hb); clear HO208; clear HO214; clear HO217; clear HO221; clear HO226; clear HO230; clear HO234; clear HB; have HO208 := n0_; have HO214 := n1_; have HO217 := n2_; have HO221 := n3_; have HO226 := n4_; have HO230 := n5_; have HO234 := n6_; have HO238 := n7_; have HB := n8_; clear n0_ n1_ n2_ n3_ n4_ n5_ n6_ n7_ n8_; clear hb ho65; obtain ⟨Ao66, co66, eo66⟩ := Kd.R_slice HO238.out; subst eo66) | ((with_reducible refine gate_callee (f := 31) rfl ?_); refine goesL_ (some 89) rfl rfl Tryd.func31 (by kernel_rfl) rfl #[.slice Ao66 y236.length co66] rfl (by (try simp only [List.map_toArray, List.map_cons, List.map_nil]); first | done | rfl | (simp only [List.length_drop, List.length_take]; rfl)) ?_; (with_reducible refine (head_Bytes.calls k _ _ y236 t239 t240 _ ?side1 ?side2 A30.out).mono ?_); (case side1 => repeat (first | exact (Kd.R_reads' HO238.out).2.2 | (with_reducible refine Kd.C_alloc ?_ _) | (with_reducible refine Kd.C_drewN ?_ _) | (with_reducible refine Kd.C_drew ?_))); (case side2 => exact (Kd.R_reads' HO238.out).2.1); rintro e w67 ⟨v241, rfl, ho0, hb⟩; refine ⟨_, rfl, ?_⟩; have n0_ := Aside0.mk (Kd.R_below (by (with_reducible repeat (first | apply Kd.R_alloc | apply Kd.R_drewN | apply Kd.R_drew)); exact HO208.out) hb); have n1_ := Aside0.mk (Kd.R_below (by (with_reducible repeat (first | apply Kd.R_alloc | apply Kd.R_drewN | apply Kd.R_drew)); exact HO214.out) hb); have n2_ := Aside0.mk (Kd.R_below (by (with_reducible repeat (first | apply Kd.R_alloc | apply Kd.R_drewN | apply Kd.R_drew)); exact HO217.out) hb); have n3_ := Aside0.mk (Kd.R_below (by (with_reducible repeat (first | apply Kd.R_alloc | apply Kd.R_drewN | apply Kd.R_drew)); exact HO221.out) hb); have n4_ := Aside0.mk (Kd.R_below (by (with_reducible repeat (first | apply Kd.R_alloc | apply Kd.R_drewN | apply Kd.R_drew)); exact HO226.out) hb); have n5_ := Aside0.mk (Kd.R_below (by (with_reducible repeat (first | apply Kd.R_alloc | apply Kd.R_drewN | apply Kd.R_drew)); exact HO230.out) hb); have n6_ := Aside0.mk (Kd.R_below (by (with_reducible repeat (first | apply Kd.R_alloc | apply Kd.R_drewN | apply Kd.R_drew)); exact HO234.out) hb); have n7_ := Aside0.mk (Kd.R_below (by (with_reducible repeat (first | apply Kd.R_alloc | apply Kd.R_drewN | apply Kd.R_drew)); exact HO238.out) hb); have n8_ := Aside0.mk (Kd.R_lower ho0 (below_size (by repeat (first | (with_reducible first | exact HB.out | apply below_alloc | apply pw_below_drewN | apply below_drew1) | exact HB.out)))); have n9_ := Aside0.mk (below_step (by repeat (first | (with_reducible first | exact HB.out | apply below_alloc | apply pw_below_drewN | apply below_drew1) | exact HB.out)) hb); clear HO208; clear HO214; clear HO217; clear HO221; clear HO226; clear HO230; clear HO234; clear HO238; clear HB; have HO208 := n0_; have HO214 := n1_; have HO217 := n2_; have HO221 := n3_; have HO226 := n4_; have HO230 := n5_; have HO234 := n6_; have HO238 := n7_; have HO242 := n8_; have HB := n9_; clear n0_ n1_ n2_ n3_ n4_ n5_ n6_ n7_ n8_ n9_; (try clear hb); (try clear hb2); (try clear hk); (try clear hi); (try clear ho0); have hcv68 := own_string (P := Tryd.prog) Tryd.underlying38 Tryd.underlying5 Tryd.underlying9 (Kd.own_of_R HO242.out)))
  go_ret
  exact ⟨by first | rfl | (simp [errW_none, errW_some] <;> rfl) | (simp [*, errW_none, errW_some] <;> rfl), by repeat (first | (with_reducible first | exact HB.out | apply below_alloc | apply pw_below_drewN | apply below_drew1) | exact HB.out)⟩

end Go.Proofs.YtbdafijdfpmdiaaDoor.PHead
