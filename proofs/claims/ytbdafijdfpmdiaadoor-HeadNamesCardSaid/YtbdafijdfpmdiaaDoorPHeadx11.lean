-- Printed by a program of this session (wip/tools/xprint.py) out of the translation. Not trusted: Lean checks it.
import Derived.Test.YtbdafijdfpmdiaaDoorPHeadx0
import Derived.Test.YtbdafijdfpmdiaaDoorPHeadx4
import Derived.Test.YtbdafijdfpmdiaaDoorPHeadx5
import Derived.Test.YtbdafijdfpmdiaaDoorPHeadx7
import Derived.Test.YtbdafijdfpmdiaaDoorPHeadx8
import Derived.Test.YtbdafijdfpmdiaaDoorPHeadx9
import Derived.Test.YtbdafijdfpmdiaaDoorPHeadx10
import Derived.Test.YtbdafijdfpmdiaaDoorExt0
import Derived.Test.YtbdafijdfpmdiaaDoorExt1
namespace Go.Proofs.YtbdafijdfpmdiaaDoor.PHead
open Go.RowKit Go.Proofs.YtbdafijdfpmdiaaDoorW.PrintWords Go.Proofs.YtbdafijdfpmdiaaDoorW.PrintLast Go.Proofs.YtbdafijdfpmdiaaDoorW.PrintMore
attribute [local go_sem] max2_int min2_int max_two min_two max_three min_three max_four min_four   -- for this text's walks alone
set_option linter.unusedVariables false
set_option linter.unusedSimpArgs false

theorem sets_nil (k : Nat) (a1 a2 : ByteArray) (r : Bool) (w : World) (h : chinoiserielaw04_HeadSets.f k ([] : List (S28)) a1 a2 = some r) (hr_ : r = true := by rfl) :
    Calls Tryd.prog 4 #[.slice none 0 0, .string a1, .string a2] w fun e w' => e = .returned (.bool r) ∧ Below w.heap.size w w' :=
  chinoiserielaw04_HeadSets.calls k none 0 [] a1 a2 r w (Kd.C_nil _ _) (Nat.le_refl _) h hr_
/-! ### chinoiserielaw04_HeadNames: function 9 -/
mutual
def chinoiserielaw04_HeadNames.l0 : Nat → ByteArray → Int → Option (Bool)
  | 0, _, _ => none
  | k + 1, x1, x2 => if x2 < 250 then (if x1.size + 1 ≤ 9223372036854775807 then (chinoiserielaw04_HeadNames.l0 k (x1 ++ (⟨#[97]⟩ : ByteArray)) (wrap64 (x2 + 1))) else (none)) else (chinoiserielaw04_HeadNames.l1 k x1 0)
def chinoiserielaw04_HeadNames.l1 : Nat → ByteArray → Int → Option (Bool)
  | 0, _, _ => none
  | k + 1, x1, x3 => if x3 < 256 then ((some (([(x3) % 256] : List Int) : List Int)).bind fun y350 => (if 1 + (strOfNums y350).size ≤ 9223372036854775807 then (if ((⟨#[97]⟩ : ByteArray) ++ (strOfNums y350)).size + 3 ≤ 9223372036854775807 then ((chinoiserielaw04_HeadLines.f k (((⟨#[97]⟩ : ByteArray) ++ (strOfNums y350)) ++ (⟨#[58, 32, 120]⟩ : ByteArray))).bind fun t353 => (if t353 = true then (if 4 + (strOfNums y350).size ≤ 9223372036854775807 then (if ((⟨#[97, 58, 32, 120]⟩ : ByteArray) ++ (strOfNums y350)).size + 1 ≤ 9223372036854775807 then ((chinoiserielaw04_HeadLines.f k (((⟨#[97, 58, 32, 120]⟩ : ByteArray) ++ (strOfNums y350)) ++ (⟨#[121]⟩ : ByteArray))).bind fun t354 => (if t354 = true then (if 3 + (strOfNums y350).size ≤ 9223372036854775807 then ((chinoiserielaw04_HeadLines.f k ((⟨#[97, 58, 32]⟩ : ByteArray) ++ (strOfNums y350))).bind fun t355 => (if t355 = true then (if 2 + (strOfNums y350).size ≤ 9223372036854775807 then (if ((⟨#[97, 58]⟩ : ByteArray) ++ (strOfNums y350)).size + 1 ≤ 9223372036854775807 then (if (((⟨#[97, 58]⟩ : ByteArray) ++ (strOfNums y350)) ++ (⟨#[121]⟩ : ByteArray)).size + (strOfNums y350).size ≤ 9223372036854775807 then ((chinoiserielaw04_HeadLines.f k ((((⟨#[97, 58]⟩ : ByteArray) ++ (strOfNums y350)) ++ (⟨#[121]⟩ : ByteArray)) ++ (strOfNums y350))).bind fun t356 => (if t356 = true then ((chinoiserielaw04_HeadSets.f k ([] : List (S28)) ((⟨#[97]⟩ : ByteArray) ++ (strOfNums y350)) (⟨#[120]⟩ : ByteArray)).bind fun t357 => (if t357 = true then ((chinoiserielaw04_HeadSets.f k ([] : List (S28)) (⟨#[97]⟩ : ByteArray) (strOfNums y350)).bind fun t358 => (if t358 = true then ((chinoiserielaw04_HeadFinds.f k (([(⟨strOfNums y350, strOfNums y350⟩ : S28)] : List (S28))) ([] : List (S28)) (strOfNums y350)).bind fun t362 => (if t362 = true then (chinoiserielaw04_HeadNames.l1 k x1 (wrap64 (x3 + 1))) else (some false))) else (none))) else (none))) else (none))) else (none)) else (none)) else (none)) else (none))) else (none)) else (none))) else (none)) else (none)) else (none))) else (none)) else (none))) else (chinoiserielaw04_HeadNames.l2 k x1 ([] : List (S28)) 0)
def chinoiserielaw04_HeadNames.l2 : Nat → ByteArray → List (S28) → Int → Option (Bool)
  | 0, _, _, _ => none
  | k + 1, x1, x5, x6 => if x6 < 17 then (if 0 ≤ x6 then (if x6 ≤ (x1.size : Int) then (if 1 + (x1.extract 0 (x6 : Int).toNat).size ≤ 9223372036854775807 then (if 0 ≤ (wrap64 (x6 * 12)) then (if (wrap64 (x6 * 12)) ≤ (x1.size : Int) then (if x5.length < 4398046511104 then (chinoiserielaw04_HeadNames.l2 k x1 (x5 ++ [(⟨(⟨#[110]⟩ : ByteArray) ++ (x1.extract 0 (x6 : Int).toNat), x1.extract 0 ((wrap64 (x6 * 12)) : Int).toNat⟩ : S28)]) (wrap64 (x6 + 1))) else (none)) else (none)) else (none)) else (none)) else (none)) else (none)) else (if 16 ≤ (x5.length : Int) then ((head_Set.f (x5.take 16) (⟨#[110, 101, 119]⟩ : ByteArray) (⟨#[49]⟩ : ByteArray)).bind fun bt370 => ((head_Set.f (x5.take 16) (⟨#[78, 65, 65]⟩ : ByteArray) (⟨#[49]⟩ : ByteArray)).bind fun bt378 => ((head_Check.f x5).bind fun t382 => (if t382 = 5 then ((head_Check.f (x5.take 16)).bind fun t387 => (if t387 = 0 then (if bt370.2 = 5 then (if bt378.2 = 0 then (if (bt378.1.length : Int) = 16 then (if 0 ≤ 30 then (if 30 ≤ (x1.size : Int) then (if 0 ≤ 200 then (if 200 ≤ (x1.size : Int) then ((head_Check.f (([(⟨x1.extract 0 30, x1.extract 0 200⟩ : S28)] : List (S28)))).bind fun t391 => (if t391 = 0 then (if 0 ≤ 31 then (if 31 ≤ (x1.size : Int) then ((head_Check.f (([(⟨x1.extract 0 31, (⟨#[]⟩ : ByteArray)⟩ : S28)] : List (S28)))).bind fun t395 => (if t395 = 40 then (if 0 ≤ 201 then (if 201 ≤ (x1.size : Int) then ((head_Check.f (([(⟨(⟨#[97]⟩ : ByteArray), x1.extract 0 201⟩ : S28)] : List (S28)))).bind fun t399 => (if t399 = 40 then ((head_Check.f (([(⟨(⟨#[]⟩ : ByteArray), (⟨#[]⟩ : ByteArray)⟩ : S28)] : List (S28)))).bind fun t403 => (if 2 + (x1.extract 0 200).size ≤ 9223372036854775807 then (if ((⟨#[97, 58]⟩ : ByteArray) ++ (x1.extract 0 200)).size + 66 ≤ 9223372036854775807 then ((chinoiserielaw04_line.f (((⟨#[97, 58]⟩ : ByteArray) ++ (x1.extract 0 200)) ++ (⟨#[32, 32, 32, 32, 32, 32, 32, 32, 32, 32, 32, 32, 32, 32, 32, 32, 32, 32, 32, 32, 32, 32, 32, 32, 32, 32, 32, 32, 32, 32, 32, 32, 32, 32, 32, 32, 32, 32, 32, 32, 32, 32, 32, 32, 32, 32, 32, 32, 32, 32, 32, 32, 32, 32, 32, 32, 32, 32, 32, 32, 32, 32, 32, 32, 32, 32]⟩ : ByteArray)) (⟨#[97]⟩ : ByteArray) (x1.extract 0 200)).bind fun t404 => (if t404 = true then (if 2 + x1.size ≤ 9223372036854775807 then (if 0 ≤ 60 then (if 60 ≤ (x1.size : Int) then (if ((⟨#[97, 58]⟩ : ByteArray) ++ x1).size + (x1.extract 0 60).size ≤ 9223372036854775807 then ((chinoiserielaw04_wrong.f (((⟨#[97, 58]⟩ : ByteArray) ++ x1) ++ (x1.extract 0 60))).bind fun t405 => (if t405 = true then (if ((⟨#[97, 58]⟩ : ByteArray) ++ (x1.extract 0 200)).size + 3 ≤ 9223372036854775807 then ((chinoiserielaw04_HeadLines.f k (((⟨#[97, 58]⟩ : ByteArray) ++ (x1.extract 0 200)) ++ (⟨#[32, 9, 32]⟩ : ByteArray))).bind fun t406 => (if t406 = true then ((chinoiserielaw04_HeadLines.f k (⟨#[]⟩ : ByteArray)).bind fun t407 => (if t407 = true then ((chinoiserielaw04_HeadLines.f k (⟨#[58]⟩ : ByteArray)).bind fun t408 => (if t408 = true then ((head_Strip.f x5 (⟨#[]⟩ : ByteArray)).bind fun t409 => (if (t409.length : Int) = 0 then ((head_Same.f k ([] : List (S28)) (([] : List (S28)))).bind fun t415 => ((chinoiserielaw04_works.f k).bind fun t416 => (if t416 = true then (if t403 = 40 then (if t415 = true then ((head_Lower.f (⟨#[65, 90, 97, 122, 48, 57, 91]⟩ : ByteArray)).bind fun t417 => ((chinoiserieref00_EqTexts.f k (([t417] : List ByteArray)) (([(⟨#[97, 122, 97, 122, 48, 57, 91]⟩ : ByteArray)] : List ByteArray))).bind fun t424 => (some t424))) else (none)) else (none)) else (none)))) else (none))) else (none))) else (none))) else (none))) else (none)) else (none))) else (none)) else (none)) else (none)) else (none)) else (none))) else (none)) else (none))) else (none))) else (none)) else (none)) else (none))) else (none)) else (none)) else (none))) else (none)) else (none)) else (none)) else (none)) else (none)) else (none)) else (none)) else (none))) else (none))))) else (none))
end
def chinoiserielaw04_HeadNames.f (k : Nat)  : Option (Bool) := chinoiserielaw04_HeadNames.l0 k (⟨#[]⟩ : ByteArray) 0
theorem chinoiserielaw04_HeadNames.mono_l : ∀ k, (∀ y0 y1, LeO (chinoiserielaw04_HeadNames.l0 k y0 y1) (chinoiserielaw04_HeadNames.l0 (k + 1) y0 y1)) ∧ (∀ y0 y1, LeO (chinoiserielaw04_HeadNames.l1 k y0 y1) (chinoiserielaw04_HeadNames.l1 (k + 1) y0 y1)) ∧ (∀ y0 y1 y2, LeO (chinoiserielaw04_HeadNames.l2 k y0 y1 y2) (chinoiserielaw04_HeadNames.l2 (k + 1) y0 y1 y2))
  | 0 => ⟨fun _ _ r h => by simp [chinoiserielaw04_HeadNames.l0] at h, fun _ _ r h => by simp [chinoiserielaw04_HeadNames.l1] at h, fun _ _ _ r h => by simp [chinoiserielaw04_HeadNames.l2] at h⟩
  | k + 1 => by
    obtain ⟨ih0, ih1, ih2⟩ := chinoiserielaw04_HeadNames.mono_l k
    refine ⟨?_, ?_, ?_⟩
    · intro y0 y1
      unfold chinoiserielaw04_HeadNames.l0
      repeat' first
      | (with_reducible exact ih0 _ _)
      | (with_reducible exact ih1 _ _)
      | (with_reducible exact ih2 _ _ _)
      | (with_reducible exact chinoiserielaw04_HeadFinds.mono _ _ _ _)
      | (with_reducible exact chinoiserielaw04_HeadLines.mono _ _)
      | (with_reducible exact chinoiserielaw04_HeadSets.mono _ _ _ _)
      | (with_reducible exact chinoiserielaw04_works.mono _)
      | (with_reducible exact chinoiserieref00_EqTexts.mono _ _ _)
      | (with_reducible exact head_Same.mono _ _ _)
      | (with_reducible exact LeO.refl _)
      | (with_reducible exact LeO.none _)
      | (with_reducible refine LeO.ite ?_ ?_)
      | (with_reducible refine LeO.bind ?_ (fun _ => ?_))
      | exact ih0 _ _
      | exact ih1 _ _
      | exact ih2 _ _ _
      | exact chinoiserielaw04_HeadFinds.mono _ _ _ _
      | exact chinoiserielaw04_HeadLines.mono _ _
      | exact chinoiserielaw04_HeadSets.mono _ _ _ _
      | exact chinoiserielaw04_works.mono _
      | exact chinoiserieref00_EqTexts.mono _ _ _
      | exact head_Same.mono _ _ _
      | exact LeO.none _
      | refine LeO.ite ?_ ?_
      | refine LeO.bind ?_ (fun _ => ?_)
    · intro y0 y1
      unfold chinoiserielaw04_HeadNames.l1
      repeat' first
      | (with_reducible exact ih0 _ _)
      | (with_reducible exact ih1 _ _)
      | (with_reducible exact ih2 _ _ _)
      | (with_reducible exact chinoiserielaw04_HeadFinds.mono _ _ _ _)
      | (with_reducible exact chinoiserielaw04_HeadLines.mono _ _)
      | (with_reducible exact chinoiserielaw04_HeadSets.mono _ _ _ _)
      | (with_reducible exact chinoiserielaw04_works.mono _)
      | (with_reducible exact chinoiserieref00_EqTexts.mono _ _ _)
      | (with_reducible exact head_Same.mono _ _ _)
      | (with_reducible exact LeO.refl _)
      | (with_reducible exact LeO.none _)
      | (with_reducible refine LeO.ite ?_ ?_)
      | (with_reducible refine LeO.bind ?_ (fun _ => ?_))
      | exact ih0 _ _
      | exact ih1 _ _
      | exact ih2 _ _ _
      | exact chinoiserielaw04_HeadFinds.mono _ _ _ _
      | exact chinoiserielaw04_HeadLines.mono _ _
      | exact chinoiserielaw04_HeadSets.mono _ _ _ _
      | exact chinoiserielaw04_works.mono _
      | exact chinoiserieref00_EqTexts.mono _ _ _
      | exact head_Same.mono _ _ _
      | exact LeO.none _
      | refine LeO.ite ?_ ?_
      | refine LeO.bind ?_ (fun _ => ?_)
    · intro y0 y1 y2
      unfold chinoiserielaw04_HeadNames.l2
      repeat' first
      | (with_reducible exact ih0 _ _)
      | (with_reducible exact ih1 _ _)
      | (with_reducible exact ih2 _ _ _)
      | (with_reducible exact chinoiserielaw04_HeadFinds.mono _ _ _ _)
      | (with_reducible exact chinoiserielaw04_HeadLines.mono _ _)
      | (with_reducible exact chinoiserielaw04_HeadSets.mono _ _ _ _)
      | (with_reducible exact chinoiserielaw04_works.mono _)
      | (with_reducible exact chinoiserieref00_EqTexts.mono _ _ _)
      | (with_reducible exact head_Same.mono _ _ _)
      | (with_reducible exact LeO.refl _)
      | (with_reducible exact LeO.none _)
      | (with_reducible refine LeO.ite ?_ ?_)
      | (with_reducible refine LeO.bind ?_ (fun _ => ?_))
      | exact ih0 _ _
      | exact ih1 _ _
      | exact ih2 _ _ _
      | exact chinoiserielaw04_HeadFinds.mono _ _ _ _
      | exact chinoiserielaw04_HeadLines.mono _ _
      | exact chinoiserielaw04_HeadSets.mono _ _ _ _
      | exact chinoiserielaw04_works.mono _
      | exact chinoiserieref00_EqTexts.mono _ _ _
      | exact head_Same.mono _ _ _
      | exact LeO.none _
      | refine LeO.ite ?_ ?_
      | refine LeO.bind ?_ (fun _ => ?_)
theorem chinoiserielaw04_HeadNames.mono : ∀ k, LeO (chinoiserielaw04_HeadNames.f k ) (chinoiserielaw04_HeadNames.f (k + 1) ) := by
  intro  k
  obtain ⟨ih0, ih1, ih2⟩ := chinoiserielaw04_HeadNames.mono_l k
  unfold chinoiserielaw04_HeadNames.f
  repeat' first
      | (with_reducible exact ih0 _ _)
      | (with_reducible exact ih1 _ _)
      | (with_reducible exact ih2 _ _ _)
      | (with_reducible exact chinoiserielaw04_HeadFinds.mono _ _ _ _)
      | (with_reducible exact chinoiserielaw04_HeadLines.mono _ _)
      | (with_reducible exact chinoiserielaw04_HeadSets.mono _ _ _ _)
      | (with_reducible exact chinoiserielaw04_works.mono _)
      | (with_reducible exact chinoiserieref00_EqTexts.mono _ _ _)
      | (with_reducible exact head_Same.mono _ _ _)
      | (with_reducible exact LeO.refl _)
      | (with_reducible exact LeO.none _)
      | (with_reducible refine LeO.ite ?_ ?_)
      | (with_reducible refine LeO.bind ?_ (fun _ => ?_))
      | exact ih0 _ _
      | exact ih1 _ _
      | exact ih2 _ _ _
      | exact chinoiserielaw04_HeadFinds.mono _ _ _ _
      | exact chinoiserielaw04_HeadLines.mono _ _
      | exact chinoiserielaw04_HeadSets.mono _ _ _ _
      | exact chinoiserielaw04_works.mono _
      | exact chinoiserieref00_EqTexts.mono _ _ _
      | exact head_Same.mono _ _ _
      | exact LeO.none _
      | refine LeO.ite ?_ ?_
      | refine LeO.bind ?_ (fun _ => ?_)
def chinoiserielaw04_HeadNames.T16 : Bool × List (List Nat × List Nat) := (true, [([], []), ([], []), ([], []), ([1, 2], [1, 2]), ([3], [3]), ([], []), ([], []), ([6], [6]), ([5, 7], [5, 7]), ([4, 8], [4, 8]), ([9], [9]), ([0, 10], [0, 10]), ([11, 11, 0, 1, 2, 3, 4, 5, 6, 7, 8, 9, 10, 11], [0, 11])])
def chinoiserielaw04_HeadNames.B16 : List Nat := [0, 0, 0, 6, 14, 0, 0, 64, 224, 510, 1022, 2047, 4095]
theorem chinoiserielaw04_HeadNames.tab16 : rtab .any (opsOf Tryd.f9 16) = chinoiserielaw04_HeadNames.T16 := by kernel_rfl
theorem chinoiserielaw04_HeadNames.bits16 : waitsOk chinoiserielaw04_HeadNames.T16.2 chinoiserielaw04_HeadNames.B16 = true := by kernel_rfl
def chinoiserielaw04_HeadNames.T19 : Bool × List (List Nat × List Nat) := (true, [([], []), ([0], [0]), ([1], [1]), ([2, 1], [2]), ([3], [3]), ([4, 3], [3, 4]), ([5, 3, 3], [3, 5]), ([6, 3], [3, 6]), ([3, 7], [3, 7]), ([8, 6], [8]), ([9], [9]), ([10, 9], [9, 10]), ([9, 11], [9, 11]), ([12, 9], [12]), ([13], [13]), ([14, 13], [13, 14]), ([13, 15], [13, 15]), ([16, 13], [16]), ([17], [17]), ([18, 17], [17, 18]), ([19, 17], [17, 19]), ([17, 20], [17, 20]), ([21, 17], [21]), ([22], [22]), ([23, 22], [22, 23]), ([22], [22]), ([25, 22], [22, 25]), ([24, 26, 22], [22, 24, 26]), ([27, 22], [22, 27]), ([28, 22, 22], [22, 28]), ([29, 22], [22, 29]), ([22, 30], [22, 30]), ([31, 29], [31]), ([32], [32]), ([33, 32], [32, 33]), ([34, 32], [32, 34]), ([35, 32], [32, 35]), ([36, 32, 32], [32, 36]), ([37, 32], [32, 37]), ([32, 38], [32, 38]), ([39, 37], [39]), ([40], [40]), ([41, 40], [40, 41]), ([42, 40], [40, 42]), ([43, 40], [40, 43]), ([44, 40, 40], [40, 44]), ([45, 40], [40, 45]), ([40, 46], [40, 46]), ([47, 45], [47]), ([48], [48]), ([49, 48], [48, 49]), ([50, 48, 48], [48, 50]), ([51, 48], [48, 51]), ([48, 52], [48, 52]), ([53, 51, 0, 1, 2, 3, 4, 5, 6, 7, 8, 9, 10, 11, 12, 13, 14, 15, 16, 17, 18, 19, 20, 21, 22, 23, 24, 25, 26, 27, 28, 29, 30, 31, 32, 33, 34, 35, 36, 37, 38, 39, 40, 41, 42, 43, 44, 45, 46, 47, 48, 49, 50, 51, 52, 53], [53])])
def chinoiserielaw04_HeadNames.B19 : List Nat := [0, 1, 3, 7, 15, 31, 63, 127, 255, 511, 1023, 2047, 4095, 8191, 16383, 32767, 65535, 131071, 262143, 524287, 1048575, 2097151, 4194303, 8388607, 16777215, 8388607, 41943039, 134217727, 268435455, 536870911, 1073741823, 2147483647, 4294967295, 8589934591, 17179869183, 34359738367, 68719476735, 137438953471, 274877906943, 549755813887, 1099511627775, 2199023255551, 4398046511103, 8796093022207, 17592186044415, 35184372088831, 70368744177663, 140737488355327, 281474976710655, 562949953421311, 1125899906842623, 2251799813685247, 4503599627370495, 9007199254740991, 18014398509481983]
theorem chinoiserielaw04_HeadNames.tab19 : rtab .any (opsOf Tryd.f9 19) = chinoiserielaw04_HeadNames.T19 := by kernel_rfl
theorem chinoiserielaw04_HeadNames.bits19 : waitsOk chinoiserielaw04_HeadNames.T19.2 chinoiserielaw04_HeadNames.B19 = true := by kernel_rfl
def chinoiserielaw04_HeadNames.T20 : Bool × List (List Nat × List Nat) := (true, [([], []), ([0], [0]), ([1], [1]), ([2], [2]), ([], []), ([4], [4]), ([3, 5], [3, 5]), ([6, 6], [6]), ([7], [7]), ([8, 7], [7, 8]), ([7], [7]), ([10, 7], [7, 10]), ([9, 11, 7], [7, 9, 11]), ([12, 7, 7], [7, 12]), ([7, 13], [7, 13]), ([14, 13], [14]), ([15], [15]), ([16, 15], [15, 16]), ([17, 15], [15, 17]), ([18, 15], [15, 18]), ([19, 15, 15], [15, 19]), ([15, 20], [15, 20]), ([21, 20], [21]), ([22, 22], [22]), ([22, 23], [22, 23]), ([24, 23], [24]), ([25, 25], [25]), ([25, 26], [25, 26]), ([27, 26], [27]), ([28], [28]), ([29, 28, 28], [28, 29]), ([30, 28], [28, 30]), ([31, 28], [28, 31]), ([28, 32], [28, 32]), ([33, 30], [33]), ([34], [34]), ([35, 34, 34], [34, 35]), ([34, 36], [34, 36]), ([37, 36, 0, 1, 2, 3, 4, 5, 6, 7, 8, 9, 10, 11, 12, 13, 14, 15, 16, 17, 18, 19, 20, 21, 22, 23, 24, 25, 26, 27, 28, 29, 30, 31, 32, 33, 34, 35, 36, 37], [37])])
def chinoiserielaw04_HeadNames.B20 : List Nat := [0, 1, 3, 7, 0, 16, 63, 127, 255, 511, 255, 1279, 4095, 8191, 16383, 32767, 65535, 131071, 262143, 524287, 1048575, 2097151, 4194303, 8388607, 16777215, 33554431, 67108863, 134217727, 268435455, 536870911, 1073741823, 2147483647, 4294967295, 8589934591, 17179869183, 34359738367, 68719476735, 137438953471, 274877906943]
theorem chinoiserielaw04_HeadNames.tab20 : rtab .any (opsOf Tryd.f9 20) = chinoiserielaw04_HeadNames.T20 := by kernel_rfl
theorem chinoiserielaw04_HeadNames.bits20 : waitsOk chinoiserielaw04_HeadNames.T20.2 chinoiserielaw04_HeadNames.B20 = true := by kernel_rfl
set_option maxHeartbeats 8000000 in
set_option maxRecDepth 100000 in
theorem chinoiserielaw04_HeadNames.calls (k : Nat)  (r : Bool) (w : World) (h : chinoiserielaw04_HeadNames.f k  = some r) (hr_ : r = true := by rfl) :
    Calls Tryd.prog 9 #[] w fun e w' => e = .returned (.bool r) ∧ Below w.heap.size w w' := by
  have hu28 := Tryd.underlying28
  have HB := Aside0.mk (Below.refl w.heap.size w)
  have H : (chinoiserielaw04_HeadNames.l0 k (⟨#[]⟩ : ByteArray) 0) = some r := h
  clear h
  have H' := Aside0.mk H
  clear H
  go_enter Tryd.func9, Tryd.ntmps9
  go_wp2
  go_loopg [1, 2] k (fun kq v1 v2 w' => ∃ (x1_1 : ByteArray) (x2_1 : Int), v1 = .string x1_1 ∧ v2 = .int .i64 x2_1 ∧ Aside0 (chinoiserielaw04_HeadNames.l0 kq x1_1 x2_1 = some r) ∧ Aside0 (kq ≤ k) ∧ Aside0 (Below w.heap.size w w'))
  case atStart => exact ⟨((⟨#[]⟩ : ByteArray)), (0), (by first | rfl | (simp; done) | (simp [*]; done)), (by first | rfl | (simp; done) | (simp [*]; done)), H', ⟨Nat.le_refl _⟩, ⟨by repeat (first | (with_reducible first | exact HB.out | apply below_alloc | apply pw_below_drewN | apply below_drew1) | exact HB.out)⟩⟩
  clear H'
  obtain ⟨x1_1, x2_1, rfl, rfl, HA, HK1, HB⟩ := hrel
  cases gk with
  | zero => exact absurd HA.out (by simp [chinoiserielaw04_HeadNames.l0])
  | succ k1 =>
    have H := HA.out
    clear HA
    simp only [chinoiserielaw04_HeadNames.l0] at H
    by_cases c1 : x2_1 < 250
    · rw [if_pos c1] at H
      have c1b0 : decide (x2_1 < 250) = true := decide_eq_true c1
      clear c1
      by_cases c2 : x1_1.size + 1 ≤ 9223372036854775807
      rotate_left
      · rw [if_neg c2] at H
        exact absurd H (by simp)
      rw [if_pos c2] at H
      have c2b0 := eq_true c2
      have c2b1 : decide (x1_1.size + 1 ≤ 9223372036854775807) = true := decide_eq_true c2
      try have c2b2 : (9223372036854775807 < x1_1.size + 1) = False := eq_false (Nat.not_lt.2 c2)
      have H' := Aside0.mk H
      clear H
      go_wp2
      go_roundg k1
      case measure => have := HK1.out; omega
      case rel => exact ⟨(x1_1 ++ (⟨#[97]⟩ : ByteArray)), (wrap64 (x2_1 + 1)), (by first | rfl | (simp; done) | (simp [*]; done)), (by first | rfl | (simp; done) | (simp [*]; done)), H', ⟨by have := HK1.out; omega⟩, ⟨by repeat (first | (with_reducible first | exact HB.out | apply below_alloc | apply pw_below_drewN | apply below_drew1) | exact HB.out)⟩⟩
    rw [if_neg c1] at H
    have c1b0 : decide (x2_1 < 250) = false := decide_eq_false c1
    clear c1
    have H' := Aside0.mk H
    clear H
    go_wp2
    go_loopg [3] k1 (fun kq v3 w' => ∃ (x3_2 : Int), v3 = .int .i64 x3_2 ∧ Aside0 (chinoiserielaw04_HeadNames.l1 kq x1_1 x3_2 = some r) ∧ Aside0 (kq ≤ k1) ∧ Aside0 (Below w.heap.size w w'))
    case atStart => exact ⟨(0), (by first | rfl | (simp; done) | (simp [*]; done)), H', ⟨Nat.le_refl _⟩, ⟨by repeat (first | (with_reducible first | exact HB.out | apply below_alloc | apply pw_below_drewN | apply below_drew1) | exact HB.out)⟩⟩
    clear H'
    try clear c1
    try clear c1b0
    try clear c2
    try clear c2b0
    try clear c2b1
    try clear c2b2
    try clear p2
    obtain ⟨x3_2, rfl, HA, HK2, HB⟩ := hrel
    cases gk with
    | zero => exact absurd HA.out (by simp [chinoiserielaw04_HeadNames.l1])
    | succ k2 =>
      have H := HA.out
      clear HA
      simp only [chinoiserielaw04_HeadNames.l1] at H
      by_cases c3 : x3_2 < 256
      · rw [if_pos c3] at H
        have c3b0 : decide (x3_2 < 256) = true := decide_eq_true c3
        clear c3
        obtain ⟨y350, hy350⟩ : ∃ y_ : List Int, y_ = (([(x3_2) % 256] : List Int)) := ⟨_, rfl⟩
        replace H : (if 1 + (strOfNums y350).size ≤ 9223372036854775807 then (if ((⟨#[97]⟩ : ByteArray) ++ (strOfNums y350)).size + 3 ≤ 9223372036854775807 then ((chinoiserielaw04_HeadLines.f k2 (((⟨#[97]⟩ : ByteArray) ++ (strOfNums y350)) ++ (⟨#[58, 32, 120]⟩ : ByteArray))).bind fun t353 => (if t353 = true then (if 4 + (strOfNums y350).size ≤ 9223372036854775807 then (if ((⟨#[97, 58, 32, 120]⟩ : ByteArray) ++ (strOfNums y350)).size + 1 ≤ 9223372036854775807 then ((chinoiserielaw04_HeadLines.f k2 (((⟨#[97, 58, 32, 120]⟩ : ByteArray) ++ (strOfNums y350)) ++ (⟨#[121]⟩ : ByteArray))).bind fun t354 => (if t354 = true then (if 3 + (strOfNums y350).size ≤ 9223372036854775807 then ((chinoiserielaw04_HeadLines.f k2 ((⟨#[97, 58, 32]⟩ : ByteArray) ++ (strOfNums y350))).bind fun t355 => (if t355 = true then (if 2 + (strOfNums y350).size ≤ 9223372036854775807 then (if ((⟨#[97, 58]⟩ : ByteArray) ++ (strOfNums y350)).size + 1 ≤ 9223372036854775807 then (if (((⟨#[97, 58]⟩ : ByteArray) ++ (strOfNums y350)) ++ (⟨#[121]⟩ : ByteArray)).size + (strOfNums y350).size ≤ 9223372036854775807 then ((chinoiserielaw04_HeadLines.f k2 ((((⟨#[97, 58]⟩ : ByteArray) ++ (strOfNums y350)) ++ (⟨#[121]⟩ : ByteArray)) ++ (strOfNums y350))).bind fun t356 => (if t356 = true then ((chinoiserielaw04_HeadSets.f k2 ([] : List (S28)) ((⟨#[97]⟩ : ByteArray) ++ (strOfNums y350)) (⟨#[120]⟩ : ByteArray)).bind fun t357 => (if t357 = true then ((chinoiserielaw04_HeadSets.f k2 ([] : List (S28)) (⟨#[97]⟩ : ByteArray) (strOfNums y350)).bind fun t358 => (if t358 = true then ((chinoiserielaw04_HeadFinds.f k2 (([(⟨strOfNums y350, strOfNums y350⟩ : S28)] : List (S28))) ([] : List (S28)) (strOfNums y350)).bind fun t362 => (if t362 = true then (chinoiserielaw04_HeadNames.l1 k2 x1_1 (wrap64 (x3_2 + 1))) else (some false))) else (none))) else (none))) else (none))) else (none)) else (none)) else (none)) else (none))) else (none)) else (none))) else (none)) else (none)) else (none))) else (none)) else (none)) = some r := by first | (rw [hy350]; with_reducible exact H) | (have H2_ := (Option.bind_some _ _).symm.trans H; rw [hy350]; with_reducible exact H2_) | (have H2_ := (Option.bind_some _ _).symm.trans H; with_reducible exact H2_) | with_reducible exact H | (rw [hy350]; exact H) | exact H
        have Ny350 := Aside0.mk hy350
        clear hy350
        by_cases c4 : 1 + (strOfNums y350).size ≤ 9223372036854775807
        rotate_left
        · rw [if_neg c4] at H
          exact absurd H (by simp)
        rw [if_pos c4] at H
        have c4b0 := eq_true c4
        have c4b1 : decide (1 + (strOfNums y350).size ≤ 9223372036854775807) = true := decide_eq_true c4
        try have c4b2 : (9223372036854775807 < 1 + (strOfNums y350).size) = False := eq_false (Nat.not_lt.2 c4)
        by_cases c5 : ((⟨#[97]⟩ : ByteArray) ++ (strOfNums y350)).size + 3 ≤ 9223372036854775807
        rotate_left
        · rw [if_neg c5] at H
          exact absurd H (by simp)
        rw [if_pos c5] at H
        have c5b0 := eq_true c5
        have c5b1 : decide (((⟨#[97]⟩ : ByteArray) ++ (strOfNums y350)).size + 3 ≤ 9223372036854775807) = true := decide_eq_true c5
        try have c5b2 : (9223372036854775807 < ((⟨#[97]⟩ : ByteArray) ++ (strOfNums y350)).size + 3) = False := eq_false (Nat.not_lt.2 c5)
        try have c5b3 : (9223372036854775807 < 1 + (strOfNums y350).size + 3) = False := eq_false (fun h_ => absurd c5 (by simp only [ByteArray.size_append]; exact Nat.not_le.2 h_))
        replace H := Option.bind_eq_some_iff.mp H
        obtain ⟨t353, A60, H⟩ := H
        replace H : (if t353 = true then (if 4 + (strOfNums y350).size ≤ 9223372036854775807 then (if ((⟨#[97, 58, 32, 120]⟩ : ByteArray) ++ (strOfNums y350)).size + 1 ≤ 9223372036854775807 then ((chinoiserielaw04_HeadLines.f k2 (((⟨#[97, 58, 32, 120]⟩ : ByteArray) ++ (strOfNums y350)) ++ (⟨#[121]⟩ : ByteArray))).bind fun t354 => (if t354 = true then (if 3 + (strOfNums y350).size ≤ 9223372036854775807 then ((chinoiserielaw04_HeadLines.f k2 ((⟨#[97, 58, 32]⟩ : ByteArray) ++ (strOfNums y350))).bind fun t355 => (if t355 = true then (if 2 + (strOfNums y350).size ≤ 9223372036854775807 then (if ((⟨#[97, 58]⟩ : ByteArray) ++ (strOfNums y350)).size + 1 ≤ 9223372036854775807 then (if (((⟨#[97, 58]⟩ : ByteArray) ++ (strOfNums y350)) ++ (⟨#[121]⟩ : ByteArray)).size + (strOfNums y350).size ≤ 9223372036854775807 then ((chinoiserielaw04_HeadLines.f k2 ((((⟨#[97, 58]⟩ : ByteArray) ++ (strOfNums y350)) ++ (⟨#[121]⟩ : ByteArray)) ++ (strOfNums y350))).bind fun t356 => (if t356 = true then ((chinoiserielaw04_HeadSets.f k2 ([] : List (S28)) ((⟨#[97]⟩ : ByteArray) ++ (strOfNums y350)) (⟨#[120]⟩ : ByteArray)).bind fun t357 => (if t357 = true then ((chinoiserielaw04_HeadSets.f k2 ([] : List (S28)) (⟨#[97]⟩ : ByteArray) (strOfNums y350)).bind fun t358 => (if t358 = true then ((chinoiserielaw04_HeadFinds.f k2 (([(⟨strOfNums y350, strOfNums y350⟩ : S28)] : List (S28))) ([] : List (S28)) (strOfNums y350)).bind fun t362 => (if t362 = true then (chinoiserielaw04_HeadNames.l1 k2 x1_1 (wrap64 (x3_2 + 1))) else (some false))) else (none))) else (none))) else (none))) else (none)) else (none)) else (none)) else (none))) else (none)) else (none))) else (none)) else (none)) else (none)) = some r := H
        have A6 := Aside0.mk A60
        clear A60
        by_cases c7 : t353 = true
        rotate_left
        · replace c7 := Bool.eq_false_iff.mpr c7
          subst c7
          have H1 : (none) = some r := by rw [if_neg (show ¬ (false = true) by decide)] at H; exact H
          clear H
          have H := H1
          clear H1
          exact absurd H (by simp)
        subst c7
        have H1 : (if 4 + (strOfNums y350).size ≤ 9223372036854775807 then (if ((⟨#[97, 58, 32, 120]⟩ : ByteArray) ++ (strOfNums y350)).size + 1 ≤ 9223372036854775807 then ((chinoiserielaw04_HeadLines.f k2 (((⟨#[97, 58, 32, 120]⟩ : ByteArray) ++ (strOfNums y350)) ++ (⟨#[121]⟩ : ByteArray))).bind fun t354 => (if t354 = true then (if 3 + (strOfNums y350).size ≤ 9223372036854775807 then ((chinoiserielaw04_HeadLines.f k2 ((⟨#[97, 58, 32]⟩ : ByteArray) ++ (strOfNums y350))).bind fun t355 => (if t355 = true then (if 2 + (strOfNums y350).size ≤ 9223372036854775807 then (if ((⟨#[97, 58]⟩ : ByteArray) ++ (strOfNums y350)).size + 1 ≤ 9223372036854775807 then (if (((⟨#[97, 58]⟩ : ByteArray) ++ (strOfNums y350)) ++ (⟨#[121]⟩ : ByteArray)).size + (strOfNums y350).size ≤ 9223372036854775807 then ((chinoiserielaw04_HeadLines.f k2 ((((⟨#[97, 58]⟩ : ByteArray) ++ (strOfNums y350)) ++ (⟨#[121]⟩ : ByteArray)) ++ (strOfNums y350))).bind fun t356 => (if t356 = true then ((chinoiserielaw04_HeadSets.f k2 ([] : List (S28)) ((⟨#[97]⟩ : ByteArray) ++ (strOfNums y350)) (⟨#[120]⟩ : ByteArray)).bind fun t357 => (if t357 = true then ((chinoiserielaw04_HeadSets.f k2 ([] : List (S28)) (⟨#[97]⟩ : ByteArray) (strOfNums y350)).bind fun t358 => (if t358 = true then ((chinoiserielaw04_HeadFinds.f k2 (([(⟨strOfNums y350, strOfNums y350⟩ : S28)] : List (S28))) ([] : List (S28)) (strOfNums y350)).bind fun t362 => (if t362 = true then (chinoiserielaw04_HeadNames.l1 k2 x1_1 (wrap64 (x3_2 + 1))) else (some false))) else (none))) else (none))) else (none))) else (none)) else (none)) else (none)) else (none))) else (none)) else (none))) else (none)) else (none)) = some r := by rw [if_pos rfl] at H; exact H
        clear H
        have H := H1
        clear H1
        by_cases c8 : 4 + (strOfNums y350).size ≤ 9223372036854775807
        rotate_left
        · rw [if_neg c8] at H
          exact absurd H (by simp)
        rw [if_pos c8] at H
        have c8b0 := eq_true c8
        have c8b1 : decide (4 + (strOfNums y350).size ≤ 9223372036854775807) = true := decide_eq_true c8
        try have c8b2 : (9223372036854775807 < 4 + (strOfNums y350).size) = False := eq_false (Nat.not_lt.2 c8)
        by_cases c9 : ((⟨#[97, 58, 32, 120]⟩ : ByteArray) ++ (strOfNums y350)).size + 1 ≤ 9223372036854775807
        rotate_left
        · rw [if_neg c9] at H
          exact absurd H (by simp)
        rw [if_pos c9] at H
        have c9b0 := eq_true c9
        have c9b1 : decide (((⟨#[97, 58, 32, 120]⟩ : ByteArray) ++ (strOfNums y350)).size + 1 ≤ 9223372036854775807) = true := decide_eq_true c9
        try have c9b2 : (9223372036854775807 < ((⟨#[97, 58, 32, 120]⟩ : ByteArray) ++ (strOfNums y350)).size + 1) = False := eq_false (Nat.not_lt.2 c9)
        try have c9b3 : (9223372036854775807 < 4 + (strOfNums y350).size + 1) = False := eq_false (fun h_ => absurd c9 (by simp only [ByteArray.size_append]; exact Nat.not_le.2 h_))
        replace H := Option.bind_eq_some_iff.mp H
        obtain ⟨t354, A100, H⟩ := H
        replace H : (if t354 = true then (if 3 + (strOfNums y350).size ≤ 9223372036854775807 then ((chinoiserielaw04_HeadLines.f k2 ((⟨#[97, 58, 32]⟩ : ByteArray) ++ (strOfNums y350))).bind fun t355 => (if t355 = true then (if 2 + (strOfNums y350).size ≤ 9223372036854775807 then (if ((⟨#[97, 58]⟩ : ByteArray) ++ (strOfNums y350)).size + 1 ≤ 9223372036854775807 then (if (((⟨#[97, 58]⟩ : ByteArray) ++ (strOfNums y350)) ++ (⟨#[121]⟩ : ByteArray)).size + (strOfNums y350).size ≤ 9223372036854775807 then ((chinoiserielaw04_HeadLines.f k2 ((((⟨#[97, 58]⟩ : ByteArray) ++ (strOfNums y350)) ++ (⟨#[121]⟩ : ByteArray)) ++ (strOfNums y350))).bind fun t356 => (if t356 = true then ((chinoiserielaw04_HeadSets.f k2 ([] : List (S28)) ((⟨#[97]⟩ : ByteArray) ++ (strOfNums y350)) (⟨#[120]⟩ : ByteArray)).bind fun t357 => (if t357 = true then ((chinoiserielaw04_HeadSets.f k2 ([] : List (S28)) (⟨#[97]⟩ : ByteArray) (strOfNums y350)).bind fun t358 => (if t358 = true then ((chinoiserielaw04_HeadFinds.f k2 (([(⟨strOfNums y350, strOfNums y350⟩ : S28)] : List (S28))) ([] : List (S28)) (strOfNums y350)).bind fun t362 => (if t362 = true then (chinoiserielaw04_HeadNames.l1 k2 x1_1 (wrap64 (x3_2 + 1))) else (some false))) else (none))) else (none))) else (none))) else (none)) else (none)) else (none)) else (none))) else (none)) else (none)) = some r := H
        have A10 := Aside0.mk A100
        clear A100
        by_cases c11 : t354 = true
        rotate_left
        · replace c11 := Bool.eq_false_iff.mpr c11
          subst c11
          have H1 : (none) = some r := by rw [if_neg (show ¬ (false = true) by decide)] at H; exact H
          clear H
          have H := H1
          clear H1
          exact absurd H (by simp)
        subst c11
        have H1 : (if 3 + (strOfNums y350).size ≤ 9223372036854775807 then ((chinoiserielaw04_HeadLines.f k2 ((⟨#[97, 58, 32]⟩ : ByteArray) ++ (strOfNums y350))).bind fun t355 => (if t355 = true then (if 2 + (strOfNums y350).size ≤ 9223372036854775807 then (if ((⟨#[97, 58]⟩ : ByteArray) ++ (strOfNums y350)).size + 1 ≤ 9223372036854775807 then (if (((⟨#[97, 58]⟩ : ByteArray) ++ (strOfNums y350)) ++ (⟨#[121]⟩ : ByteArray)).size + (strOfNums y350).size ≤ 9223372036854775807 then ((chinoiserielaw04_HeadLines.f k2 ((((⟨#[97, 58]⟩ : ByteArray) ++ (strOfNums y350)) ++ (⟨#[121]⟩ : ByteArray)) ++ (strOfNums y350))).bind fun t356 => (if t356 = true then ((chinoiserielaw04_HeadSets.f k2 ([] : List (S28)) ((⟨#[97]⟩ : ByteArray) ++ (strOfNums y350)) (⟨#[120]⟩ : ByteArray)).bind fun t357 => (if t357 = true then ((chinoiserielaw04_HeadSets.f k2 ([] : List (S28)) (⟨#[97]⟩ : ByteArray) (strOfNums y350)).bind fun t358 => (if t358 = true then ((chinoiserielaw04_HeadFinds.f k2 (([(⟨strOfNums y350, strOfNums y350⟩ : S28)] : List (S28))) ([] : List (S28)) (strOfNums y350)).bind fun t362 => (if t362 = true then (chinoiserielaw04_HeadNames.l1 k2 x1_1 (wrap64 (x3_2 + 1))) else (some false))) else (none))) else (none))) else (none))) else (none)) else (none)) else (none)) else (none))) else (none)) = some r := by rw [if_pos rfl] at H; exact H
        clear H
        have H := H1
        clear H1
        by_cases c12 : 3 + (strOfNums y350).size ≤ 9223372036854775807
        rotate_left
        · rw [if_neg c12] at H
          exact absurd H (by simp)
        rw [if_pos c12] at H
        have c12b0 := eq_true c12
        have c12b1 : decide (3 + (strOfNums y350).size ≤ 9223372036854775807) = true := decide_eq_true c12
        try have c12b2 : (9223372036854775807 < 3 + (strOfNums y350).size) = False := eq_false (Nat.not_lt.2 c12)
        replace H := Option.bind_eq_some_iff.mp H
        obtain ⟨t355, A130, H⟩ := H
        replace H : (if t355 = true then (if 2 + (strOfNums y350).size ≤ 9223372036854775807 then (if ((⟨#[97, 58]⟩ : ByteArray) ++ (strOfNums y350)).size + 1 ≤ 9223372036854775807 then (if (((⟨#[97, 58]⟩ : ByteArray) ++ (strOfNums y350)) ++ (⟨#[121]⟩ : ByteArray)).size + (strOfNums y350).size ≤ 9223372036854775807 then ((chinoiserielaw04_HeadLines.f k2 ((((⟨#[97, 58]⟩ : ByteArray) ++ (strOfNums y350)) ++ (⟨#[121]⟩ : ByteArray)) ++ (strOfNums y350))).bind fun t356 => (if t356 = true then ((chinoiserielaw04_HeadSets.f k2 ([] : List (S28)) ((⟨#[97]⟩ : ByteArray) ++ (strOfNums y350)) (⟨#[120]⟩ : ByteArray)).bind fun t357 => (if t357 = true then ((chinoiserielaw04_HeadSets.f k2 ([] : List (S28)) (⟨#[97]⟩ : ByteArray) (strOfNums y350)).bind fun t358 => (if t358 = true then ((chinoiserielaw04_HeadFinds.f k2 (([(⟨strOfNums y350, strOfNums y350⟩ : S28)] : List (S28))) ([] : List (S28)) (strOfNums y350)).bind fun t362 => (if t362 = true then (chinoiserielaw04_HeadNames.l1 k2 x1_1 (wrap64 (x3_2 + 1))) else (some false))) else (none))) else (none))) else (none))) else (none)) else (none)) else (none)) else (none)) = some r := H
        have A13 := Aside0.mk A130
        clear A130
        by_cases c14 : t355 = true
        rotate_left
        · replace c14 := Bool.eq_false_iff.mpr c14
          subst c14
          have H1 : (none) = some r := by rw [if_neg (show ¬ (false = true) by decide)] at H; exact H
          clear H
          have H := H1
          clear H1
          exact absurd H (by simp)
        subst c14
        have H1 : (if 2 + (strOfNums y350).size ≤ 9223372036854775807 then (if ((⟨#[97, 58]⟩ : ByteArray) ++ (strOfNums y350)).size + 1 ≤ 9223372036854775807 then (if (((⟨#[97, 58]⟩ : ByteArray) ++ (strOfNums y350)) ++ (⟨#[121]⟩ : ByteArray)).size + (strOfNums y350).size ≤ 9223372036854775807 then ((chinoiserielaw04_HeadLines.f k2 ((((⟨#[97, 58]⟩ : ByteArray) ++ (strOfNums y350)) ++ (⟨#[121]⟩ : ByteArray)) ++ (strOfNums y350))).bind fun t356 => (if t356 = true then ((chinoiserielaw04_HeadSets.f k2 ([] : List (S28)) ((⟨#[97]⟩ : ByteArray) ++ (strOfNums y350)) (⟨#[120]⟩ : ByteArray)).bind fun t357 => (if t357 = true then ((chinoiserielaw04_HeadSets.f k2 ([] : List (S28)) (⟨#[97]⟩ : ByteArray) (strOfNums y350)).bind fun t358 => (if t358 = true then ((chinoiserielaw04_HeadFinds.f k2 (([(⟨strOfNums y350, strOfNums y350⟩ : S28)] : List (S28))) ([] : List (S28)) (strOfNums y350)).bind fun t362 => (if t362 = true then (chinoiserielaw04_HeadNames.l1 k2 x1_1 (wrap64 (x3_2 + 1))) else (some false))) else (none))) else (none))) else (none))) else (none)) else (none)) else (none)) = some r := by rw [if_pos rfl] at H; exact H
        clear H
        have H := H1
        clear H1
        by_cases c15 : 2 + (strOfNums y350).size ≤ 9223372036854775807
        rotate_left
        · rw [if_neg c15] at H
          exact absurd H (by simp)
        rw [if_pos c15] at H
        have c15b0 := eq_true c15
        have c15b1 : decide (2 + (strOfNums y350).size ≤ 9223372036854775807) = true := decide_eq_true c15
        try have c15b2 : (9223372036854775807 < 2 + (strOfNums y350).size) = False := eq_false (Nat.not_lt.2 c15)
        by_cases c16 : ((⟨#[97, 58]⟩ : ByteArray) ++ (strOfNums y350)).size + 1 ≤ 9223372036854775807
        rotate_left
        · rw [if_neg c16] at H
          exact absurd H (by simp)
        rw [if_pos c16] at H
        have c16b0 := eq_true c16
        have c16b1 : decide (((⟨#[97, 58]⟩ : ByteArray) ++ (strOfNums y350)).size + 1 ≤ 9223372036854775807) = true := decide_eq_true c16
        try have c16b2 : (9223372036854775807 < ((⟨#[97, 58]⟩ : ByteArray) ++ (strOfNums y350)).size + 1) = False := eq_false (Nat.not_lt.2 c16)
        try have c16b3 : (9223372036854775807 < 2 + (strOfNums y350).size + 1) = False := eq_false (fun h_ => absurd c16 (by simp only [ByteArray.size_append]; exact Nat.not_le.2 h_))
        by_cases c17 : (((⟨#[97, 58]⟩ : ByteArray) ++ (strOfNums y350)) ++ (⟨#[121]⟩ : ByteArray)).size + (strOfNums y350).size ≤ 9223372036854775807
        rotate_left
        · rw [if_neg c17] at H
          exact absurd H (by simp)
        rw [if_pos c17] at H
        have c17b0 := eq_true c17
        have c17b1 : decide ((((⟨#[97, 58]⟩ : ByteArray) ++ (strOfNums y350)) ++ (⟨#[121]⟩ : ByteArray)).size + (strOfNums y350).size ≤ 9223372036854775807) = true := decide_eq_true c17
        try have c17b2 : (9223372036854775807 < (((⟨#[97, 58]⟩ : ByteArray) ++ (strOfNums y350)) ++ (⟨#[121]⟩ : ByteArray)).size + (strOfNums y350).size) = False := eq_false (Nat.not_lt.2 c17)
        try have c17b3 : (9223372036854775807 < 2 + (strOfNums y350).size + 1 + (strOfNums y350).size) = False := eq_false (fun h_ => absurd c17 (by simp only [ByteArray.size_append]; exact Nat.not_le.2 h_))
        replace H := Option.bind_eq_some_iff.mp H
        obtain ⟨t356, A180, H⟩ := H
        replace H : (if t356 = true then ((chinoiserielaw04_HeadSets.f k2 ([] : List (S28)) ((⟨#[97]⟩ : ByteArray) ++ (strOfNums y350)) (⟨#[120]⟩ : ByteArray)).bind fun t357 => (if t357 = true then ((chinoiserielaw04_HeadSets.f k2 ([] : List (S28)) (⟨#[97]⟩ : ByteArray) (strOfNums y350)).bind fun t358 => (if t358 = true then ((chinoiserielaw04_HeadFinds.f k2 (([(⟨strOfNums y350, strOfNums y350⟩ : S28)] : List (S28))) ([] : List (S28)) (strOfNums y350)).bind fun t362 => (if t362 = true then (chinoiserielaw04_HeadNames.l1 k2 x1_1 (wrap64 (x3_2 + 1))) else (some false))) else (none))) else (none))) else (none)) = some r := H
        have A18 := Aside0.mk A180
        clear A180
        by_cases c19 : t356 = true
        rotate_left
        · replace c19 := Bool.eq_false_iff.mpr c19
          subst c19
          have H1 : (none) = some r := by rw [if_neg (show ¬ (false = true) by decide)] at H; exact H
          clear H
          have H := H1
          clear H1
          exact absurd H (by simp)
        subst c19
        have H1 : ((chinoiserielaw04_HeadSets.f k2 ([] : List (S28)) ((⟨#[97]⟩ : ByteArray) ++ (strOfNums y350)) (⟨#[120]⟩ : ByteArray)).bind fun t357 => (if t357 = true then ((chinoiserielaw04_HeadSets.f k2 ([] : List (S28)) (⟨#[97]⟩ : ByteArray) (strOfNums y350)).bind fun t358 => (if t358 = true then ((chinoiserielaw04_HeadFinds.f k2 (([(⟨strOfNums y350, strOfNums y350⟩ : S28)] : List (S28))) ([] : List (S28)) (strOfNums y350)).bind fun t362 => (if t362 = true then (chinoiserielaw04_HeadNames.l1 k2 x1_1 (wrap64 (x3_2 + 1))) else (some false))) else (none))) else (none))) = some r := by rw [if_pos rfl] at H; exact H
        clear H
        have H := H1
        clear H1
        replace H := Option.bind_eq_some_iff.mp H
        obtain ⟨t357, A200, H⟩ := H
        replace H : (if t357 = true then ((chinoiserielaw04_HeadSets.f k2 ([] : List (S28)) (⟨#[97]⟩ : ByteArray) (strOfNums y350)).bind fun t358 => (if t358 = true then ((chinoiserielaw04_HeadFinds.f k2 (([(⟨strOfNums y350, strOfNums y350⟩ : S28)] : List (S28))) ([] : List (S28)) (strOfNums y350)).bind fun t362 => (if t362 = true then (chinoiserielaw04_HeadNames.l1 k2 x1_1 (wrap64 (x3_2 + 1))) else (some false))) else (none))) else (none)) = some r := H
        have A20 := Aside0.mk A200
        clear A200
        by_cases c21 : t357 = true
        rotate_left
        · replace c21 := Bool.eq_false_iff.mpr c21
          subst c21
          have H1 : (none) = some r := by rw [if_neg (show ¬ (false = true) by decide)] at H; exact H
          clear H
          have H := H1
          clear H1
          exact absurd H (by simp)
        subst c21
        have H1 : ((chinoiserielaw04_HeadSets.f k2 ([] : List (S28)) (⟨#[97]⟩ : ByteArray) (strOfNums y350)).bind fun t358 => (if t358 = true then ((chinoiserielaw04_HeadFinds.f k2 (([(⟨strOfNums y350, strOfNums y350⟩ : S28)] : List (S28))) ([] : List (S28)) (strOfNums y350)).bind fun t362 => (if t362 = true then (chinoiserielaw04_HeadNames.l1 k2 x1_1 (wrap64 (x3_2 + 1))) else (some false))) else (none))) = some r := by rw [if_pos rfl] at H; exact H
        clear H
        have H := H1
        clear H1
        replace H := Option.bind_eq_some_iff.mp H
        obtain ⟨t358, A220, H⟩ := H
        replace H : (if t358 = true then ((chinoiserielaw04_HeadFinds.f k2 (([(⟨strOfNums y350, strOfNums y350⟩ : S28)] : List (S28))) ([] : List (S28)) (strOfNums y350)).bind fun t362 => (if t362 = true then (chinoiserielaw04_HeadNames.l1 k2 x1_1 (wrap64 (x3_2 + 1))) else (some false))) else (none)) = some r := H
        have A22 := Aside0.mk A220
        clear A220
        by_cases c23 : t358 = true
        rotate_left
        · replace c23 := Bool.eq_false_iff.mpr c23
          subst c23
          have H1 : (none) = some r := by rw [if_neg (show ¬ (false = true) by decide)] at H; exact H
          clear H
          have H := H1
          clear H1
          exact absurd H (by simp)
        subst c23
        have H1 : ((chinoiserielaw04_HeadFinds.f k2 (([(⟨strOfNums y350, strOfNums y350⟩ : S28)] : List (S28))) ([] : List (S28)) (strOfNums y350)).bind fun t362 => (if t362 = true then (chinoiserielaw04_HeadNames.l1 k2 x1_1 (wrap64 (x3_2 + 1))) else (some false))) = some r := by rw [if_pos rfl] at H; exact H
        clear H
        have H := H1
        clear H1
        obtain ⟨y359, hy359⟩ : ∃ y_ : List (S28), y_ = (([(⟨strOfNums y350, strOfNums y350⟩ : S28)] : List (S28))) := ⟨_, rfl⟩
        replace H : ((chinoiserielaw04_HeadFinds.f k2 y359 ([] : List (S28)) (strOfNums y350)).bind fun t362 => (if t362 = true then (chinoiserielaw04_HeadNames.l1 k2 x1_1 (wrap64 (x3_2 + 1))) else (some false))) = some r := by first | (rw [hy359]; with_reducible exact H) | (have H2_ := (Option.bind_some _ _).symm.trans H; rw [hy359]; with_reducible exact H2_) | (have H2_ := (Option.bind_some _ _).symm.trans H; with_reducible exact H2_) | with_reducible exact H | (rw [hy359]; exact H) | exact H
        have Ny359 := Aside0.mk hy359
        clear hy359
        replace H := Option.bind_eq_some_iff.mp H
        obtain ⟨t362, A240, H⟩ := H
        replace H : (if t362 = true then (chinoiserielaw04_HeadNames.l1 k2 x1_1 (wrap64 (x3_2 + 1))) else (some false)) = some r := H
        have A24 := Aside0.mk A240
        clear A240
        by_cases c25 : t362 = true
        rotate_left
        · replace c25 := Bool.eq_false_iff.mpr c25
          subst c25
          have H1 : (some false) = some r := by rw [if_neg (show ¬ (false = true) by decide)] at H; exact H
          clear H
          have H := H1
          clear H1
          exact absurd (Option.some.inj H) (by rw [hr_]; decide)
        subst c25
        have H1 : (chinoiserielaw04_HeadNames.l1 k2 x1_1 (wrap64 (x3_2 + 1))) = some r := by rw [if_pos rfl] at H; exact H
        clear H
        have H := H1
        clear H1
        have H' := Aside0.mk H
        clear H
        go_wp2_with (first | ((with_reducible refine gate_dst (N := 25) rfl ?_); refine Kd.R_lit (Kd.int .u8) _ 5 ?hg (N := 25) ?hd (xs := ([(x3_2) % 256] : List Int)) (inner := [.int .u8 ((x3_2) % 256)]) (ok := fun _ => True) (okp := fun _ => True) ?hr ?hp (fun _ hk => hk) trivial (Below.refl _ _) (Nat.le_refl _) (by simp) ?_; (case hd => rfl); (case hg => rfl); (case hr => first | (go_simp; done) | (go_simp; rfl)); (case hp => exact (Reps.one (show Kd.M (Kd.int .u8) _ _ _ ((x3_2) % 256) [.int .u8 ((x3_2) % 256)] from rfl) (Reps.none _ _))); intro v351 w26 ho27 hb hg_ hnew_; clear hg_ hnew_; (first | rw [← Ny350.out] at ho27 | (simp only [Int.reduceToNat] at ho27; rw [← Ny350.out] at ho27)); have n0_ := Aside0.mk (Kd.R_lower ho27 (below_size (by repeat (first | (with_reducible first | exact HB.out | apply below_alloc | apply pw_below_drewN | apply below_drew1) | exact HB.out)))); have n1_ := Aside0.mk (below_step (by repeat (first | (with_reducible first | exact HB.out | apply below_alloc | apply pw_below_drewN | apply below_drew1) | exact HB.out)) hb); clear HB; have HO352 := n0_; have HB := n1_; clear n0_ n1_; clear hb ho27; have hcv28 := own_string (P := Tryd.prog) Tryd.underlying38 Tryd.underlying5 Tryd.underlying9 (Kd.own_of_R HO352.out)) | ((with_reducible refine gate_callee (f := 5) rfl ?_); refine goesL_ (some 30) rfl rfl Tryd.func5 (by kernel_rfl) rfl #[.string (((⟨#[97]⟩ : ByteArray) ++ (strOfNums y350)) ++ (⟨#[58, 32, 120]⟩ : ByteArray))] rfl (by (try simp only [List.map_toArray, List.map_cons, List.map_nil]); first | done | rfl | (simp only [List.length_drop, List.length_take]; rfl)) ?_; (with_reducible refine (chinoiserielaw04_HeadLines.calls k2 (((⟨#[97]⟩ : ByteArray) ++ (strOfNums y350)) ++ (⟨#[58, 32, 120]⟩ : ByteArray)) true _ A6.out).mono ?_); rintro e w29 ⟨rfl, hb⟩; refine ⟨_, rfl, ?_⟩; have n0_ := Aside0.mk (Kd.R_below (by (with_reducible repeat (first | apply Kd.R_alloc | apply Kd.R_drewN | apply Kd.R_drew)); exact HO352.out) hb); have n1_ := Aside0.mk (below_step (by repeat (first | (with_reducible first | exact HB.out | apply below_alloc | apply pw_below_drewN | apply below_drew1) | exact HB.out)) hb); clear HO352; clear HB; have HO352 := n0_; have HB := n1_; clear n0_ n1_; (try clear hb); (try clear hb2); (try clear hk); (try clear hi)) | (go_at_call 5; (with_reducible refine (chinoiserielaw04_HeadLines.calls k2 (((⟨#[97, 58, 32, 120]⟩ : ByteArray) ++ (strOfNums y350)) ++ (⟨#[121]⟩ : ByteArray)) true _ A10.out).mono ?_); rintro e w30 ⟨rfl, hb⟩; have n0_ := Aside0.mk (Kd.R_below (by (with_reducible repeat (first | apply Kd.R_alloc | apply Kd.R_drewN | apply Kd.R_drew)); exact HO352.out) hb); have n1_ := Aside0.mk (below_step (by repeat (first | (with_reducible first | exact HB.out | apply below_alloc | apply pw_below_drewN | apply below_drew1) | exact HB.out)) hb); clear HO352; clear HB; have HO352 := n0_; have HB := n1_; clear n0_ n1_; (try clear hb); (try clear hb2); (try clear hk); (try clear hi)) | (go_at_call 5; (with_reducible refine (chinoiserielaw04_HeadLines.calls k2 ((⟨#[97, 58, 32]⟩ : ByteArray) ++ (strOfNums y350)) true _ A13.out).mono ?_); rintro e w31 ⟨rfl, hb⟩; have n0_ := Aside0.mk (Kd.R_below (by (with_reducible repeat (first | apply Kd.R_alloc | apply Kd.R_drewN | apply Kd.R_drew)); exact HO352.out) hb); have n1_ := Aside0.mk (below_step (by repeat (first | (with_reducible first | exact HB.out | apply below_alloc | apply pw_below_drewN | apply below_drew1) | exact HB.out)) hb); clear HO352; clear HB; have HO352 := n0_; have HB := n1_; clear n0_ n1_; (try clear hb); (try clear hb2); (try clear hk); (try clear hi)) | (go_at_call 5; (with_reducible refine (chinoiserielaw04_HeadLines.calls k2 ((((⟨#[97, 58]⟩ : ByteArray) ++ (strOfNums y350)) ++ (⟨#[121]⟩ : ByteArray)) ++ (strOfNums y350)) true _ A18.out).mono ?_); rintro e w32 ⟨rfl, hb⟩; have n0_ := Aside0.mk (Kd.R_below (by (with_reducible repeat (first | apply Kd.R_alloc | apply Kd.R_drewN | apply Kd.R_drew)); exact HO352.out) hb); have n1_ := Aside0.mk (below_step (by repeat (first | (with_reducible first | exact HB.out | apply below_alloc | apply pw_below_drewN | apply below_drew1) | exact HB.out)) hb); clear HO352; clear HB; have HO352 := n0_; have HB := n1_; clear n0_ n1_; (try clear hb); (try clear hb2); (try clear hk); (try clear hi)) | (go_at_call 4; (with_reducible refine (sets_nil k2 ((⟨#[97]⟩ : ByteArray) ++ (strOfNums y350)) (⟨#[120]⟩ : ByteArray) true _ A20.out).mono ?_); rintro e w33 ⟨rfl, hb⟩; have n0_ := Aside0.mk (Kd.R_below (by (with_reducible repeat (first | apply Kd.R_alloc | apply Kd.R_drewN | apply Kd.R_drew)); exact HO352.out) hb); have n1_ := Aside0.mk (below_step (by repeat (first | (with_reducible first | exact HB.out | apply below_alloc | apply pw_below_drewN | apply below_drew1) | exact HB.out)) hb); clear HO352; clear HB; have HO352 := n0_; have HB := n1_; clear n0_ n1_; (try clear hb); (try clear hb2); (try clear hk); (try clear hi)) | (go_at_call 4; (with_reducible refine (sets_nil k2 (⟨#[97]⟩ : ByteArray) (strOfNums y350) true _ A22.out).mono ?_); rintro e w34 ⟨rfl, hb⟩; have n0_ := Aside0.mk (Kd.R_below (by (with_reducible repeat (first | apply Kd.R_alloc | apply Kd.R_drewN | apply Kd.R_drew)); exact HO352.out) hb); have n1_ := Aside0.mk (below_step (by repeat (first | (with_reducible first | exact HB.out | apply below_alloc | apply pw_below_drewN | apply below_drew1) | exact HB.out)) hb); clear HO352; clear HB; have HO352 := n0_; have HB := n1_; clear n0_ n1_; (try clear hb); (try clear hb2); (try clear hk); (try clear hi)) | ((with_reducible refine gate_dst (N := 69) rfl ?_); (try (refine gate_guard (by rfl) ?_; dsimp only)); refine Kd.R_lit k28 _ 28 ?hg (N := 69) ?hd (xs := ([(⟨strOfNums y350, strOfNums y350⟩ : S28)] : List (S28))) (inner := [.string (strOfNums y350), .string (strOfNums y350)]) (ok := fun _ => True) (okp := fun _ => True) ?hr ?hp (fun _ hk => hk) trivial (Below.refl _ _) (Nat.le_refl _) (by simp) ?_; (case hd => rfl); (case hg => rfl); (case hr => first | (go_simp; done) | (go_simp; rfl)); (case hp => exact (Reps.c2 (show Kd.M k28 _ _ _ (⟨strOfNums y350, strOfNums y350⟩ : S28) [.string (strOfNums y350), .string (strOfNums y350)] from (k28_mkM _ _ _ (⟨strOfNums y350, strOfNums y350⟩ : S28) )) (Reps.none _ _))); intro v360 w35 ho36 hb hg_ hnew_; clear hg_ hnew_; (first | rw [← Ny359.out] at ho36 | (simp only [Int.reduceToNat] at ho36; rw [← Ny359.out] at ho36)); have n0_ := Aside0.mk (Kd.R_below (by (with_reducible repeat (first | apply Kd.R_alloc | apply Kd.R_drewN | apply Kd.R_drew)); exact HO352.out) hb); have n1_ := Aside0.mk (Kd.R_lower ho36 (below_size (by repeat (first | (with_reducible first | exact HB.out | apply below_alloc | apply pw_below_drewN | apply below_drew1) | exact HB.out)))); have n2_ := Aside0.mk (below_step (by repeat (first | (with_reducible first | exact HB.out | apply below_alloc | apply pw_below_drewN | apply below_drew1) | exact HB.out)) hb); clear HO352; clear HB; have HO352 := n0_; have HO361 := n1_; have HB := n2_; clear n0_ n1_ n2_; clear hb ho36; obtain ⟨Ao37, co37, eo37⟩ := Kd.R_slice HO361.out; subst eo37) | (go_at_call 3; (refine (chinoiserielaw04_HeadFinds.calls k2 _ _ y359 _ _ ([] : List (S28)) (strOfNums y350) true _ ?side1 ?side2 ?side3 ?side4 A24.out).mono ?_); (case side1 => repeat (first | exact (Kd.R_reads' HO361.out).2.2 | (with_reducible refine Kd.C_alloc ?_ _) | (with_reducible refine Kd.C_drewN ?_ _) | (with_reducible refine Kd.C_drew ?_))); (case side2 => exact (Kd.R_reads' HO361.out).2.1); (case side3 => exact Kd.C_nil _ _); (case side4 => exact Nat.le_refl _); rintro e w38 ⟨rfl, hb⟩; have n0_ := Aside0.mk (Kd.R_below (by (with_reducible repeat (first | apply Kd.R_alloc | apply Kd.R_drewN | apply Kd.R_drew)); exact HO352.out) hb); have n1_ := Aside0.mk (Kd.R_below (by (with_reducible repeat (first | apply Kd.R_alloc | apply Kd.R_drewN | apply Kd.R_drew)); exact HO361.out) hb); have n2_ := Aside0.mk (below_step (by repeat (first | (with_reducible first | exact HB.out | apply below_alloc | apply pw_below_drewN | apply below_drew1) | exact HB.out)) hb); clear HO352; clear HO361; clear HB; have HO352 := n0_; have HO361 := n1_; have HB := n2_; clear n0_ n1_ n2_; (try clear hb); (try clear hb2); (try clear hk); (try clear hi)))
        go_roundg k2
        case measure => have := HK1.out; have := HK2.out; omega
        case rel => exact ⟨(wrap64 (x3_2 + 1)), (by first | rfl | (simp; done) | (simp [*]; done)), H', ⟨by have := HK1.out; have := HK2.out; omega⟩, ⟨by repeat (first | (with_reducible first | exact HB.out | apply below_alloc | apply pw_below_drewN | apply below_drew1) | exact HB.out)⟩⟩
      rw [if_neg c3] at H
      have c3b0 : decide (x3_2 < 256) = false := decide_eq_false c3
      clear c3
      have H' := Aside0.mk H
      clear H
      go_wp2
      go_loopg [5, 6] k2 (fun kq v5 v6 w' => ∃ (x5_3 : List (S28)) (x6_3 : Int), v6 = .int .i64 x6_3 ∧ Aside0 (chinoiserielaw04_HeadNames.l2 kq x1_1 x5_3 x6_3 = some r) ∧ Aside0 (kq ≤ k2) ∧ Aside0 (Kd.R k28 28 w' w.heap.size (fun _ => True) v5 x5_3) ∧ Aside0 (Below w.heap.size w w'))
      case atStart => exact ⟨(([] : List (S28))), (0), (by first | rfl | (simp; done) | (simp [*]; done)), H', ⟨Nat.le_refl _⟩, ⟨by first | exact Kd.R_nil _ _ _ _ _ | exact Kd.N_nil _ _ _ _ _ | exact Kd.V_nil _ _ _ _ _ | exact Kd.Q_nil _ _ _ _ _ | exact Kd.S_nil _ _ _ _ _⟩, ⟨by repeat (first | (with_reducible first | exact HB.out | apply below_alloc | apply pw_below_drewN | apply below_drew1) | exact HB.out)⟩⟩
      clear H'
      try clear c1
      try clear c1b0
      try clear c2
      try clear c2b0
      try clear c2b1
      try clear c2b2
      try clear p2
      try clear hcv2
      try clear c3
      try clear c3b0
      try clear c4
      try clear c4b0
      try clear c4b1
      try clear c4b2
      try clear hcv4
      try clear c5
      try clear c5b0
      try clear c5b1
      try clear c5b2
      try clear p6
      try clear c7
      try clear c8
      try clear c8b0
      try clear c8b1
      try clear c8b2
      try clear c9
      try clear c9b0
      try clear c9b1
      try clear c9b2
      try clear c11
      try clear c12
      try clear c12b0
      try clear c12b1
      try clear c12b2
      try clear c14
      try clear c15
      try clear c15b0
      try clear c15b1
      try clear c15b2
      try clear c16
      try clear c16b0
      try clear c16b1
      try clear c16b2
      try clear c17
      try clear c17b0
      try clear c17b1
      try clear c17b2
      try clear c19
      try clear c21
      try clear c23
      try clear c25
      try clear hcv28
      try clear hcv41
      try clear p2
      obtain ⟨x5_3, x6_3, rfl, HA, HK3, HO_5, HB⟩ := hrel
      cases gk with
      | zero => exact absurd HA.out (by simp [chinoiserielaw04_HeadNames.l2])
      | succ k3 =>
        have H := HA.out
        clear HA
        simp only [chinoiserielaw04_HeadNames.l2] at H
        by_cases c52 : x6_3 < 17
        · rw [if_pos c52] at H
          have c52b0 : decide (x6_3 < 17) = true := decide_eq_true c52
          clear c52
          by_cases c53 : 0 ≤ x6_3
          rotate_left
          · rw [if_neg c53] at H
            exact absurd H (by simp)
          rw [if_pos c53] at H
          have c53b0 := eq_true c53
          have c53b1 : decide (0 ≤ x6_3) = true := decide_eq_true c53
          clear c53
          by_cases c54 : x6_3 ≤ (x1_1.size : Int)
          rotate_left
          · rw [if_neg c54] at H
            exact absurd H (by simp)
          rw [if_pos c54] at H
          have c54b0 := eq_true c54
          have c54b1 : decide (x6_3 ≤ (x1_1.size : Int)) = true := decide_eq_true c54
          clear c54
          by_cases c55 : 1 + (x1_1.extract 0 (x6_3 : Int).toNat).size ≤ 9223372036854775807
          rotate_left
          · rw [if_neg c55] at H
            exact absurd H (by simp)
          rw [if_pos c55] at H
          have c55b0 := eq_true c55
          have c55b1 : decide (1 + (x1_1.extract 0 (x6_3 : Int).toNat).size ≤ 9223372036854775807) = true := decide_eq_true c55
          try have c55b2 : (9223372036854775807 < 1 + (x1_1.extract 0 (x6_3 : Int).toNat).size) = False := eq_false (Nat.not_lt.2 c55)
          have c55bX : (9223372036854775807 < 1 + x6_3.toNat) = False := eq_false (by have := of_decide_eq_true c52b0; omega)
          obtain ⟨ji56, hji56⟩ : ∃ j_ : Int, (wrap64 (x6_3 * 12)) = j_ := ⟨_, rfl⟩
          replace H : (if 0 ≤ (ji56) then (if (ji56) ≤ (x1_1.size : Int) then (if x5_3.length < 4398046511104 then (chinoiserielaw04_HeadNames.l2 k3 x1_1 (x5_3 ++ [(⟨(⟨#[110]⟩ : ByteArray) ++ (x1_1.extract 0 (x6_3 : Int).toNat), x1_1.extract 0 ((ji56) : Int).toNat⟩ : S28)]) (wrap64 (x6_3 + 1))) else (none)) else (none)) else (none)) = some r := by first | (rw [hji56] at H; exact H) | (simp only [hji56] at H ⊢; exact H)
          have hji56w : (IntKind.i64.wrap (x6_3 * 12)) = ji56 := (i64_w _).trans hji56
          by_cases c57 : 0 ≤ (ji56)
          rotate_left
          · rw [if_neg c57] at H
            exact absurd H (by simp)
          rw [if_pos c57] at H
          have c57b0 := eq_true c57
          have c57b1 : decide (0 ≤ (ji56)) = true := decide_eq_true c57
          clear c57
          by_cases c58 : (ji56) ≤ (x1_1.size : Int)
          rotate_left
          · rw [if_neg c58] at H
            exact absurd H (by simp)
          rw [if_pos c58] at H
          have c58b0 := eq_true c58
          have c58b1 : decide ((ji56) ≤ (x1_1.size : Int)) = true := decide_eq_true c58
          clear c58
          by_cases c59 : x5_3.length < 4398046511104
          rotate_left
          · rw [if_neg c59] at H
            exact absurd H (by simp)
          rw [if_pos c59] at H
          have LMc59 := Aside0.mk c59
          clear c59
          obtain ⟨y363, hy363⟩ : ∃ y_ : List (S28), y_ = (x5_3 ++ [(⟨(⟨#[110]⟩ : ByteArray) ++ (x1_1.extract 0 (x6_3 : Int).toNat), x1_1.extract 0 ((ji56) : Int).toNat⟩ : S28)]) := ⟨_, rfl⟩
          replace H : (chinoiserielaw04_HeadNames.l2 k3 x1_1 y363 (wrap64 (x6_3 + 1))) = some r := by first | (rw [hy363]; with_reducible exact H) | (have H2_ := (Option.bind_some _ _).symm.trans H; rw [hy363]; with_reducible exact H2_) | (have H2_ := (Option.bind_some _ _).symm.trans H; with_reducible exact H2_) | with_reducible exact H | (rw [hy363]; exact H) | exact H
          have Ny363 := Aside0.mk hy363
          clear hy363
          have H' := Aside0.mk H
          clear H
          try go_wp2
          have n0_ := Aside0.mk (Kd.R_drew HO_5.out)
          have n1_ := Aside0.mk (below_drew1 HB.out)
          clear HO_5
          clear HB
          have HO_5 := n0_
          have HB := n1_
          clear n0_ n1_
          refine start_ (n := 13) (S := fun w' => True) (ds := []) (tf 0 13) (by kernel_rfl) rfl rfl trivial (fun hHeld => ?_); refine with_tabW chinoiserielaw04_HeadNames.tab16 chinoiserielaw04_HeadNames.bits16 (fun HT_ HW_ => ?_)
          generalize wr.drew = w60 at HO_5 HB hHeld ⊢
          refine pure_ (i := 0) (N := some 78) (v := ?_) (a' := ?_) (tf 1 12) rfl rfl (any_of HT_.out (by kernel_rfl)) (fun _ _ _ h => h) (Or.inl ⟨by rfl, ?_⟩) ?_ ?_
          rotate_left
          · intro w'
            go_simp
            with_reducible rfl
          rotate_left
          · simp only [Act.put, List.setIfInBounds_toArray, List.set_cons_zero, List.set_cons_succ, i64_w, i32_w]
            rfl
          refine pure_ (i := 1) (N := some 79) (v := ?_) (a' := ?_) (tf 2 11) rfl rfl (any_of HT_.out (by kernel_rfl)) (fun _ _ _ h => h) (Or.inl ⟨by rfl, ?_⟩) ?_ ?_
          rotate_left
          · intro w'
            go_simp
            with_reducible rfl
          rotate_left
          · simp only [Act.put, List.setIfInBounds_toArray, List.set_cons_zero, List.set_cons_succ, i64_w, i32_w]
            rfl
          refine pure_ (i := 2) (N := some 80) (v := ?_) (a' := ?_) (tf 3 10) rfl rfl (any_of HT_.out (by kernel_rfl)) (fun _ _ _ h => h) (Or.inl ⟨by rfl, ?_⟩) ?_ ?_
          rotate_left
          · intro w'
            go_simp
            with_reducible rfl
          rotate_left
          · simp only [Act.put, List.setIfInBounds_toArray, List.set_cons_zero, List.set_cons_succ, i64_w, i32_w]
            rfl
          refine pure_ (i := 3) (N := some 81) (v := ?_) (a' := ?_) (tf 4 9) rfl rfl (any_of HT_.out (by kernel_rfl)) (fun _ _ _ h => h) (Or.inl ⟨by rfl, ?_⟩) ?_ ?_
          rotate_left
          · intro w'
            go_simp
            with_reducible rfl
          rotate_left
          · simp only [Act.put, List.setIfInBounds_toArray, List.set_cons_zero, List.set_cons_succ, i64_w, i32_w]
            rfl
          refine pure_ (i := 4) (N := some 82) (v := ?_) (a' := ?_) (tf 5 8) rfl rfl (any_of HT_.out (by kernel_rfl)) (fun _ _ _ h => h) (Or.inl ⟨by rfl, ?_⟩) ?_ ?_
          rotate_left
          · intro w'
            go_simp
            with_reducible rfl
          rotate_left
          · simp only [Act.put, List.setIfInBounds_toArray, List.set_cons_zero, List.set_cons_succ, i64_w, i32_w]
            rfl
          refine pure_ (i := 5) (N := some 83) (v := ?_) (a' := ?_) (tf 6 7) rfl rfl (any_of HT_.out (by kernel_rfl)) (fun _ _ _ h => h) (Or.inl ⟨by rfl, ?_⟩) ?_ ?_
          rotate_left
          · intro w'
            go_simp
            with_reducible rfl
          rotate_left
          · simp only [Act.put, List.setIfInBounds_toArray, List.set_cons_zero, List.set_cons_succ, i64_w, i32_w]
            rfl
          refine pure_ (i := 6) (N := some 84) (v := ?_) (a' := ?_) (tf 7 6) rfl rfl (any_of HT_.out (by kernel_rfl)) (fun _ _ _ h => h) (Or.inl ⟨by rfl, ?_⟩) ?_ ?_
          rotate_left
          · intro w'
            go_simp
            with_reducible rfl
          rotate_left
          · simp only [Act.put, List.setIfInBounds_toArray, List.set_cons_zero, List.set_cons_succ, i64_w, i32_w]
            rfl
          refine pure_ (i := 7) (N := some 85) (v := ?_) (a' := ?_) (tf 8 5) rfl rfl (any_of HT_.out (by kernel_rfl)) (fun _ _ _ h => h) (Or.inl ⟨by rfl, ?_⟩) ?_ ?_
          rotate_left
          · intro w'
            go_simp
            with_reducible rfl
          rotate_left
          · simp only [Act.put, List.setIfInBounds_toArray, List.set_cons_zero, List.set_cons_succ, i64_w, i32_w]
            rfl
          refine pure_ (i := 8) (N := some 86) (v := ?_) (a' := ?_) (tf 9 4) rfl rfl (any_of HT_.out (by kernel_rfl)) (fun _ _ _ h => h) (Or.inl ⟨by rfl, ?_⟩) ?_ ?_
          rotate_left
          · intro w'
            go_simp
            with_reducible rfl
          rotate_left
          · simp only [Act.put, List.setIfInBounds_toArray, List.set_cons_zero, List.set_cons_succ, i64_w, i32_w]
            rfl
          refine pure_ (i := 9) (N := some 87) (v := ?_) (a' := ?_) (tf 10 3) rfl rfl (any_of HT_.out (by kernel_rfl)) (fun _ _ _ h => h) (Or.inl ⟨by rfl, ?_⟩) ?_ ?_
          rotate_left
          · intro w'
            go_simp
            with_reducible rfl
          rotate_left
          · simp only [Act.put, List.setIfInBounds_toArray, List.set_cons_zero, List.set_cons_succ, i64_w, i32_w]
            rfl
          refine one_ (i := 10) (N := some 88) (tf 11 2) rfl rfl (one_of HT_.out (by kernel_rfl)) (by decide) (fun K hK => ?_)
          refine value_ (w1 := ?_) (v := ?_) (by rfl) rfl ?_ ?_
          rotate_left 2
          · go_simp
            constructor
            · rfl
            · rfl
          refine hK.out _ _ trivial (fun hHeld => ?_)
          clear hK K
          refine norm_ (a' := ?_) ?_ ?_
          rotate_left
          · show Act.put _ (some 88) _ = _
            simp only [Act.put, List.setIfInBounds_toArray, List.set_cons_zero, List.set_cons_succ, i64_w, i32_w]
            rfl
          refine one_ (i := 11) (N := some 89) (tf 12 1) rfl rfl (one_of HT_.out (by kernel_rfl)) (by decide) (fun K hK => ?_)
          refine Kd.R_append_step k28 (w0 := w) w.heap.size (by rfl) (.tmp 78) (.tmp 88) 22 28 (.agg #[(.string ⟨#[]⟩), (.string ⟨#[]⟩)]) 32 rfl Tryd.underlying22 info28 rfl (by decide) (by omega) u5 x5_3 (⟨(⟨#[110]⟩ : ByteArray) ++ (x1_1.extract 0 (x6_3 : Int).toNat), x1_1.extract 0 ((ji56) : Int).toNat⟩ : S28) [.string ((⟨#[110]⟩ : ByteArray) ++ (x1_1.extract 0 (x6_3 : Int).toNat)), .string (x1_1.extract 0 ((ji56) : Int).toNat)] (fun _ => True) (fun _ => False) rfl rfl ?aP (fun _ hk => hk.elim) ?aF ?aO ?aB ?aS ?aL ?_
          (case aP => exact k28_mkM _ _ _ (⟨(⟨#[110]⟩ : ByteArray) ++ (x1_1.extract 0 (x6_3 : Int).toNat), x1_1.extract 0 ((ji56) : Int).toNat⟩ : S28))
          (case aB => exact (by repeat (first | (with_reducible first | exact HB.out | apply below_alloc | apply pw_below_drewN | apply below_drew1) | exact HB.out)))
          (case aF => exact (fun _ _ => trivial))
          (case aO => exact (by (with_reducible repeat (first | apply Kd.R_alloc | apply Kd.R_drewN | apply Kd.R_drew)); exact HO_5.out))
          (case aS => exact (below_size (by repeat (first | (with_reducible first | exact HB.out | apply below_alloc | apply pw_below_drewN | apply below_drew1) | exact HB.out))))
          (case aL => have := LMc59.out; omega)
          intro v364 w61 ho hb hg hat
          rw [← Ny363.out] at ho
          have n0_ := Aside0.mk (hb)
          have n1_ := Aside0.mk (ho)
          clear HB
          clear HO_5
          have HB := n0_
          have HO365 := n1_
          clear n0_ n1_
          clear ho hb hg hat
          refine hK.out _ _ trivial (fun hHeld => ?_)
          clear hK K
          refine norm_ (a' := ?_) ?_ ?_
          rotate_left
          · show Act.put _ (some 89) _ = _
            simp only [Act.put, List.setIfInBounds_toArray, List.set_cons_zero, List.set_cons_succ, i64_w, i32_w]
            rfl
          refine pure_ (i := 12) (N := some 5) (v := ?_) (a' := ?_) (tf 13 0) rfl rfl (any_of HT_.out (by kernel_rfl)) (fun _ _ _ h => h) (Or.inl ⟨by rfl, ?_⟩) ?_ ?_
          rotate_left
          · intro w'
            go_simp
            with_reducible rfl
          rotate_left
          · simp only [Act.put, List.setIfInBounds_toArray, List.set_cons_zero, List.set_cons_succ, i64_w, i32_w]
            rfl
          refine done_ (done_of HT_.out (by kernel_rfl)) ?_
          try go_wp2
          go_roundg k3
          case measure => have := HK1.out; have := HK2.out; have := HK3.out; omega
          case rel => exact ⟨(y363), (wrap64 (x6_3 + 1)), (by first | rfl | (simp; done) | (simp [*]; done)), H', ⟨by have := HK1.out; have := HK2.out; have := HK3.out; omega⟩, ⟨by (with_reducible repeat (first | apply Kd.R_alloc | apply Kd.R_drewN | apply Kd.R_drew)); exact HO365.out⟩, ⟨by repeat (first | (with_reducible first | exact HB.out | apply below_alloc | apply pw_below_drewN | apply below_drew1) | exact HB.out)⟩⟩
        rw [if_neg c52] at H
        have c52b0 : decide (x6_3 < 17) = false := decide_eq_false c52
        clear c52
        by_cases c62 : 16 ≤ (x5_3.length : Int)
        rotate_left
        · rw [if_neg c62] at H
          exact absurd H (by simp)
        rw [if_pos c62] at H
        have c62b0 := eq_true c62
        have c62b1 : decide (16 ≤ (x5_3.length : Int)) = true := decide_eq_true c62
        clear c62
        obtain ⟨y366, hy366⟩ : ∃ y_ : List (S28), y_ = (x5_3.take 16) := ⟨_, rfl⟩
        replace H : ((head_Set.f y366 (⟨#[110, 101, 119]⟩ : ByteArray) (⟨#[49]⟩ : ByteArray)).bind fun bt370 => ((head_Set.f (x5_3.take 16) (⟨#[78, 65, 65]⟩ : ByteArray) (⟨#[49]⟩ : ByteArray)).bind fun bt378 => ((head_Check.f x5_3).bind fun t382 => (if t382 = 5 then ((head_Check.f (x5_3.take 16)).bind fun t387 => (if t387 = 0 then (if bt370.2 = 5 then (if bt378.2 = 0 then (if (bt378.1.length : Int) = 16 then (if 0 ≤ 30 then (if 30 ≤ (x1_1.size : Int) then (if 0 ≤ 200 then (if 200 ≤ (x1_1.size : Int) then ((head_Check.f (([(⟨x1_1.extract 0 30, x1_1.extract 0 200⟩ : S28)] : List (S28)))).bind fun t391 => (if t391 = 0 then (if 0 ≤ 31 then (if 31 ≤ (x1_1.size : Int) then ((head_Check.f (([(⟨x1_1.extract 0 31, (⟨#[]⟩ : ByteArray)⟩ : S28)] : List (S28)))).bind fun t395 => (if t395 = 40 then (if 0 ≤ 201 then (if 201 ≤ (x1_1.size : Int) then ((head_Check.f (([(⟨(⟨#[97]⟩ : ByteArray), x1_1.extract 0 201⟩ : S28)] : List (S28)))).bind fun t399 => (if t399 = 40 then ((head_Check.f (([(⟨(⟨#[]⟩ : ByteArray), (⟨#[]⟩ : ByteArray)⟩ : S28)] : List (S28)))).bind fun t403 => (if 2 + (x1_1.extract 0 200).size ≤ 9223372036854775807 then (if ((⟨#[97, 58]⟩ : ByteArray) ++ (x1_1.extract 0 200)).size + 66 ≤ 9223372036854775807 then ((chinoiserielaw04_line.f (((⟨#[97, 58]⟩ : ByteArray) ++ (x1_1.extract 0 200)) ++ (⟨#[32, 32, 32, 32, 32, 32, 32, 32, 32, 32, 32, 32, 32, 32, 32, 32, 32, 32, 32, 32, 32, 32, 32, 32, 32, 32, 32, 32, 32, 32, 32, 32, 32, 32, 32, 32, 32, 32, 32, 32, 32, 32, 32, 32, 32, 32, 32, 32, 32, 32, 32, 32, 32, 32, 32, 32, 32, 32, 32, 32, 32, 32, 32, 32, 32, 32]⟩ : ByteArray)) (⟨#[97]⟩ : ByteArray) (x1_1.extract 0 200)).bind fun t404 => (if t404 = true then (if 2 + x1_1.size ≤ 9223372036854775807 then (if 0 ≤ 60 then (if 60 ≤ (x1_1.size : Int) then (if ((⟨#[97, 58]⟩ : ByteArray) ++ x1_1).size + (x1_1.extract 0 60).size ≤ 9223372036854775807 then ((chinoiserielaw04_wrong.f (((⟨#[97, 58]⟩ : ByteArray) ++ x1_1) ++ (x1_1.extract 0 60))).bind fun t405 => (if t405 = true then (if ((⟨#[97, 58]⟩ : ByteArray) ++ (x1_1.extract 0 200)).size + 3 ≤ 9223372036854775807 then ((chinoiserielaw04_HeadLines.f k3 (((⟨#[97, 58]⟩ : ByteArray) ++ (x1_1.extract 0 200)) ++ (⟨#[32, 9, 32]⟩ : ByteArray))).bind fun t406 => (if t406 = true then ((chinoiserielaw04_HeadLines.f k3 (⟨#[]⟩ : ByteArray)).bind fun t407 => (if t407 = true then ((chinoiserielaw04_HeadLines.f k3 (⟨#[58]⟩ : ByteArray)).bind fun t408 => (if t408 = true then ((head_Strip.f x5_3 (⟨#[]⟩ : ByteArray)).bind fun t409 => (if (t409.length : Int) = 0 then ((head_Same.f k3 ([] : List (S28)) (([] : List (S28)))).bind fun t415 => ((chinoiserielaw04_works.f k3).bind fun t416 => (if t416 = true then (if t403 = 40 then (if t415 = true then ((head_Lower.f (⟨#[65, 90, 97, 122, 48, 57, 91]⟩ : ByteArray)).bind fun t417 => ((chinoiserieref00_EqTexts.f k3 (([t417] : List ByteArray)) (([(⟨#[97, 122, 97, 122, 48, 57, 91]⟩ : ByteArray)] : List ByteArray))).bind fun t424 => (some t424))) else (none)) else (none)) else (none)))) else (none))) else (none))) else (none))) else (none))) else (none)) else (none))) else (none)) else (none)) else (none)) else (none)) else (none))) else (none)) else (none))) else (none))) else (none)) else (none)) else (none))) else (none)) else (none)) else (none))) else (none)) else (none)) else (none)) else (none)) else (none)) else (none)) else (none)) else (none))) else (none))))) = some r := by first | (rw [hy366]; with_reducible exact H) | (have H2_ := (Option.bind_some _ _).symm.trans H; rw [hy366]; with_reducible exact H2_) | (have H2_ := (Option.bind_some _ _).symm.trans H; with_reducible exact H2_) | with_reducible exact H | (rw [hy366]; exact H) | exact H
        have Ny366 := Aside0.mk hy366
        clear hy366
        replace H := Option.bind_eq_some_iff.mp H
        obtain ⟨⟨t370, t371⟩, A630, H⟩ := H
        replace H : ((head_Set.f (x5_3.take 16) (⟨#[78, 65, 65]⟩ : ByteArray) (⟨#[49]⟩ : ByteArray)).bind fun bt378 => ((head_Check.f x5_3).bind fun t382 => (if t382 = 5 then ((head_Check.f (x5_3.take 16)).bind fun t387 => (if t387 = 0 then (if t371 = 5 then (if bt378.2 = 0 then (if (bt378.1.length : Int) = 16 then (if 0 ≤ 30 then (if 30 ≤ (x1_1.size : Int) then (if 0 ≤ 200 then (if 200 ≤ (x1_1.size : Int) then ((head_Check.f (([(⟨x1_1.extract 0 30, x1_1.extract 0 200⟩ : S28)] : List (S28)))).bind fun t391 => (if t391 = 0 then (if 0 ≤ 31 then (if 31 ≤ (x1_1.size : Int) then ((head_Check.f (([(⟨x1_1.extract 0 31, (⟨#[]⟩ : ByteArray)⟩ : S28)] : List (S28)))).bind fun t395 => (if t395 = 40 then (if 0 ≤ 201 then (if 201 ≤ (x1_1.size : Int) then ((head_Check.f (([(⟨(⟨#[97]⟩ : ByteArray), x1_1.extract 0 201⟩ : S28)] : List (S28)))).bind fun t399 => (if t399 = 40 then ((head_Check.f (([(⟨(⟨#[]⟩ : ByteArray), (⟨#[]⟩ : ByteArray)⟩ : S28)] : List (S28)))).bind fun t403 => (if 2 + (x1_1.extract 0 200).size ≤ 9223372036854775807 then (if ((⟨#[97, 58]⟩ : ByteArray) ++ (x1_1.extract 0 200)).size + 66 ≤ 9223372036854775807 then ((chinoiserielaw04_line.f (((⟨#[97, 58]⟩ : ByteArray) ++ (x1_1.extract 0 200)) ++ (⟨#[32, 32, 32, 32, 32, 32, 32, 32, 32, 32, 32, 32, 32, 32, 32, 32, 32, 32, 32, 32, 32, 32, 32, 32, 32, 32, 32, 32, 32, 32, 32, 32, 32, 32, 32, 32, 32, 32, 32, 32, 32, 32, 32, 32, 32, 32, 32, 32, 32, 32, 32, 32, 32, 32, 32, 32, 32, 32, 32, 32, 32, 32, 32, 32, 32, 32]⟩ : ByteArray)) (⟨#[97]⟩ : ByteArray) (x1_1.extract 0 200)).bind fun t404 => (if t404 = true then (if 2 + x1_1.size ≤ 9223372036854775807 then (if 0 ≤ 60 then (if 60 ≤ (x1_1.size : Int) then (if ((⟨#[97, 58]⟩ : ByteArray) ++ x1_1).size + (x1_1.extract 0 60).size ≤ 9223372036854775807 then ((chinoiserielaw04_wrong.f (((⟨#[97, 58]⟩ : ByteArray) ++ x1_1) ++ (x1_1.extract 0 60))).bind fun t405 => (if t405 = true then (if ((⟨#[97, 58]⟩ : ByteArray) ++ (x1_1.extract 0 200)).size + 3 ≤ 9223372036854775807 then ((chinoiserielaw04_HeadLines.f k3 (((⟨#[97, 58]⟩ : ByteArray) ++ (x1_1.extract 0 200)) ++ (⟨#[32, 9, 32]⟩ : ByteArray))).bind fun t406 => (if t406 = true then ((chinoiserielaw04_HeadLines.f k3 (⟨#[]⟩ : ByteArray)).bind fun t407 => (if t407 = true then ((chinoiserielaw04_HeadLines.f k3 (⟨#[58]⟩ : ByteArray)).bind fun t408 => (if t408 = true then ((head_Strip.f x5_3 (⟨#[]⟩ : ByteArray)).bind fun t409 => (if (t409.length : Int) = 0 then ((head_Same.f k3 ([] : List (S28)) (([] : List (S28)))).bind fun t415 => ((chinoiserielaw04_works.f k3).bind fun t416 => (if t416 = true then (if t403 = 40 then (if t415 = true then ((head_Lower.f (⟨#[65, 90, 97, 122, 48, 57, 91]⟩ : ByteArray)).bind fun t417 => ((chinoiserieref00_EqTexts.f k3 (([t417] : List ByteArray)) (([(⟨#[97, 122, 97, 122, 48, 57, 91]⟩ : ByteArray)] : List ByteArray))).bind fun t424 => (some t424))) else (none)) else (none)) else (none)))) else (none))) else (none))) else (none))) else (none))) else (none)) else (none))) else (none)) else (none)) else (none)) else (none)) else (none))) else (none)) else (none))) else (none))) else (none)) else (none)) else (none))) else (none)) else (none)) else (none))) else (none)) else (none)) else (none)) else (none)) else (none)) else (none)) else (none)) else (none))) else (none)))) = some r := H
        have A63 := Aside0.mk A630
        clear A630
        have c64b0 := eq_true (of_decide_eq_true (by first | (with_reducible assumption) | assumption) : 16 ≤ (x5_3.length : Int))
        obtain ⟨y374, hy374⟩ : ∃ y_ : List (S28), y_ = (x5_3.take 16) := ⟨_, rfl⟩
        replace H : ((head_Set.f y374 (⟨#[78, 65, 65]⟩ : ByteArray) (⟨#[49]⟩ : ByteArray)).bind fun bt378 => ((head_Check.f x5_3).bind fun t382 => (if t382 = 5 then ((head_Check.f (x5_3.take 16)).bind fun t387 => (if t387 = 0 then (if t371 = 5 then (if bt378.2 = 0 then (if (bt378.1.length : Int) = 16 then (if 0 ≤ 30 then (if 30 ≤ (x1_1.size : Int) then (if 0 ≤ 200 then (if 200 ≤ (x1_1.size : Int) then ((head_Check.f (([(⟨x1_1.extract 0 30, x1_1.extract 0 200⟩ : S28)] : List (S28)))).bind fun t391 => (if t391 = 0 then (if 0 ≤ 31 then (if 31 ≤ (x1_1.size : Int) then ((head_Check.f (([(⟨x1_1.extract 0 31, (⟨#[]⟩ : ByteArray)⟩ : S28)] : List (S28)))).bind fun t395 => (if t395 = 40 then (if 0 ≤ 201 then (if 201 ≤ (x1_1.size : Int) then ((head_Check.f (([(⟨(⟨#[97]⟩ : ByteArray), x1_1.extract 0 201⟩ : S28)] : List (S28)))).bind fun t399 => (if t399 = 40 then ((head_Check.f (([(⟨(⟨#[]⟩ : ByteArray), (⟨#[]⟩ : ByteArray)⟩ : S28)] : List (S28)))).bind fun t403 => (if 2 + (x1_1.extract 0 200).size ≤ 9223372036854775807 then (if ((⟨#[97, 58]⟩ : ByteArray) ++ (x1_1.extract 0 200)).size + 66 ≤ 9223372036854775807 then ((chinoiserielaw04_line.f (((⟨#[97, 58]⟩ : ByteArray) ++ (x1_1.extract 0 200)) ++ (⟨#[32, 32, 32, 32, 32, 32, 32, 32, 32, 32, 32, 32, 32, 32, 32, 32, 32, 32, 32, 32, 32, 32, 32, 32, 32, 32, 32, 32, 32, 32, 32, 32, 32, 32, 32, 32, 32, 32, 32, 32, 32, 32, 32, 32, 32, 32, 32, 32, 32, 32, 32, 32, 32, 32, 32, 32, 32, 32, 32, 32, 32, 32, 32, 32, 32, 32]⟩ : ByteArray)) (⟨#[97]⟩ : ByteArray) (x1_1.extract 0 200)).bind fun t404 => (if t404 = true then (if 2 + x1_1.size ≤ 9223372036854775807 then (if 0 ≤ 60 then (if 60 ≤ (x1_1.size : Int) then (if ((⟨#[97, 58]⟩ : ByteArray) ++ x1_1).size + (x1_1.extract 0 60).size ≤ 9223372036854775807 then ((chinoiserielaw04_wrong.f (((⟨#[97, 58]⟩ : ByteArray) ++ x1_1) ++ (x1_1.extract 0 60))).bind fun t405 => (if t405 = true then (if ((⟨#[97, 58]⟩ : ByteArray) ++ (x1_1.extract 0 200)).size + 3 ≤ 9223372036854775807 then ((chinoiserielaw04_HeadLines.f k3 (((⟨#[97, 58]⟩ : ByteArray) ++ (x1_1.extract 0 200)) ++ (⟨#[32, 9, 32]⟩ : ByteArray))).bind fun t406 => (if t406 = true then ((chinoiserielaw04_HeadLines.f k3 (⟨#[]⟩ : ByteArray)).bind fun t407 => (if t407 = true then ((chinoiserielaw04_HeadLines.f k3 (⟨#[58]⟩ : ByteArray)).bind fun t408 => (if t408 = true then ((head_Strip.f x5_3 (⟨#[]⟩ : ByteArray)).bind fun t409 => (if (t409.length : Int) = 0 then ((head_Same.f k3 ([] : List (S28)) (([] : List (S28)))).bind fun t415 => ((chinoiserielaw04_works.f k3).bind fun t416 => (if t416 = true then (if t403 = 40 then (if t415 = true then ((head_Lower.f (⟨#[65, 90, 97, 122, 48, 57, 91]⟩ : ByteArray)).bind fun t417 => ((chinoiserieref00_EqTexts.f k3 (([t417] : List ByteArray)) (([(⟨#[97, 122, 97, 122, 48, 57, 91]⟩ : ByteArray)] : List ByteArray))).bind fun t424 => (some t424))) else (none)) else (none)) else (none)))) else (none))) else (none))) else (none))) else (none))) else (none)) else (none))) else (none)) else (none)) else (none)) else (none)) else (none))) else (none)) else (none))) else (none))) else (none)) else (none)) else (none))) else (none)) else (none)) else (none))) else (none)) else (none)) else (none)) else (none)) else (none)) else (none)) else (none)) else (none))) else (none)))) = some r := by first | (rw [hy374]; with_reducible exact H) | (have H2_ := (Option.bind_some _ _).symm.trans H; rw [hy374]; with_reducible exact H2_) | (have H2_ := (Option.bind_some _ _).symm.trans H; with_reducible exact H2_) | with_reducible exact H | (rw [hy374]; exact H) | exact H
        have Ny374 := Aside0.mk hy374
        clear hy374
        replace H := Option.bind_eq_some_iff.mp H
        obtain ⟨⟨t378, t379⟩, A650, H⟩ := H
        replace H : ((head_Check.f x5_3).bind fun t382 => (if t382 = 5 then ((head_Check.f (x5_3.take 16)).bind fun t387 => (if t387 = 0 then (if t371 = 5 then (if t379 = 0 then (if (t378.length : Int) = 16 then (if 0 ≤ 30 then (if 30 ≤ (x1_1.size : Int) then (if 0 ≤ 200 then (if 200 ≤ (x1_1.size : Int) then ((head_Check.f (([(⟨x1_1.extract 0 30, x1_1.extract 0 200⟩ : S28)] : List (S28)))).bind fun t391 => (if t391 = 0 then (if 0 ≤ 31 then (if 31 ≤ (x1_1.size : Int) then ((head_Check.f (([(⟨x1_1.extract 0 31, (⟨#[]⟩ : ByteArray)⟩ : S28)] : List (S28)))).bind fun t395 => (if t395 = 40 then (if 0 ≤ 201 then (if 201 ≤ (x1_1.size : Int) then ((head_Check.f (([(⟨(⟨#[97]⟩ : ByteArray), x1_1.extract 0 201⟩ : S28)] : List (S28)))).bind fun t399 => (if t399 = 40 then ((head_Check.f (([(⟨(⟨#[]⟩ : ByteArray), (⟨#[]⟩ : ByteArray)⟩ : S28)] : List (S28)))).bind fun t403 => (if 2 + (x1_1.extract 0 200).size ≤ 9223372036854775807 then (if ((⟨#[97, 58]⟩ : ByteArray) ++ (x1_1.extract 0 200)).size + 66 ≤ 9223372036854775807 then ((chinoiserielaw04_line.f (((⟨#[97, 58]⟩ : ByteArray) ++ (x1_1.extract 0 200)) ++ (⟨#[32, 32, 32, 32, 32, 32, 32, 32, 32, 32, 32, 32, 32, 32, 32, 32, 32, 32, 32, 32, 32, 32, 32, 32, 32, 32, 32, 32, 32, 32, 32, 32, 32, 32, 32, 32, 32, 32, 32, 32, 32, 32, 32, 32, 32, 32, 32, 32, 32, 32, 32, 32, 32, 32, 32, 32, 32, 32, 32, 32, 32, 32, 32, 32, 32, 32]⟩ : ByteArray)) (⟨#[97]⟩ : ByteArray) (x1_1.extract 0 200)).bind fun t404 => (if t404 = true then (if 2 + x1_1.size ≤ 9223372036854775807 then (if 0 ≤ 60 then (if 60 ≤ (x1_1.size : Int) then (if ((⟨#[97, 58]⟩ : ByteArray) ++ x1_1).size + (x1_1.extract 0 60).size ≤ 9223372036854775807 then ((chinoiserielaw04_wrong.f (((⟨#[97, 58]⟩ : ByteArray) ++ x1_1) ++ (x1_1.extract 0 60))).bind fun t405 => (if t405 = true then (if ((⟨#[97, 58]⟩ : ByteArray) ++ (x1_1.extract 0 200)).size + 3 ≤ 9223372036854775807 then ((chinoiserielaw04_HeadLines.f k3 (((⟨#[97, 58]⟩ : ByteArray) ++ (x1_1.extract 0 200)) ++ (⟨#[32, 9, 32]⟩ : ByteArray))).bind fun t406 => (if t406 = true then ((chinoiserielaw04_HeadLines.f k3 (⟨#[]⟩ : ByteArray)).bind fun t407 => (if t407 = true then ((chinoiserielaw04_HeadLines.f k3 (⟨#[58]⟩ : ByteArray)).bind fun t408 => (if t408 = true then ((head_Strip.f x5_3 (⟨#[]⟩ : ByteArray)).bind fun t409 => (if (t409.length : Int) = 0 then ((head_Same.f k3 ([] : List (S28)) (([] : List (S28)))).bind fun t415 => ((chinoiserielaw04_works.f k3).bind fun t416 => (if t416 = true then (if t403 = 40 then (if t415 = true then ((head_Lower.f (⟨#[65, 90, 97, 122, 48, 57, 91]⟩ : ByteArray)).bind fun t417 => ((chinoiserieref00_EqTexts.f k3 (([t417] : List ByteArray)) (([(⟨#[97, 122, 97, 122, 48, 57, 91]⟩ : ByteArray)] : List ByteArray))).bind fun t424 => (some t424))) else (none)) else (none)) else (none)))) else (none))) else (none))) else (none))) else (none))) else (none)) else (none))) else (none)) else (none)) else (none)) else (none)) else (none))) else (none)) else (none))) else (none))) else (none)) else (none)) else (none))) else (none)) else (none)) else (none))) else (none)) else (none)) else (none)) else (none)) else (none)) else (none)) else (none)) else (none))) else (none))) = some r := H
        have A65 := Aside0.mk A650
        clear A650
        replace H := Option.bind_eq_some_iff.mp H
        obtain ⟨t382, A660, H⟩ := H
        replace H : (if t382 = 5 then ((head_Check.f (x5_3.take 16)).bind fun t387 => (if t387 = 0 then (if t371 = 5 then (if t379 = 0 then (if (t378.length : Int) = 16 then (if 0 ≤ 30 then (if 30 ≤ (x1_1.size : Int) then (if 0 ≤ 200 then (if 200 ≤ (x1_1.size : Int) then ((head_Check.f (([(⟨x1_1.extract 0 30, x1_1.extract 0 200⟩ : S28)] : List (S28)))).bind fun t391 => (if t391 = 0 then (if 0 ≤ 31 then (if 31 ≤ (x1_1.size : Int) then ((head_Check.f (([(⟨x1_1.extract 0 31, (⟨#[]⟩ : ByteArray)⟩ : S28)] : List (S28)))).bind fun t395 => (if t395 = 40 then (if 0 ≤ 201 then (if 201 ≤ (x1_1.size : Int) then ((head_Check.f (([(⟨(⟨#[97]⟩ : ByteArray), x1_1.extract 0 201⟩ : S28)] : List (S28)))).bind fun t399 => (if t399 = 40 then ((head_Check.f (([(⟨(⟨#[]⟩ : ByteArray), (⟨#[]⟩ : ByteArray)⟩ : S28)] : List (S28)))).bind fun t403 => (if 2 + (x1_1.extract 0 200).size ≤ 9223372036854775807 then (if ((⟨#[97, 58]⟩ : ByteArray) ++ (x1_1.extract 0 200)).size + 66 ≤ 9223372036854775807 then ((chinoiserielaw04_line.f (((⟨#[97, 58]⟩ : ByteArray) ++ (x1_1.extract 0 200)) ++ (⟨#[32, 32, 32, 32, 32, 32, 32, 32, 32, 32, 32, 32, 32, 32, 32, 32, 32, 32, 32, 32, 32, 32, 32, 32, 32, 32, 32, 32, 32, 32, 32, 32, 32, 32, 32, 32, 32, 32, 32, 32, 32, 32, 32, 32, 32, 32, 32, 32, 32, 32, 32, 32, 32, 32, 32, 32, 32, 32, 32, 32, 32, 32, 32, 32, 32, 32]⟩ : ByteArray)) (⟨#[97]⟩ : ByteArray) (x1_1.extract 0 200)).bind fun t404 => (if t404 = true then (if 2 + x1_1.size ≤ 9223372036854775807 then (if 0 ≤ 60 then (if 60 ≤ (x1_1.size : Int) then (if ((⟨#[97, 58]⟩ : ByteArray) ++ x1_1).size + (x1_1.extract 0 60).size ≤ 9223372036854775807 then ((chinoiserielaw04_wrong.f (((⟨#[97, 58]⟩ : ByteArray) ++ x1_1) ++ (x1_1.extract 0 60))).bind fun t405 => (if t405 = true then (if ((⟨#[97, 58]⟩ : ByteArray) ++ (x1_1.extract 0 200)).size + 3 ≤ 9223372036854775807 then ((chinoiserielaw04_HeadLines.f k3 (((⟨#[97, 58]⟩ : ByteArray) ++ (x1_1.extract 0 200)) ++ (⟨#[32, 9, 32]⟩ : ByteArray))).bind fun t406 => (if t406 = true then ((chinoiserielaw04_HeadLines.f k3 (⟨#[]⟩ : ByteArray)).bind fun t407 => (if t407 = true then ((chinoiserielaw04_HeadLines.f k3 (⟨#[58]⟩ : ByteArray)).bind fun t408 => (if t408 = true then ((head_Strip.f x5_3 (⟨#[]⟩ : ByteArray)).bind fun t409 => (if (t409.length : Int) = 0 then ((head_Same.f k3 ([] : List (S28)) (([] : List (S28)))).bind fun t415 => ((chinoiserielaw04_works.f k3).bind fun t416 => (if t416 = true then (if t403 = 40 then (if t415 = true then ((head_Lower.f (⟨#[65, 90, 97, 122, 48, 57, 91]⟩ : ByteArray)).bind fun t417 => ((chinoiserieref00_EqTexts.f k3 (([t417] : List ByteArray)) (([(⟨#[97, 122, 97, 122, 48, 57, 91]⟩ : ByteArray)] : List ByteArray))).bind fun t424 => (some t424))) else (none)) else (none)) else (none)))) else (none))) else (none))) else (none))) else (none))) else (none)) else (none))) else (none)) else (none)) else (none)) else (none)) else (none))) else (none)) else (none))) else (none))) else (none)) else (none)) else (none))) else (none)) else (none)) else (none))) else (none)) else (none)) else (none)) else (none)) else (none)) else (none)) else (none)) else (none))) else (none)) = some r := H
        have A66 := Aside0.mk A660
        clear A660
        by_cases c67 : t382 = 5
        rotate_left
        · rw [if_neg c67] at H
          exact absurd H (by simp)
        rw [if_pos c67] at H
        have c67b0 : (t382 == 5) = true := beq_iff_eq.mpr c67
        have c67b1 : (t382 != 5) = false := bne_eq_false_iff_eq.mpr c67
        clear c67
        have c68b0 := eq_true (of_decide_eq_true (by first | (with_reducible assumption) | assumption) : 16 ≤ (x5_3.length : Int))
        obtain ⟨y383, hy383⟩ : ∃ y_ : List (S28), y_ = (x5_3.take 16) := ⟨_, rfl⟩
        replace H : ((head_Check.f y383).bind fun t387 => (if t387 = 0 then (if t371 = 5 then (if t379 = 0 then (if (t378.length : Int) = 16 then (if 0 ≤ 30 then (if 30 ≤ (x1_1.size : Int) then (if 0 ≤ 200 then (if 200 ≤ (x1_1.size : Int) then ((head_Check.f (([(⟨x1_1.extract 0 30, x1_1.extract 0 200⟩ : S28)] : List (S28)))).bind fun t391 => (if t391 = 0 then (if 0 ≤ 31 then (if 31 ≤ (x1_1.size : Int) then ((head_Check.f (([(⟨x1_1.extract 0 31, (⟨#[]⟩ : ByteArray)⟩ : S28)] : List (S28)))).bind fun t395 => (if t395 = 40 then (if 0 ≤ 201 then (if 201 ≤ (x1_1.size : Int) then ((head_Check.f (([(⟨(⟨#[97]⟩ : ByteArray), x1_1.extract 0 201⟩ : S28)] : List (S28)))).bind fun t399 => (if t399 = 40 then ((head_Check.f (([(⟨(⟨#[]⟩ : ByteArray), (⟨#[]⟩ : ByteArray)⟩ : S28)] : List (S28)))).bind fun t403 => (if 2 + (x1_1.extract 0 200).size ≤ 9223372036854775807 then (if ((⟨#[97, 58]⟩ : ByteArray) ++ (x1_1.extract 0 200)).size + 66 ≤ 9223372036854775807 then ((chinoiserielaw04_line.f (((⟨#[97, 58]⟩ : ByteArray) ++ (x1_1.extract 0 200)) ++ (⟨#[32, 32, 32, 32, 32, 32, 32, 32, 32, 32, 32, 32, 32, 32, 32, 32, 32, 32, 32, 32, 32, 32, 32, 32, 32, 32, 32, 32, 32, 32, 32, 32, 32, 32, 32, 32, 32, 32, 32, 32, 32, 32, 32, 32, 32, 32, 32, 32, 32, 32, 32, 32, 32, 32, 32, 32, 32, 32, 32, 32, 32, 32, 32, 32, 32, 32]⟩ : ByteArray)) (⟨#[97]⟩ : ByteArray) (x1_1.extract 0 200)).bind fun t404 => (if t404 = true then (if 2 + x1_1.size ≤ 9223372036854775807 then (if 0 ≤ 60 then (if 60 ≤ (x1_1.size : Int) then (if ((⟨#[97, 58]⟩ : ByteArray) ++ x1_1).size + (x1_1.extract 0 60).size ≤ 9223372036854775807 then ((chinoiserielaw04_wrong.f (((⟨#[97, 58]⟩ : ByteArray) ++ x1_1) ++ (x1_1.extract 0 60))).bind fun t405 => (if t405 = true then (if ((⟨#[97, 58]⟩ : ByteArray) ++ (x1_1.extract 0 200)).size + 3 ≤ 9223372036854775807 then ((chinoiserielaw04_HeadLines.f k3 (((⟨#[97, 58]⟩ : ByteArray) ++ (x1_1.extract 0 200)) ++ (⟨#[32, 9, 32]⟩ : ByteArray))).bind fun t406 => (if t406 = true then ((chinoiserielaw04_HeadLines.f k3 (⟨#[]⟩ : ByteArray)).bind fun t407 => (if t407 = true then ((chinoiserielaw04_HeadLines.f k3 (⟨#[58]⟩ : ByteArray)).bind fun t408 => (if t408 = true then ((head_Strip.f x5_3 (⟨#[]⟩ : ByteArray)).bind fun t409 => (if (t409.length : Int) = 0 then ((head_Same.f k3 ([] : List (S28)) (([] : List (S28)))).bind fun t415 => ((chinoiserielaw04_works.f k3).bind fun t416 => (if t416 = true then (if t403 = 40 then (if t415 = true then ((head_Lower.f (⟨#[65, 90, 97, 122, 48, 57, 91]⟩ : ByteArray)).bind fun t417 => ((chinoiserieref00_EqTexts.f k3 (([t417] : List ByteArray)) (([(⟨#[97, 122, 97, 122, 48, 57, 91]⟩ : ByteArray)] : List ByteArray))).bind fun t424 => (some t424))) else (none)) else (none)) else (none)))) else (none))) else (none))) else (none))) else (none))) else (none)) else (none))) else (none)) else (none)) else (none)) else (none)) else (none))) else (none)) else (none))) else (none))) else (none)) else (none)) else (none))) else (none)) else (none)) else (none))) else (none)) else (none)) else (none)) else (none)) else (none)) else (none)) else (none)) else (none))) = some r := by first | (rw [hy383]; with_reducible exact H) | (have H2_ := (Option.bind_some _ _).symm.trans H; rw [hy383]; with_reducible exact H2_) | (have H2_ := (Option.bind_some _ _).symm.trans H; with_reducible exact H2_) | with_reducible exact H | (rw [hy383]; exact H) | exact H
        have Ny383 := Aside0.mk hy383
        clear hy383
        replace H := Option.bind_eq_some_iff.mp H
        obtain ⟨t387, A690, H⟩ := H
        replace H : (if t387 = 0 then (if t371 = 5 then (if t379 = 0 then (if (t378.length : Int) = 16 then (if 0 ≤ 30 then (if 30 ≤ (x1_1.size : Int) then (if 0 ≤ 200 then (if 200 ≤ (x1_1.size : Int) then ((head_Check.f (([(⟨x1_1.extract 0 30, x1_1.extract 0 200⟩ : S28)] : List (S28)))).bind fun t391 => (if t391 = 0 then (if 0 ≤ 31 then (if 31 ≤ (x1_1.size : Int) then ((head_Check.f (([(⟨x1_1.extract 0 31, (⟨#[]⟩ : ByteArray)⟩ : S28)] : List (S28)))).bind fun t395 => (if t395 = 40 then (if 0 ≤ 201 then (if 201 ≤ (x1_1.size : Int) then ((head_Check.f (([(⟨(⟨#[97]⟩ : ByteArray), x1_1.extract 0 201⟩ : S28)] : List (S28)))).bind fun t399 => (if t399 = 40 then ((head_Check.f (([(⟨(⟨#[]⟩ : ByteArray), (⟨#[]⟩ : ByteArray)⟩ : S28)] : List (S28)))).bind fun t403 => (if 2 + (x1_1.extract 0 200).size ≤ 9223372036854775807 then (if ((⟨#[97, 58]⟩ : ByteArray) ++ (x1_1.extract 0 200)).size + 66 ≤ 9223372036854775807 then ((chinoiserielaw04_line.f (((⟨#[97, 58]⟩ : ByteArray) ++ (x1_1.extract 0 200)) ++ (⟨#[32, 32, 32, 32, 32, 32, 32, 32, 32, 32, 32, 32, 32, 32, 32, 32, 32, 32, 32, 32, 32, 32, 32, 32, 32, 32, 32, 32, 32, 32, 32, 32, 32, 32, 32, 32, 32, 32, 32, 32, 32, 32, 32, 32, 32, 32, 32, 32, 32, 32, 32, 32, 32, 32, 32, 32, 32, 32, 32, 32, 32, 32, 32, 32, 32, 32]⟩ : ByteArray)) (⟨#[97]⟩ : ByteArray) (x1_1.extract 0 200)).bind fun t404 => (if t404 = true then (if 2 + x1_1.size ≤ 9223372036854775807 then (if 0 ≤ 60 then (if 60 ≤ (x1_1.size : Int) then (if ((⟨#[97, 58]⟩ : ByteArray) ++ x1_1).size + (x1_1.extract 0 60).size ≤ 9223372036854775807 then ((chinoiserielaw04_wrong.f (((⟨#[97, 58]⟩ : ByteArray) ++ x1_1) ++ (x1_1.extract 0 60))).bind fun t405 => (if t405 = true then (if ((⟨#[97, 58]⟩ : ByteArray) ++ (x1_1.extract 0 200)).size + 3 ≤ 9223372036854775807 then ((chinoiserielaw04_HeadLines.f k3 (((⟨#[97, 58]⟩ : ByteArray) ++ (x1_1.extract 0 200)) ++ (⟨#[32, 9, 32]⟩ : ByteArray))).bind fun t406 => (if t406 = true then ((chinoiserielaw04_HeadLines.f k3 (⟨#[]⟩ : ByteArray)).bind fun t407 => (if t407 = true then ((chinoiserielaw04_HeadLines.f k3 (⟨#[58]⟩ : ByteArray)).bind fun t408 => (if t408 = true then ((head_Strip.f x5_3 (⟨#[]⟩ : ByteArray)).bind fun t409 => (if (t409.length : Int) = 0 then ((head_Same.f k3 ([] : List (S28)) (([] : List (S28)))).bind fun t415 => ((chinoiserielaw04_works.f k3).bind fun t416 => (if t416 = true then (if t403 = 40 then (if t415 = true then ((head_Lower.f (⟨#[65, 90, 97, 122, 48, 57, 91]⟩ : ByteArray)).bind fun t417 => ((chinoiserieref00_EqTexts.f k3 (([t417] : List ByteArray)) (([(⟨#[97, 122, 97, 122, 48, 57, 91]⟩ : ByteArray)] : List ByteArray))).bind fun t424 => (some t424))) else (none)) else (none)) else (none)))) else (none))) else (none))) else (none))) else (none))) else (none)) else (none))) else (none)) else (none)) else (none)) else (none)) else (none))) else (none)) else (none))) else (none))) else (none)) else (none)) else (none))) else (none)) else (none)) else (none))) else (none)) else (none)) else (none)) else (none)) else (none)) else (none)) else (none)) else (none)) = some r := H
        have A69 := Aside0.mk A690
        clear A690
        by_cases c70 : t387 = 0
        rotate_left
        · rw [if_neg c70] at H
          exact absurd H (by simp)
        rw [if_pos c70] at H
        have c70b0 : (t387 == 0) = true := beq_iff_eq.mpr c70
        have c70b1 : (t387 != 0) = false := bne_eq_false_iff_eq.mpr c70
        clear c70
        by_cases c71 : t371 = 5
        rotate_left
        · rw [if_neg c71] at H
          exact absurd H (by simp)
        rw [if_pos c71] at H
        have c71b0 : (t371 == 5) = true := beq_iff_eq.mpr c71
        have c71b1 : (t371 != 5) = false := bne_eq_false_iff_eq.mpr c71
        clear c71
        by_cases c72 : t379 = 0
        rotate_left
        · rw [if_neg c72] at H
          exact absurd H (by simp)
        rw [if_pos c72] at H
        have c72b0 : (t379 == 0) = true := beq_iff_eq.mpr c72
        have c72b1 : (t379 != 0) = false := bne_eq_false_iff_eq.mpr c72
        clear c72
        by_cases c73 : (t378.length : Int) = 16
        rotate_left
        · rw [if_neg c73] at H
          exact absurd H (by simp)
        rw [if_pos c73] at H
        have c73b0 : ((t378.length : Int) == 16) = true := beq_iff_eq.mpr c73
        have c73b1 : ((t378.length : Int) != 16) = false := bne_eq_false_iff_eq.mpr c73
        clear c73
        by_cases c74 : 0 ≤ 30
        rotate_left
        · rw [if_neg c74] at H
          exact absurd H (by simp)
        rw [if_pos c74] at H
        have c74b0 := eq_true c74
        have c74b1 : decide (0 ≤ 30) = true := decide_eq_true c74
        clear c74
        by_cases c75 : 30 ≤ (x1_1.size : Int)
        rotate_left
        · rw [if_neg c75] at H
          exact absurd H (by simp)
        rw [if_pos c75] at H
        have c75b0 := eq_true c75
        have c75b1 : decide (30 ≤ (x1_1.size : Int)) = true := decide_eq_true c75
        clear c75
        by_cases c76 : 0 ≤ 200
        rotate_left
        · rw [if_neg c76] at H
          exact absurd H (by simp)
        rw [if_pos c76] at H
        have c76b0 := eq_true c76
        have c76b1 : decide (0 ≤ 200) = true := decide_eq_true c76
        clear c76
        by_cases c77 : 200 ≤ (x1_1.size : Int)
        rotate_left
        · rw [if_neg c77] at H
          exact absurd H (by simp)
        rw [if_pos c77] at H
        have c77b0 := eq_true c77
        have c77b1 : decide (200 ≤ (x1_1.size : Int)) = true := decide_eq_true c77
        clear c77
        obtain ⟨y388, hy388⟩ : ∃ y_ : List (S28), y_ = (([(⟨x1_1.extract 0 30, x1_1.extract 0 200⟩ : S28)] : List (S28))) := ⟨_, rfl⟩
        replace H : ((head_Check.f y388).bind fun t391 => (if t391 = 0 then (if 0 ≤ 31 then (if 31 ≤ (x1_1.size : Int) then ((head_Check.f (([(⟨x1_1.extract 0 31, (⟨#[]⟩ : ByteArray)⟩ : S28)] : List (S28)))).bind fun t395 => (if t395 = 40 then (if 0 ≤ 201 then (if 201 ≤ (x1_1.size : Int) then ((head_Check.f (([(⟨(⟨#[97]⟩ : ByteArray), x1_1.extract 0 201⟩ : S28)] : List (S28)))).bind fun t399 => (if t399 = 40 then ((head_Check.f (([(⟨(⟨#[]⟩ : ByteArray), (⟨#[]⟩ : ByteArray)⟩ : S28)] : List (S28)))).bind fun t403 => (if 2 + (x1_1.extract 0 200).size ≤ 9223372036854775807 then (if ((⟨#[97, 58]⟩ : ByteArray) ++ (x1_1.extract 0 200)).size + 66 ≤ 9223372036854775807 then ((chinoiserielaw04_line.f (((⟨#[97, 58]⟩ : ByteArray) ++ (x1_1.extract 0 200)) ++ (⟨#[32, 32, 32, 32, 32, 32, 32, 32, 32, 32, 32, 32, 32, 32, 32, 32, 32, 32, 32, 32, 32, 32, 32, 32, 32, 32, 32, 32, 32, 32, 32, 32, 32, 32, 32, 32, 32, 32, 32, 32, 32, 32, 32, 32, 32, 32, 32, 32, 32, 32, 32, 32, 32, 32, 32, 32, 32, 32, 32, 32, 32, 32, 32, 32, 32, 32]⟩ : ByteArray)) (⟨#[97]⟩ : ByteArray) (x1_1.extract 0 200)).bind fun t404 => (if t404 = true then (if 2 + x1_1.size ≤ 9223372036854775807 then (if 0 ≤ 60 then (if 60 ≤ (x1_1.size : Int) then (if ((⟨#[97, 58]⟩ : ByteArray) ++ x1_1).size + (x1_1.extract 0 60).size ≤ 9223372036854775807 then ((chinoiserielaw04_wrong.f (((⟨#[97, 58]⟩ : ByteArray) ++ x1_1) ++ (x1_1.extract 0 60))).bind fun t405 => (if t405 = true then (if ((⟨#[97, 58]⟩ : ByteArray) ++ (x1_1.extract 0 200)).size + 3 ≤ 9223372036854775807 then ((chinoiserielaw04_HeadLines.f k3 (((⟨#[97, 58]⟩ : ByteArray) ++ (x1_1.extract 0 200)) ++ (⟨#[32, 9, 32]⟩ : ByteArray))).bind fun t406 => (if t406 = true then ((chinoiserielaw04_HeadLines.f k3 (⟨#[]⟩ : ByteArray)).bind fun t407 => (if t407 = true then ((chinoiserielaw04_HeadLines.f k3 (⟨#[58]⟩ : ByteArray)).bind fun t408 => (if t408 = true then ((head_Strip.f x5_3 (⟨#[]⟩ : ByteArray)).bind fun t409 => (if (t409.length : Int) = 0 then ((head_Same.f k3 ([] : List (S28)) (([] : List (S28)))).bind fun t415 => ((chinoiserielaw04_works.f k3).bind fun t416 => (if t416 = true then (if t403 = 40 then (if t415 = true then ((head_Lower.f (⟨#[65, 90, 97, 122, 48, 57, 91]⟩ : ByteArray)).bind fun t417 => ((chinoiserieref00_EqTexts.f k3 (([t417] : List ByteArray)) (([(⟨#[97, 122, 97, 122, 48, 57, 91]⟩ : ByteArray)] : List ByteArray))).bind fun t424 => (some t424))) else (none)) else (none)) else (none)))) else (none))) else (none))) else (none))) else (none))) else (none)) else (none))) else (none)) else (none)) else (none)) else (none)) else (none))) else (none)) else (none))) else (none))) else (none)) else (none)) else (none))) else (none)) else (none)) else (none))) = some r := by first | (rw [hy388]; with_reducible exact H) | (have H2_ := (Option.bind_some _ _).symm.trans H; rw [hy388]; with_reducible exact H2_) | (have H2_ := (Option.bind_some _ _).symm.trans H; with_reducible exact H2_) | with_reducible exact H | (rw [hy388]; exact H) | exact H
        have Ny388 := Aside0.mk hy388
        clear hy388
        replace H := Option.bind_eq_some_iff.mp H
        obtain ⟨t391, A780, H⟩ := H
        replace H : (if t391 = 0 then (if 0 ≤ 31 then (if 31 ≤ (x1_1.size : Int) then ((head_Check.f (([(⟨x1_1.extract 0 31, (⟨#[]⟩ : ByteArray)⟩ : S28)] : List (S28)))).bind fun t395 => (if t395 = 40 then (if 0 ≤ 201 then (if 201 ≤ (x1_1.size : Int) then ((head_Check.f (([(⟨(⟨#[97]⟩ : ByteArray), x1_1.extract 0 201⟩ : S28)] : List (S28)))).bind fun t399 => (if t399 = 40 then ((head_Check.f (([(⟨(⟨#[]⟩ : ByteArray), (⟨#[]⟩ : ByteArray)⟩ : S28)] : List (S28)))).bind fun t403 => (if 2 + (x1_1.extract 0 200).size ≤ 9223372036854775807 then (if ((⟨#[97, 58]⟩ : ByteArray) ++ (x1_1.extract 0 200)).size + 66 ≤ 9223372036854775807 then ((chinoiserielaw04_line.f (((⟨#[97, 58]⟩ : ByteArray) ++ (x1_1.extract 0 200)) ++ (⟨#[32, 32, 32, 32, 32, 32, 32, 32, 32, 32, 32, 32, 32, 32, 32, 32, 32, 32, 32, 32, 32, 32, 32, 32, 32, 32, 32, 32, 32, 32, 32, 32, 32, 32, 32, 32, 32, 32, 32, 32, 32, 32, 32, 32, 32, 32, 32, 32, 32, 32, 32, 32, 32, 32, 32, 32, 32, 32, 32, 32, 32, 32, 32, 32, 32, 32]⟩ : ByteArray)) (⟨#[97]⟩ : ByteArray) (x1_1.extract 0 200)).bind fun t404 => (if t404 = true then (if 2 + x1_1.size ≤ 9223372036854775807 then (if 0 ≤ 60 then (if 60 ≤ (x1_1.size : Int) then (if ((⟨#[97, 58]⟩ : ByteArray) ++ x1_1).size + (x1_1.extract 0 60).size ≤ 9223372036854775807 then ((chinoiserielaw04_wrong.f (((⟨#[97, 58]⟩ : ByteArray) ++ x1_1) ++ (x1_1.extract 0 60))).bind fun t405 => (if t405 = true then (if ((⟨#[97, 58]⟩ : ByteArray) ++ (x1_1.extract 0 200)).size + 3 ≤ 9223372036854775807 then ((chinoiserielaw04_HeadLines.f k3 (((⟨#[97, 58]⟩ : ByteArray) ++ (x1_1.extract 0 200)) ++ (⟨#[32, 9, 32]⟩ : ByteArray))).bind fun t406 => (if t406 = true then ((chinoiserielaw04_HeadLines.f k3 (⟨#[]⟩ : ByteArray)).bind fun t407 => (if t407 = true then ((chinoiserielaw04_HeadLines.f k3 (⟨#[58]⟩ : ByteArray)).bind fun t408 => (if t408 = true then ((head_Strip.f x5_3 (⟨#[]⟩ : ByteArray)).bind fun t409 => (if (t409.length : Int) = 0 then ((head_Same.f k3 ([] : List (S28)) (([] : List (S28)))).bind fun t415 => ((chinoiserielaw04_works.f k3).bind fun t416 => (if t416 = true then (if t403 = 40 then (if t415 = true then ((head_Lower.f (⟨#[65, 90, 97, 122, 48, 57, 91]⟩ : ByteArray)).bind fun t417 => ((chinoiserieref00_EqTexts.f k3 (([t417] : List ByteArray)) (([(⟨#[97, 122, 97, 122, 48, 57, 91]⟩ : ByteArray)] : List ByteArray))).bind fun t424 => (some t424))) else (none)) else (none)) else (none)))) else (none))) else (none))) else (none))) else (none))) else (none)) else (none))) else (none)) else (none)) else (none)) else (none)) else (none))) else (none)) else (none))) else (none))) else (none)) else (none)) else (none))) else (none)) else (none)) else (none)) = some r := H
        have A78 := Aside0.mk A780
        clear A780
        by_cases c79 : t391 = 0
        rotate_left
        · rw [if_neg c79] at H
          exact absurd H (by simp)
        rw [if_pos c79] at H
        have c79b0 : (t391 == 0) = true := beq_iff_eq.mpr c79
        have c79b1 : (t391 != 0) = false := bne_eq_false_iff_eq.mpr c79
        clear c79
        by_cases c80 : 0 ≤ 31
        rotate_left
        · rw [if_neg c80] at H
          exact absurd H (by simp)
        rw [if_pos c80] at H
        have c80b0 := eq_true c80
        have c80b1 : decide (0 ≤ 31) = true := decide_eq_true c80
        clear c80
        by_cases c81 : 31 ≤ (x1_1.size : Int)
        rotate_left
        · rw [if_neg c81] at H
          exact absurd H (by simp)
        rw [if_pos c81] at H
        have c81b0 := eq_true c81
        have c81b1 : decide (31 ≤ (x1_1.size : Int)) = true := decide_eq_true c81
        clear c81
        obtain ⟨y392, hy392⟩ : ∃ y_ : List (S28), y_ = (([(⟨x1_1.extract 0 31, (⟨#[]⟩ : ByteArray)⟩ : S28)] : List (S28))) := ⟨_, rfl⟩
        replace H : ((head_Check.f y392).bind fun t395 => (if t395 = 40 then (if 0 ≤ 201 then (if 201 ≤ (x1_1.size : Int) then ((head_Check.f (([(⟨(⟨#[97]⟩ : ByteArray), x1_1.extract 0 201⟩ : S28)] : List (S28)))).bind fun t399 => (if t399 = 40 then ((head_Check.f (([(⟨(⟨#[]⟩ : ByteArray), (⟨#[]⟩ : ByteArray)⟩ : S28)] : List (S28)))).bind fun t403 => (if 2 + (x1_1.extract 0 200).size ≤ 9223372036854775807 then (if ((⟨#[97, 58]⟩ : ByteArray) ++ (x1_1.extract 0 200)).size + 66 ≤ 9223372036854775807 then ((chinoiserielaw04_line.f (((⟨#[97, 58]⟩ : ByteArray) ++ (x1_1.extract 0 200)) ++ (⟨#[32, 32, 32, 32, 32, 32, 32, 32, 32, 32, 32, 32, 32, 32, 32, 32, 32, 32, 32, 32, 32, 32, 32, 32, 32, 32, 32, 32, 32, 32, 32, 32, 32, 32, 32, 32, 32, 32, 32, 32, 32, 32, 32, 32, 32, 32, 32, 32, 32, 32, 32, 32, 32, 32, 32, 32, 32, 32, 32, 32, 32, 32, 32, 32, 32, 32]⟩ : ByteArray)) (⟨#[97]⟩ : ByteArray) (x1_1.extract 0 200)).bind fun t404 => (if t404 = true then (if 2 + x1_1.size ≤ 9223372036854775807 then (if 0 ≤ 60 then (if 60 ≤ (x1_1.size : Int) then (if ((⟨#[97, 58]⟩ : ByteArray) ++ x1_1).size + (x1_1.extract 0 60).size ≤ 9223372036854775807 then ((chinoiserielaw04_wrong.f (((⟨#[97, 58]⟩ : ByteArray) ++ x1_1) ++ (x1_1.extract 0 60))).bind fun t405 => (if t405 = true then (if ((⟨#[97, 58]⟩ : ByteArray) ++ (x1_1.extract 0 200)).size + 3 ≤ 9223372036854775807 then ((chinoiserielaw04_HeadLines.f k3 (((⟨#[97, 58]⟩ : ByteArray) ++ (x1_1.extract 0 200)) ++ (⟨#[32, 9, 32]⟩ : ByteArray))).bind fun t406 => (if t406 = true then ((chinoiserielaw04_HeadLines.f k3 (⟨#[]⟩ : ByteArray)).bind fun t407 => (if t407 = true then ((chinoiserielaw04_HeadLines.f k3 (⟨#[58]⟩ : ByteArray)).bind fun t408 => (if t408 = true then ((head_Strip.f x5_3 (⟨#[]⟩ : ByteArray)).bind fun t409 => (if (t409.length : Int) = 0 then ((head_Same.f k3 ([] : List (S28)) (([] : List (S28)))).bind fun t415 => ((chinoiserielaw04_works.f k3).bind fun t416 => (if t416 = true then (if t403 = 40 then (if t415 = true then ((head_Lower.f (⟨#[65, 90, 97, 122, 48, 57, 91]⟩ : ByteArray)).bind fun t417 => ((chinoiserieref00_EqTexts.f k3 (([t417] : List ByteArray)) (([(⟨#[97, 122, 97, 122, 48, 57, 91]⟩ : ByteArray)] : List ByteArray))).bind fun t424 => (some t424))) else (none)) else (none)) else (none)))) else (none))) else (none))) else (none))) else (none))) else (none)) else (none))) else (none)) else (none)) else (none)) else (none)) else (none))) else (none)) else (none))) else (none))) else (none)) else (none)) else (none))) = some r := by first | (rw [hy392]; with_reducible exact H) | (have H2_ := (Option.bind_some _ _).symm.trans H; rw [hy392]; with_reducible exact H2_) | (have H2_ := (Option.bind_some _ _).symm.trans H; with_reducible exact H2_) | with_reducible exact H | (rw [hy392]; exact H) | exact H
        have Ny392 := Aside0.mk hy392
        clear hy392
        replace H := Option.bind_eq_some_iff.mp H
        obtain ⟨t395, A820, H⟩ := H
        replace H : (if t395 = 40 then (if 0 ≤ 201 then (if 201 ≤ (x1_1.size : Int) then ((head_Check.f (([(⟨(⟨#[97]⟩ : ByteArray), x1_1.extract 0 201⟩ : S28)] : List (S28)))).bind fun t399 => (if t399 = 40 then ((head_Check.f (([(⟨(⟨#[]⟩ : ByteArray), (⟨#[]⟩ : ByteArray)⟩ : S28)] : List (S28)))).bind fun t403 => (if 2 + (x1_1.extract 0 200).size ≤ 9223372036854775807 then (if ((⟨#[97, 58]⟩ : ByteArray) ++ (x1_1.extract 0 200)).size + 66 ≤ 9223372036854775807 then ((chinoiserielaw04_line.f (((⟨#[97, 58]⟩ : ByteArray) ++ (x1_1.extract 0 200)) ++ (⟨#[32, 32, 32, 32, 32, 32, 32, 32, 32, 32, 32, 32, 32, 32, 32, 32, 32, 32, 32, 32, 32, 32, 32, 32, 32, 32, 32, 32, 32, 32, 32, 32, 32, 32, 32, 32, 32, 32, 32, 32, 32, 32, 32, 32, 32, 32, 32, 32, 32, 32, 32, 32, 32, 32, 32, 32, 32, 32, 32, 32, 32, 32, 32, 32, 32, 32]⟩ : ByteArray)) (⟨#[97]⟩ : ByteArray) (x1_1.extract 0 200)).bind fun t404 => (if t404 = true then (if 2 + x1_1.size ≤ 9223372036854775807 then (if 0 ≤ 60 then (if 60 ≤ (x1_1.size : Int) then (if ((⟨#[97, 58]⟩ : ByteArray) ++ x1_1).size + (x1_1.extract 0 60).size ≤ 9223372036854775807 then ((chinoiserielaw04_wrong.f (((⟨#[97, 58]⟩ : ByteArray) ++ x1_1) ++ (x1_1.extract 0 60))).bind fun t405 => (if t405 = true then (if ((⟨#[97, 58]⟩ : ByteArray) ++ (x1_1.extract 0 200)).size + 3 ≤ 9223372036854775807 then ((chinoiserielaw04_HeadLines.f k3 (((⟨#[97, 58]⟩ : ByteArray) ++ (x1_1.extract 0 200)) ++ (⟨#[32, 9, 32]⟩ : ByteArray))).bind fun t406 => (if t406 = true then ((chinoiserielaw04_HeadLines.f k3 (⟨#[]⟩ : ByteArray)).bind fun t407 => (if t407 = true then ((chinoiserielaw04_HeadLines.f k3 (⟨#[58]⟩ : ByteArray)).bind fun t408 => (if t408 = true then ((head_Strip.f x5_3 (⟨#[]⟩ : ByteArray)).bind fun t409 => (if (t409.length : Int) = 0 then ((head_Same.f k3 ([] : List (S28)) (([] : List (S28)))).bind fun t415 => ((chinoiserielaw04_works.f k3).bind fun t416 => (if t416 = true then (if t403 = 40 then (if t415 = true then ((head_Lower.f (⟨#[65, 90, 97, 122, 48, 57, 91]⟩ : ByteArray)).bind fun t417 => ((chinoiserieref00_EqTexts.f k3 (([t417] : List ByteArray)) (([(⟨#[97, 122, 97, 122, 48, 57, 91]⟩ : ByteArray)] : List ByteArray))).bind fun t424 => (some t424))) else (none)) else (none)) else (none)))) else (none))) else (none))) else (none))) else (none))) else (none)) else (none))) else (none)) else (none)) else (none)) else (none)) else (none))) else (none)) else (none))) else (none))) else (none)) else (none)) else (none)) = some r := H
        have A82 := Aside0.mk A820
        clear A820
        by_cases c83 : t395 = 40
        rotate_left
        · rw [if_neg c83] at H
          exact absurd H (by simp)
        rw [if_pos c83] at H
        have c83b0 : (t395 == 40) = true := beq_iff_eq.mpr c83
        have c83b1 : (t395 != 40) = false := bne_eq_false_iff_eq.mpr c83
        clear c83
        by_cases c84 : 0 ≤ 201
        rotate_left
        · rw [if_neg c84] at H
          exact absurd H (by simp)
        rw [if_pos c84] at H
        have c84b0 := eq_true c84
        have c84b1 : decide (0 ≤ 201) = true := decide_eq_true c84
        clear c84
        by_cases c85 : 201 ≤ (x1_1.size : Int)
        rotate_left
        · rw [if_neg c85] at H
          exact absurd H (by simp)
        rw [if_pos c85] at H
        have c85b0 := eq_true c85
        have c85b1 : decide (201 ≤ (x1_1.size : Int)) = true := decide_eq_true c85
        clear c85
        obtain ⟨y396, hy396⟩ : ∃ y_ : List (S28), y_ = (([(⟨(⟨#[97]⟩ : ByteArray), x1_1.extract 0 201⟩ : S28)] : List (S28))) := ⟨_, rfl⟩
        replace H : ((head_Check.f y396).bind fun t399 => (if t399 = 40 then ((head_Check.f (([(⟨(⟨#[]⟩ : ByteArray), (⟨#[]⟩ : ByteArray)⟩ : S28)] : List (S28)))).bind fun t403 => (if 2 + (x1_1.extract 0 200).size ≤ 9223372036854775807 then (if ((⟨#[97, 58]⟩ : ByteArray) ++ (x1_1.extract 0 200)).size + 66 ≤ 9223372036854775807 then ((chinoiserielaw04_line.f (((⟨#[97, 58]⟩ : ByteArray) ++ (x1_1.extract 0 200)) ++ (⟨#[32, 32, 32, 32, 32, 32, 32, 32, 32, 32, 32, 32, 32, 32, 32, 32, 32, 32, 32, 32, 32, 32, 32, 32, 32, 32, 32, 32, 32, 32, 32, 32, 32, 32, 32, 32, 32, 32, 32, 32, 32, 32, 32, 32, 32, 32, 32, 32, 32, 32, 32, 32, 32, 32, 32, 32, 32, 32, 32, 32, 32, 32, 32, 32, 32, 32]⟩ : ByteArray)) (⟨#[97]⟩ : ByteArray) (x1_1.extract 0 200)).bind fun t404 => (if t404 = true then (if 2 + x1_1.size ≤ 9223372036854775807 then (if 0 ≤ 60 then (if 60 ≤ (x1_1.size : Int) then (if ((⟨#[97, 58]⟩ : ByteArray) ++ x1_1).size + (x1_1.extract 0 60).size ≤ 9223372036854775807 then ((chinoiserielaw04_wrong.f (((⟨#[97, 58]⟩ : ByteArray) ++ x1_1) ++ (x1_1.extract 0 60))).bind fun t405 => (if t405 = true then (if ((⟨#[97, 58]⟩ : ByteArray) ++ (x1_1.extract 0 200)).size + 3 ≤ 9223372036854775807 then ((chinoiserielaw04_HeadLines.f k3 (((⟨#[97, 58]⟩ : ByteArray) ++ (x1_1.extract 0 200)) ++ (⟨#[32, 9, 32]⟩ : ByteArray))).bind fun t406 => (if t406 = true then ((chinoiserielaw04_HeadLines.f k3 (⟨#[]⟩ : ByteArray)).bind fun t407 => (if t407 = true then ((chinoiserielaw04_HeadLines.f k3 (⟨#[58]⟩ : ByteArray)).bind fun t408 => (if t408 = true then ((head_Strip.f x5_3 (⟨#[]⟩ : ByteArray)).bind fun t409 => (if (t409.length : Int) = 0 then ((head_Same.f k3 ([] : List (S28)) (([] : List (S28)))).bind fun t415 => ((chinoiserielaw04_works.f k3).bind fun t416 => (if t416 = true then (if t403 = 40 then (if t415 = true then ((head_Lower.f (⟨#[65, 90, 97, 122, 48, 57, 91]⟩ : ByteArray)).bind fun t417 => ((chinoiserieref00_EqTexts.f k3 (([t417] : List ByteArray)) (([(⟨#[97, 122, 97, 122, 48, 57, 91]⟩ : ByteArray)] : List ByteArray))).bind fun t424 => (some t424))) else (none)) else (none)) else (none)))) else (none))) else (none))) else (none))) else (none))) else (none)) else (none))) else (none)) else (none)) else (none)) else (none)) else (none))) else (none)) else (none))) else (none))) = some r := by first | (rw [hy396]; with_reducible exact H) | (have H2_ := (Option.bind_some _ _).symm.trans H; rw [hy396]; with_reducible exact H2_) | (have H2_ := (Option.bind_some _ _).symm.trans H; with_reducible exact H2_) | with_reducible exact H | (rw [hy396]; exact H) | exact H
        have Ny396 := Aside0.mk hy396
        clear hy396
        replace H := Option.bind_eq_some_iff.mp H
        obtain ⟨t399, A860, H⟩ := H
        replace H : (if t399 = 40 then ((head_Check.f (([(⟨(⟨#[]⟩ : ByteArray), (⟨#[]⟩ : ByteArray)⟩ : S28)] : List (S28)))).bind fun t403 => (if 2 + (x1_1.extract 0 200).size ≤ 9223372036854775807 then (if ((⟨#[97, 58]⟩ : ByteArray) ++ (x1_1.extract 0 200)).size + 66 ≤ 9223372036854775807 then ((chinoiserielaw04_line.f (((⟨#[97, 58]⟩ : ByteArray) ++ (x1_1.extract 0 200)) ++ (⟨#[32, 32, 32, 32, 32, 32, 32, 32, 32, 32, 32, 32, 32, 32, 32, 32, 32, 32, 32, 32, 32, 32, 32, 32, 32, 32, 32, 32, 32, 32, 32, 32, 32, 32, 32, 32, 32, 32, 32, 32, 32, 32, 32, 32, 32, 32, 32, 32, 32, 32, 32, 32, 32, 32, 32, 32, 32, 32, 32, 32, 32, 32, 32, 32, 32, 32]⟩ : ByteArray)) (⟨#[97]⟩ : ByteArray) (x1_1.extract 0 200)).bind fun t404 => (if t404 = true then (if 2 + x1_1.size ≤ 9223372036854775807 then (if 0 ≤ 60 then (if 60 ≤ (x1_1.size : Int) then (if ((⟨#[97, 58]⟩ : ByteArray) ++ x1_1).size + (x1_1.extract 0 60).size ≤ 9223372036854775807 then ((chinoiserielaw04_wrong.f (((⟨#[97, 58]⟩ : ByteArray) ++ x1_1) ++ (x1_1.extract 0 60))).bind fun t405 => (if t405 = true then (if ((⟨#[97, 58]⟩ : ByteArray) ++ (x1_1.extract 0 200)).size + 3 ≤ 9223372036854775807 then ((chinoiserielaw04_HeadLines.f k3 (((⟨#[97, 58]⟩ : ByteArray) ++ (x1_1.extract 0 200)) ++ (⟨#[32, 9, 32]⟩ : ByteArray))).bind fun t406 => (if t406 = true then ((chinoiserielaw04_HeadLines.f k3 (⟨#[]⟩ : ByteArray)).bind fun t407 => (if t407 = true then ((chinoiserielaw04_HeadLines.f k3 (⟨#[58]⟩ : ByteArray)).bind fun t408 => (if t408 = true then ((head_Strip.f x5_3 (⟨#[]⟩ : ByteArray)).bind fun t409 => (if (t409.length : Int) = 0 then ((head_Same.f k3 ([] : List (S28)) (([] : List (S28)))).bind fun t415 => ((chinoiserielaw04_works.f k3).bind fun t416 => (if t416 = true then (if t403 = 40 then (if t415 = true then ((head_Lower.f (⟨#[65, 90, 97, 122, 48, 57, 91]⟩ : ByteArray)).bind fun t417 => ((chinoiserieref00_EqTexts.f k3 (([t417] : List ByteArray)) (([(⟨#[97, 122, 97, 122, 48, 57, 91]⟩ : ByteArray)] : List ByteArray))).bind fun t424 => (some t424))) else (none)) else (none)) else (none)))) else (none))) else (none))) else (none))) else (none))) else (none)) else (none))) else (none)) else (none)) else (none)) else (none)) else (none))) else (none)) else (none))) else (none)) = some r := H
        have A86 := Aside0.mk A860
        clear A860
        by_cases c87 : t399 = 40
        rotate_left
        · rw [if_neg c87] at H
          exact absurd H (by simp)
        rw [if_pos c87] at H
        have c87b0 : (t399 == 40) = true := beq_iff_eq.mpr c87
        have c87b1 : (t399 != 40) = false := bne_eq_false_iff_eq.mpr c87
        clear c87
        obtain ⟨y400, hy400⟩ : ∃ y_ : List (S28), y_ = (([(⟨(⟨#[]⟩ : ByteArray), (⟨#[]⟩ : ByteArray)⟩ : S28)] : List (S28))) := ⟨_, rfl⟩
        replace H : ((head_Check.f y400).bind fun t403 => (if 2 + (x1_1.extract 0 200).size ≤ 9223372036854775807 then (if ((⟨#[97, 58]⟩ : ByteArray) ++ (x1_1.extract 0 200)).size + 66 ≤ 9223372036854775807 then ((chinoiserielaw04_line.f (((⟨#[97, 58]⟩ : ByteArray) ++ (x1_1.extract 0 200)) ++ (⟨#[32, 32, 32, 32, 32, 32, 32, 32, 32, 32, 32, 32, 32, 32, 32, 32, 32, 32, 32, 32, 32, 32, 32, 32, 32, 32, 32, 32, 32, 32, 32, 32, 32, 32, 32, 32, 32, 32, 32, 32, 32, 32, 32, 32, 32, 32, 32, 32, 32, 32, 32, 32, 32, 32, 32, 32, 32, 32, 32, 32, 32, 32, 32, 32, 32, 32]⟩ : ByteArray)) (⟨#[97]⟩ : ByteArray) (x1_1.extract 0 200)).bind fun t404 => (if t404 = true then (if 2 + x1_1.size ≤ 9223372036854775807 then (if 0 ≤ 60 then (if 60 ≤ (x1_1.size : Int) then (if ((⟨#[97, 58]⟩ : ByteArray) ++ x1_1).size + (x1_1.extract 0 60).size ≤ 9223372036854775807 then ((chinoiserielaw04_wrong.f (((⟨#[97, 58]⟩ : ByteArray) ++ x1_1) ++ (x1_1.extract 0 60))).bind fun t405 => (if t405 = true then (if ((⟨#[97, 58]⟩ : ByteArray) ++ (x1_1.extract 0 200)).size + 3 ≤ 9223372036854775807 then ((chinoiserielaw04_HeadLines.f k3 (((⟨#[97, 58]⟩ : ByteArray) ++ (x1_1.extract 0 200)) ++ (⟨#[32, 9, 32]⟩ : ByteArray))).bind fun t406 => (if t406 = true then ((chinoiserielaw04_HeadLines.f k3 (⟨#[]⟩ : ByteArray)).bind fun t407 => (if t407 = true then ((chinoiserielaw04_HeadLines.f k3 (⟨#[58]⟩ : ByteArray)).bind fun t408 => (if t408 = true then ((head_Strip.f x5_3 (⟨#[]⟩ : ByteArray)).bind fun t409 => (if (t409.length : Int) = 0 then ((head_Same.f k3 ([] : List (S28)) (([] : List (S28)))).bind fun t415 => ((chinoiserielaw04_works.f k3).bind fun t416 => (if t416 = true then (if t403 = 40 then (if t415 = true then ((head_Lower.f (⟨#[65, 90, 97, 122, 48, 57, 91]⟩ : ByteArray)).bind fun t417 => ((chinoiserieref00_EqTexts.f k3 (([t417] : List ByteArray)) (([(⟨#[97, 122, 97, 122, 48, 57, 91]⟩ : ByteArray)] : List ByteArray))).bind fun t424 => (some t424))) else (none)) else (none)) else (none)))) else (none))) else (none))) else (none))) else (none))) else (none)) else (none))) else (none)) else (none)) else (none)) else (none)) else (none))) else (none)) else (none))) = some r := by first | (rw [hy400]; with_reducible exact H) | (have H2_ := (Option.bind_some _ _).symm.trans H; rw [hy400]; with_reducible exact H2_) | (have H2_ := (Option.bind_some _ _).symm.trans H; with_reducible exact H2_) | with_reducible exact H | (rw [hy400]; exact H) | exact H
        have Ny400 := Aside0.mk hy400
        clear hy400
        replace H := Option.bind_eq_some_iff.mp H
        obtain ⟨t403, A880, H⟩ := H
        replace H : (if 2 + (x1_1.extract 0 200).size ≤ 9223372036854775807 then (if ((⟨#[97, 58]⟩ : ByteArray) ++ (x1_1.extract 0 200)).size + 66 ≤ 9223372036854775807 then ((chinoiserielaw04_line.f (((⟨#[97, 58]⟩ : ByteArray) ++ (x1_1.extract 0 200)) ++ (⟨#[32, 32, 32, 32, 32, 32, 32, 32, 32, 32, 32, 32, 32, 32, 32, 32, 32, 32, 32, 32, 32, 32, 32, 32, 32, 32, 32, 32, 32, 32, 32, 32, 32, 32, 32, 32, 32, 32, 32, 32, 32, 32, 32, 32, 32, 32, 32, 32, 32, 32, 32, 32, 32, 32, 32, 32, 32, 32, 32, 32, 32, 32, 32, 32, 32, 32]⟩ : ByteArray)) (⟨#[97]⟩ : ByteArray) (x1_1.extract 0 200)).bind fun t404 => (if t404 = true then (if 2 + x1_1.size ≤ 9223372036854775807 then (if 0 ≤ 60 then (if 60 ≤ (x1_1.size : Int) then (if ((⟨#[97, 58]⟩ : ByteArray) ++ x1_1).size + (x1_1.extract 0 60).size ≤ 9223372036854775807 then ((chinoiserielaw04_wrong.f (((⟨#[97, 58]⟩ : ByteArray) ++ x1_1) ++ (x1_1.extract 0 60))).bind fun t405 => (if t405 = true then (if ((⟨#[97, 58]⟩ : ByteArray) ++ (x1_1.extract 0 200)).size + 3 ≤ 9223372036854775807 then ((chinoiserielaw04_HeadLines.f k3 (((⟨#[97, 58]⟩ : ByteArray) ++ (x1_1.extract 0 200)) ++ (⟨#[32, 9, 32]⟩ : ByteArray))).bind fun t406 => (if t406 = true then ((chinoiserielaw04_HeadLines.f k3 (⟨#[]⟩ : ByteArray)).bind fun t407 => (if t407 = true then ((chinoiserielaw04_HeadLines.f k3 (⟨#[58]⟩ : ByteArray)).bind fun t408 => (if t408 = true then ((head_Strip.f x5_3 (⟨#[]⟩ : ByteArray)).bind fun t409 => (if (t409.length : Int) = 0 then ((head_Same.f k3 ([] : List (S28)) (([] : List (S28)))).bind fun t415 => ((chinoiserielaw04_works.f k3).bind fun t416 => (if t416 = true then (if t403 = 40 then (if t415 = true then ((head_Lower.f (⟨#[65, 90, 97, 122, 48, 57, 91]⟩ : ByteArray)).bind fun t417 => ((chinoiserieref00_EqTexts.f k3 (([t417] : List ByteArray)) (([(⟨#[97, 122, 97, 122, 48, 57, 91]⟩ : ByteArray)] : List ByteArray))).bind fun t424 => (some t424))) else (none)) else (none)) else (none)))) else (none))) else (none))) else (none))) else (none))) else (none)) else (none))) else (none)) else (none)) else (none)) else (none)) else (none))) else (none)) else (none)) = some r := H
        have A88 := Aside0.mk A880
        clear A880
        have c89b0 := eq_true (of_decide_eq_true (by first | (with_reducible assumption) | assumption) : 0 ≤ 200)
        have c90b0 := eq_true (of_decide_eq_true (by first | (with_reducible assumption) | assumption) : 200 ≤ (x1_1.size : Int))
        by_cases c91 : 2 + (x1_1.extract 0 200).size ≤ 9223372036854775807
        rotate_left
        · rw [if_neg c91] at H
          exact absurd H (by simp)
        rw [if_pos c91] at H
        have c91b0 := eq_true c91
        have c91b1 : decide (2 + (x1_1.extract 0 200).size ≤ 9223372036854775807) = true := decide_eq_true c91
        try have c91b2 : (9223372036854775807 < 2 + (x1_1.extract 0 200).size) = False := eq_false (Nat.not_lt.2 c91)
        by_cases c92 : ((⟨#[97, 58]⟩ : ByteArray) ++ (x1_1.extract 0 200)).size + 66 ≤ 9223372036854775807
        rotate_left
        · rw [if_neg c92] at H
          exact absurd H (by simp)
        rw [if_pos c92] at H
        have c92b0 := eq_true c92
        have c92b1 : decide (((⟨#[97, 58]⟩ : ByteArray) ++ (x1_1.extract 0 200)).size + 66 ≤ 9223372036854775807) = true := decide_eq_true c92
        try have c92b2 : (9223372036854775807 < ((⟨#[97, 58]⟩ : ByteArray) ++ (x1_1.extract 0 200)).size + 66) = False := eq_false (Nat.not_lt.2 c92)
        try have c92b3 : (9223372036854775807 < 2 + (x1_1.extract 0 200).size + 66) = False := eq_false (fun h_ => absurd c92 (by simp only [ByteArray.size_append]; exact Nat.not_le.2 h_))
        have c93b0 := eq_true (of_decide_eq_true (by first | (with_reducible assumption) | assumption) : 0 ≤ 200)
        have c94b0 := eq_true (of_decide_eq_true (by first | (with_reducible assumption) | assumption) : 200 ≤ (x1_1.size : Int))
        replace H := Option.bind_eq_some_iff.mp H
        obtain ⟨t404, A950, H⟩ := H
        replace H : (if t404 = true then (if 2 + x1_1.size ≤ 9223372036854775807 then (if 0 ≤ 60 then (if 60 ≤ (x1_1.size : Int) then (if ((⟨#[97, 58]⟩ : ByteArray) ++ x1_1).size + (x1_1.extract 0 60).size ≤ 9223372036854775807 then ((chinoiserielaw04_wrong.f (((⟨#[97, 58]⟩ : ByteArray) ++ x1_1) ++ (x1_1.extract 0 60))).bind fun t405 => (if t405 = true then (if ((⟨#[97, 58]⟩ : ByteArray) ++ (x1_1.extract 0 200)).size + 3 ≤ 9223372036854775807 then ((chinoiserielaw04_HeadLines.f k3 (((⟨#[97, 58]⟩ : ByteArray) ++ (x1_1.extract 0 200)) ++ (⟨#[32, 9, 32]⟩ : ByteArray))).bind fun t406 => (if t406 = true then ((chinoiserielaw04_HeadLines.f k3 (⟨#[]⟩ : ByteArray)).bind fun t407 => (if t407 = true then ((chinoiserielaw04_HeadLines.f k3 (⟨#[58]⟩ : ByteArray)).bind fun t408 => (if t408 = true then ((head_Strip.f x5_3 (⟨#[]⟩ : ByteArray)).bind fun t409 => (if (t409.length : Int) = 0 then ((head_Same.f k3 ([] : List (S28)) (([] : List (S28)))).bind fun t415 => ((chinoiserielaw04_works.f k3).bind fun t416 => (if t416 = true then (if t403 = 40 then (if t415 = true then ((head_Lower.f (⟨#[65, 90, 97, 122, 48, 57, 91]⟩ : ByteArray)).bind fun t417 => ((chinoiserieref00_EqTexts.f k3 (([t417] : List ByteArray)) (([(⟨#[97, 122, 97, 122, 48, 57, 91]⟩ : ByteArray)] : List ByteArray))).bind fun t424 => (some t424))) else (none)) else (none)) else (none)))) else (none))) else (none))) else (none))) else (none))) else (none)) else (none))) else (none)) else (none)) else (none)) else (none)) else (none)) = some r := H
        have A95 := Aside0.mk A950
        clear A950
        by_cases c96 : t404 = true
        rotate_left
        · replace c96 := Bool.eq_false_iff.mpr c96
          subst c96
          have H1 : (none) = some r := by rw [if_neg (show ¬ (false = true) by decide)] at H; exact H
          clear H
          have H := H1
          clear H1
          exact absurd H (by simp)
        subst c96
        have H1 : (if 2 + x1_1.size ≤ 9223372036854775807 then (if 0 ≤ 60 then (if 60 ≤ (x1_1.size : Int) then (if ((⟨#[97, 58]⟩ : ByteArray) ++ x1_1).size + (x1_1.extract 0 60).size ≤ 9223372036854775807 then ((chinoiserielaw04_wrong.f (((⟨#[97, 58]⟩ : ByteArray) ++ x1_1) ++ (x1_1.extract 0 60))).bind fun t405 => (if t405 = true then (if ((⟨#[97, 58]⟩ : ByteArray) ++ (x1_1.extract 0 200)).size + 3 ≤ 9223372036854775807 then ((chinoiserielaw04_HeadLines.f k3 (((⟨#[97, 58]⟩ : ByteArray) ++ (x1_1.extract 0 200)) ++ (⟨#[32, 9, 32]⟩ : ByteArray))).bind fun t406 => (if t406 = true then ((chinoiserielaw04_HeadLines.f k3 (⟨#[]⟩ : ByteArray)).bind fun t407 => (if t407 = true then ((chinoiserielaw04_HeadLines.f k3 (⟨#[58]⟩ : ByteArray)).bind fun t408 => (if t408 = true then ((head_Strip.f x5_3 (⟨#[]⟩ : ByteArray)).bind fun t409 => (if (t409.length : Int) = 0 then ((head_Same.f k3 ([] : List (S28)) (([] : List (S28)))).bind fun t415 => ((chinoiserielaw04_works.f k3).bind fun t416 => (if t416 = true then (if t403 = 40 then (if t415 = true then ((head_Lower.f (⟨#[65, 90, 97, 122, 48, 57, 91]⟩ : ByteArray)).bind fun t417 => ((chinoiserieref00_EqTexts.f k3 (([t417] : List ByteArray)) (([(⟨#[97, 122, 97, 122, 48, 57, 91]⟩ : ByteArray)] : List ByteArray))).bind fun t424 => (some t424))) else (none)) else (none)) else (none)))) else (none))) else (none))) else (none))) else (none))) else (none)) else (none))) else (none)) else (none)) else (none)) else (none)) = some r := by rw [if_pos rfl] at H; exact H
        clear H
        have H := H1
        clear H1
        by_cases c97 : 2 + x1_1.size ≤ 9223372036854775807
        rotate_left
        · rw [if_neg c97] at H
          exact absurd H (by simp)
        rw [if_pos c97] at H
        have c97b0 := eq_true c97
        have c97b1 : decide (2 + x1_1.size ≤ 9223372036854775807) = true := decide_eq_true c97
        try have c97b2 : (9223372036854775807 < 2 + x1_1.size) = False := eq_false (Nat.not_lt.2 c97)
        by_cases c98 : 0 ≤ 60
        rotate_left
        · rw [if_neg c98] at H
          exact absurd H (by simp)
        rw [if_pos c98] at H
        have c98b0 := eq_true c98
        have c98b1 : decide (0 ≤ 60) = true := decide_eq_true c98
        clear c98
        by_cases c99 : 60 ≤ (x1_1.size : Int)
        rotate_left
        · rw [if_neg c99] at H
          exact absurd H (by simp)
        rw [if_pos c99] at H
        have c99b0 := eq_true c99
        have c99b1 : decide (60 ≤ (x1_1.size : Int)) = true := decide_eq_true c99
        clear c99
        by_cases c100 : ((⟨#[97, 58]⟩ : ByteArray) ++ x1_1).size + (x1_1.extract 0 60).size ≤ 9223372036854775807
        rotate_left
        · rw [if_neg c100] at H
          exact absurd H (by simp)
        rw [if_pos c100] at H
        have c100b0 := eq_true c100
        have c100b1 : decide (((⟨#[97, 58]⟩ : ByteArray) ++ x1_1).size + (x1_1.extract 0 60).size ≤ 9223372036854775807) = true := decide_eq_true c100
        try have c100b2 : (9223372036854775807 < ((⟨#[97, 58]⟩ : ByteArray) ++ x1_1).size + (x1_1.extract 0 60).size) = False := eq_false (Nat.not_lt.2 c100)
        try have c100b3 : (9223372036854775807 < 2 + (x1_1).size + (x1_1.extract 0 60).size) = False := eq_false (fun h_ => absurd c100 (by simp only [ByteArray.size_append]; exact Nat.not_le.2 h_))
        replace H := Option.bind_eq_some_iff.mp H
        obtain ⟨t405, A1010, H⟩ := H
        replace H : (if t405 = true then (if ((⟨#[97, 58]⟩ : ByteArray) ++ (x1_1.extract 0 200)).size + 3 ≤ 9223372036854775807 then ((chinoiserielaw04_HeadLines.f k3 (((⟨#[97, 58]⟩ : ByteArray) ++ (x1_1.extract 0 200)) ++ (⟨#[32, 9, 32]⟩ : ByteArray))).bind fun t406 => (if t406 = true then ((chinoiserielaw04_HeadLines.f k3 (⟨#[]⟩ : ByteArray)).bind fun t407 => (if t407 = true then ((chinoiserielaw04_HeadLines.f k3 (⟨#[58]⟩ : ByteArray)).bind fun t408 => (if t408 = true then ((head_Strip.f x5_3 (⟨#[]⟩ : ByteArray)).bind fun t409 => (if (t409.length : Int) = 0 then ((head_Same.f k3 ([] : List (S28)) (([] : List (S28)))).bind fun t415 => ((chinoiserielaw04_works.f k3).bind fun t416 => (if t416 = true then (if t403 = 40 then (if t415 = true then ((head_Lower.f (⟨#[65, 90, 97, 122, 48, 57, 91]⟩ : ByteArray)).bind fun t417 => ((chinoiserieref00_EqTexts.f k3 (([t417] : List ByteArray)) (([(⟨#[97, 122, 97, 122, 48, 57, 91]⟩ : ByteArray)] : List ByteArray))).bind fun t424 => (some t424))) else (none)) else (none)) else (none)))) else (none))) else (none))) else (none))) else (none))) else (none)) else (none)) = some r := H
        have A101 := Aside0.mk A1010
        clear A1010
        by_cases c102 : t405 = true
        rotate_left
        · replace c102 := Bool.eq_false_iff.mpr c102
          subst c102
          have H1 : (none) = some r := by rw [if_neg (show ¬ (false = true) by decide)] at H; exact H
          clear H
          have H := H1
          clear H1
          exact absurd H (by simp)
        subst c102
        have H1 : (if ((⟨#[97, 58]⟩ : ByteArray) ++ (x1_1.extract 0 200)).size + 3 ≤ 9223372036854775807 then ((chinoiserielaw04_HeadLines.f k3 (((⟨#[97, 58]⟩ : ByteArray) ++ (x1_1.extract 0 200)) ++ (⟨#[32, 9, 32]⟩ : ByteArray))).bind fun t406 => (if t406 = true then ((chinoiserielaw04_HeadLines.f k3 (⟨#[]⟩ : ByteArray)).bind fun t407 => (if t407 = true then ((chinoiserielaw04_HeadLines.f k3 (⟨#[58]⟩ : ByteArray)).bind fun t408 => (if t408 = true then ((head_Strip.f x5_3 (⟨#[]⟩ : ByteArray)).bind fun t409 => (if (t409.length : Int) = 0 then ((head_Same.f k3 ([] : List (S28)) (([] : List (S28)))).bind fun t415 => ((chinoiserielaw04_works.f k3).bind fun t416 => (if t416 = true then (if t403 = 40 then (if t415 = true then ((head_Lower.f (⟨#[65, 90, 97, 122, 48, 57, 91]⟩ : ByteArray)).bind fun t417 => ((chinoiserieref00_EqTexts.f k3 (([t417] : List ByteArray)) (([(⟨#[97, 122, 97, 122, 48, 57, 91]⟩ : ByteArray)] : List ByteArray))).bind fun t424 => (some t424))) else (none)) else (none)) else (none)))) else (none))) else (none))) else (none))) else (none))) else (none)) = some r := by rw [if_pos rfl] at H; exact H
        clear H
        have H := H1
        clear H1
        have c103b0 := eq_true (of_decide_eq_true (by first | (with_reducible assumption) | assumption) : 0 ≤ 200)
        have c104b0 := eq_true (of_decide_eq_true (by first | (with_reducible assumption) | assumption) : 200 ≤ (x1_1.size : Int))
        by_cases c105 : ((⟨#[97, 58]⟩ : ByteArray) ++ (x1_1.extract 0 200)).size + 3 ≤ 9223372036854775807
        rotate_left
        · rw [if_neg c105] at H
          exact absurd H (by simp)
        rw [if_pos c105] at H
        have c105b0 := eq_true c105
        have c105b1 : decide (((⟨#[97, 58]⟩ : ByteArray) ++ (x1_1.extract 0 200)).size + 3 ≤ 9223372036854775807) = true := decide_eq_true c105
        try have c105b2 : (9223372036854775807 < ((⟨#[97, 58]⟩ : ByteArray) ++ (x1_1.extract 0 200)).size + 3) = False := eq_false (Nat.not_lt.2 c105)
        try have c105b3 : (9223372036854775807 < 2 + (x1_1.extract 0 200).size + 3) = False := eq_false (fun h_ => absurd c105 (by simp only [ByteArray.size_append]; exact Nat.not_le.2 h_))
        replace H := Option.bind_eq_some_iff.mp H
        obtain ⟨t406, A1060, H⟩ := H
        replace H : (if t406 = true then ((chinoiserielaw04_HeadLines.f k3 (⟨#[]⟩ : ByteArray)).bind fun t407 => (if t407 = true then ((chinoiserielaw04_HeadLines.f k3 (⟨#[58]⟩ : ByteArray)).bind fun t408 => (if t408 = true then ((head_Strip.f x5_3 (⟨#[]⟩ : ByteArray)).bind fun t409 => (if (t409.length : Int) = 0 then ((head_Same.f k3 ([] : List (S28)) (([] : List (S28)))).bind fun t415 => ((chinoiserielaw04_works.f k3).bind fun t416 => (if t416 = true then (if t403 = 40 then (if t415 = true then ((head_Lower.f (⟨#[65, 90, 97, 122, 48, 57, 91]⟩ : ByteArray)).bind fun t417 => ((chinoiserieref00_EqTexts.f k3 (([t417] : List ByteArray)) (([(⟨#[97, 122, 97, 122, 48, 57, 91]⟩ : ByteArray)] : List ByteArray))).bind fun t424 => (some t424))) else (none)) else (none)) else (none)))) else (none))) else (none))) else (none))) else (none)) = some r := H
        have A106 := Aside0.mk A1060
        clear A1060
        by_cases c107 : t406 = true
        rotate_left
        · replace c107 := Bool.eq_false_iff.mpr c107
          subst c107
          have H1 : (none) = some r := by rw [if_neg (show ¬ (false = true) by decide)] at H; exact H
          clear H
          have H := H1
          clear H1
          exact absurd H (by simp)
        subst c107
        have H1 : ((chinoiserielaw04_HeadLines.f k3 (⟨#[]⟩ : ByteArray)).bind fun t407 => (if t407 = true then ((chinoiserielaw04_HeadLines.f k3 (⟨#[58]⟩ : ByteArray)).bind fun t408 => (if t408 = true then ((head_Strip.f x5_3 (⟨#[]⟩ : ByteArray)).bind fun t409 => (if (t409.length : Int) = 0 then ((head_Same.f k3 ([] : List (S28)) (([] : List (S28)))).bind fun t415 => ((chinoiserielaw04_works.f k3).bind fun t416 => (if t416 = true then (if t403 = 40 then (if t415 = true then ((head_Lower.f (⟨#[65, 90, 97, 122, 48, 57, 91]⟩ : ByteArray)).bind fun t417 => ((chinoiserieref00_EqTexts.f k3 (([t417] : List ByteArray)) (([(⟨#[97, 122, 97, 122, 48, 57, 91]⟩ : ByteArray)] : List ByteArray))).bind fun t424 => (some t424))) else (none)) else (none)) else (none)))) else (none))) else (none))) else (none))) = some r := by rw [if_pos rfl] at H; exact H
        clear H
        have H := H1
        clear H1
        replace H := Option.bind_eq_some_iff.mp H
        obtain ⟨t407, A1080, H⟩ := H
        replace H : (if t407 = true then ((chinoiserielaw04_HeadLines.f k3 (⟨#[58]⟩ : ByteArray)).bind fun t408 => (if t408 = true then ((head_Strip.f x5_3 (⟨#[]⟩ : ByteArray)).bind fun t409 => (if (t409.length : Int) = 0 then ((head_Same.f k3 ([] : List (S28)) (([] : List (S28)))).bind fun t415 => ((chinoiserielaw04_works.f k3).bind fun t416 => (if t416 = true then (if t403 = 40 then (if t415 = true then ((head_Lower.f (⟨#[65, 90, 97, 122, 48, 57, 91]⟩ : ByteArray)).bind fun t417 => ((chinoiserieref00_EqTexts.f k3 (([t417] : List ByteArray)) (([(⟨#[97, 122, 97, 122, 48, 57, 91]⟩ : ByteArray)] : List ByteArray))).bind fun t424 => (some t424))) else (none)) else (none)) else (none)))) else (none))) else (none))) else (none)) = some r := H
        have A108 := Aside0.mk A1080
        clear A1080
        by_cases c109 : t407 = true
        rotate_left
        · replace c109 := Bool.eq_false_iff.mpr c109
          subst c109
          have H1 : (none) = some r := by rw [if_neg (show ¬ (false = true) by decide)] at H; exact H
          clear H
          have H := H1
          clear H1
          exact absurd H (by simp)
        subst c109
        have H1 : ((chinoiserielaw04_HeadLines.f k3 (⟨#[58]⟩ : ByteArray)).bind fun t408 => (if t408 = true then ((head_Strip.f x5_3 (⟨#[]⟩ : ByteArray)).bind fun t409 => (if (t409.length : Int) = 0 then ((head_Same.f k3 ([] : List (S28)) (([] : List (S28)))).bind fun t415 => ((chinoiserielaw04_works.f k3).bind fun t416 => (if t416 = true then (if t403 = 40 then (if t415 = true then ((head_Lower.f (⟨#[65, 90, 97, 122, 48, 57, 91]⟩ : ByteArray)).bind fun t417 => ((chinoiserieref00_EqTexts.f k3 (([t417] : List ByteArray)) (([(⟨#[97, 122, 97, 122, 48, 57, 91]⟩ : ByteArray)] : List ByteArray))).bind fun t424 => (some t424))) else (none)) else (none)) else (none)))) else (none))) else (none))) = some r := by rw [if_pos rfl] at H; exact H
        clear H
        have H := H1
        clear H1
        replace H := Option.bind_eq_some_iff.mp H
        obtain ⟨t408, A1100, H⟩ := H
        replace H : (if t408 = true then ((head_Strip.f x5_3 (⟨#[]⟩ : ByteArray)).bind fun t409 => (if (t409.length : Int) = 0 then ((head_Same.f k3 ([] : List (S28)) (([] : List (S28)))).bind fun t415 => ((chinoiserielaw04_works.f k3).bind fun t416 => (if t416 = true then (if t403 = 40 then (if t415 = true then ((head_Lower.f (⟨#[65, 90, 97, 122, 48, 57, 91]⟩ : ByteArray)).bind fun t417 => ((chinoiserieref00_EqTexts.f k3 (([t417] : List ByteArray)) (([(⟨#[97, 122, 97, 122, 48, 57, 91]⟩ : ByteArray)] : List ByteArray))).bind fun t424 => (some t424))) else (none)) else (none)) else (none)))) else (none))) else (none)) = some r := H
        have A110 := Aside0.mk A1100
        clear A1100
        by_cases c111 : t408 = true
        rotate_left
        · replace c111 := Bool.eq_false_iff.mpr c111
          subst c111
          have H1 : (none) = some r := by rw [if_neg (show ¬ (false = true) by decide)] at H; exact H
          clear H
          have H := H1
          clear H1
          exact absurd H (by simp)
        subst c111
        have H1 : ((head_Strip.f x5_3 (⟨#[]⟩ : ByteArray)).bind fun t409 => (if (t409.length : Int) = 0 then ((head_Same.f k3 ([] : List (S28)) (([] : List (S28)))).bind fun t415 => ((chinoiserielaw04_works.f k3).bind fun t416 => (if t416 = true then (if t403 = 40 then (if t415 = true then ((head_Lower.f (⟨#[65, 90, 97, 122, 48, 57, 91]⟩ : ByteArray)).bind fun t417 => ((chinoiserieref00_EqTexts.f k3 (([t417] : List ByteArray)) (([(⟨#[97, 122, 97, 122, 48, 57, 91]⟩ : ByteArray)] : List ByteArray))).bind fun t424 => (some t424))) else (none)) else (none)) else (none)))) else (none))) = some r := by rw [if_pos rfl] at H; exact H
        clear H
        have H := H1
        clear H1
        replace H := Option.bind_eq_some_iff.mp H
        obtain ⟨t409, A1120, H⟩ := H
        replace H : (if (t409.length : Int) = 0 then ((head_Same.f k3 ([] : List (S28)) (([] : List (S28)))).bind fun t415 => ((chinoiserielaw04_works.f k3).bind fun t416 => (if t416 = true then (if t403 = 40 then (if t415 = true then ((head_Lower.f (⟨#[65, 90, 97, 122, 48, 57, 91]⟩ : ByteArray)).bind fun t417 => ((chinoiserieref00_EqTexts.f k3 (([t417] : List ByteArray)) (([(⟨#[97, 122, 97, 122, 48, 57, 91]⟩ : ByteArray)] : List ByteArray))).bind fun t424 => (some t424))) else (none)) else (none)) else (none)))) else (none)) = some r := H
        have A112 := Aside0.mk A1120
        clear A1120
        by_cases c113 : (t409.length : Int) = 0
        rotate_left
        · rw [if_neg c113] at H
          exact absurd H (by simp)
        rw [if_pos c113] at H
        have c113b0 : ((t409.length : Int) == 0) = true := beq_iff_eq.mpr c113
        have c113b1 : ((t409.length : Int) != 0) = false := bne_eq_false_iff_eq.mpr c113
        clear c113
        obtain ⟨y412, hy412⟩ : ∃ y_ : List (S28), y_ = (([] : List (S28))) := ⟨_, rfl⟩
        replace H : ((head_Same.f k3 ([] : List (S28)) y412).bind fun t415 => ((chinoiserielaw04_works.f k3).bind fun t416 => (if t416 = true then (if t403 = 40 then (if t415 = true then ((head_Lower.f (⟨#[65, 90, 97, 122, 48, 57, 91]⟩ : ByteArray)).bind fun t417 => ((chinoiserieref00_EqTexts.f k3 (([t417] : List ByteArray)) (([(⟨#[97, 122, 97, 122, 48, 57, 91]⟩ : ByteArray)] : List ByteArray))).bind fun t424 => (some t424))) else (none)) else (none)) else (none)))) = some r := by first | (rw [hy412]; with_reducible exact H) | (have H2_ := (Option.bind_some _ _).symm.trans H; rw [hy412]; with_reducible exact H2_) | (have H2_ := (Option.bind_some _ _).symm.trans H; with_reducible exact H2_) | with_reducible exact H | (rw [hy412]; exact H) | exact H
        have Ny412 := Aside0.mk hy412
        clear hy412
        replace H := Option.bind_eq_some_iff.mp H
        obtain ⟨t415, A1140, H⟩ := H
        replace H : ((chinoiserielaw04_works.f k3).bind fun t416 => (if t416 = true then (if t403 = 40 then (if t415 = true then ((head_Lower.f (⟨#[65, 90, 97, 122, 48, 57, 91]⟩ : ByteArray)).bind fun t417 => ((chinoiserieref00_EqTexts.f k3 (([t417] : List ByteArray)) (([(⟨#[97, 122, 97, 122, 48, 57, 91]⟩ : ByteArray)] : List ByteArray))).bind fun t424 => (some t424))) else (none)) else (none)) else (none))) = some r := H
        have A114 := Aside0.mk A1140
        clear A1140
        replace H := Option.bind_eq_some_iff.mp H
        obtain ⟨t416, A1150, H⟩ := H
        replace H : (if t416 = true then (if t403 = 40 then (if t415 = true then ((head_Lower.f (⟨#[65, 90, 97, 122, 48, 57, 91]⟩ : ByteArray)).bind fun t417 => ((chinoiserieref00_EqTexts.f k3 (([t417] : List ByteArray)) (([(⟨#[97, 122, 97, 122, 48, 57, 91]⟩ : ByteArray)] : List ByteArray))).bind fun t424 => (some t424))) else (none)) else (none)) else (none)) = some r := H
        have A115 := Aside0.mk A1150
        clear A1150
        by_cases c116 : t416 = true
        rotate_left
        · replace c116 := Bool.eq_false_iff.mpr c116
          subst c116
          have H1 : (none) = some r := by rw [if_neg (show ¬ (false = true) by decide)] at H; exact H
          clear H
          have H := H1
          clear H1
          exact absurd H (by simp)
        subst c116
        have H1 : (if t403 = 40 then (if t415 = true then ((head_Lower.f (⟨#[65, 90, 97, 122, 48, 57, 91]⟩ : ByteArray)).bind fun t417 => ((chinoiserieref00_EqTexts.f k3 (([t417] : List ByteArray)) (([(⟨#[97, 122, 97, 122, 48, 57, 91]⟩ : ByteArray)] : List ByteArray))).bind fun t424 => (some t424))) else (none)) else (none)) = some r := by rw [if_pos rfl] at H; exact H
        clear H
        have H := H1
        clear H1
        by_cases c117 : t403 = 40
        rotate_left
        · rw [if_neg c117] at H
          exact absurd H (by simp)
        rw [if_pos c117] at H
        have c117b0 : (t403 == 40) = true := beq_iff_eq.mpr c117
        have c117b1 : (t403 != 40) = false := bne_eq_false_iff_eq.mpr c117
        clear c117
        by_cases c118 : t415 = true
        rotate_left
        · replace c118 := Bool.eq_false_iff.mpr c118
          subst c118
          have H1 : (none) = some r := by rw [if_neg (show ¬ (false = true) by decide)] at H; exact H
          clear H
          have H := H1
          clear H1
          exact absurd H (by simp)
        subst c118
        have H1 : ((head_Lower.f (⟨#[65, 90, 97, 122, 48, 57, 91]⟩ : ByteArray)).bind fun t417 => ((chinoiserieref00_EqTexts.f k3 (([t417] : List ByteArray)) (([(⟨#[97, 122, 97, 122, 48, 57, 91]⟩ : ByteArray)] : List ByteArray))).bind fun t424 => (some t424))) = some r := by rw [if_pos rfl] at H; exact H
        clear H
        have H := H1
        clear H1
        replace H := Option.bind_eq_some_iff.mp H
        obtain ⟨t417, A1190, H⟩ := H
        replace H : ((chinoiserieref00_EqTexts.f k3 (([t417] : List ByteArray)) (([(⟨#[97, 122, 97, 122, 48, 57, 91]⟩ : ByteArray)] : List ByteArray))).bind fun t424 => (some t424)) = some r := H
        have A119 := Aside0.mk A1190
        clear A1190
        obtain ⟨y418, hy418⟩ : ∃ y_ : List ByteArray, y_ = (([t417] : List ByteArray)) := ⟨_, rfl⟩
        replace H : ((chinoiserieref00_EqTexts.f k3 y418 (([(⟨#[97, 122, 97, 122, 48, 57, 91]⟩ : ByteArray)] : List ByteArray))).bind fun t424 => (some t424)) = some r := by first | (rw [hy418]; with_reducible exact H) | (have H2_ := (Option.bind_some _ _).symm.trans H; rw [hy418]; with_reducible exact H2_) | (have H2_ := (Option.bind_some _ _).symm.trans H; with_reducible exact H2_) | with_reducible exact H | (rw [hy418]; exact H) | exact H
        have Ny418 := Aside0.mk hy418
        clear hy418
        obtain ⟨y421, hy421⟩ : ∃ y_ : List ByteArray, y_ = (([(⟨#[97, 122, 97, 122, 48, 57, 91]⟩ : ByteArray)] : List ByteArray)) := ⟨_, rfl⟩
        replace H : ((chinoiserieref00_EqTexts.f k3 y418 y421).bind fun t424 => (some t424)) = some r := by first | (rw [hy421]; with_reducible exact H) | (have H2_ := (Option.bind_some _ _).symm.trans H; rw [hy421]; with_reducible exact H2_) | (have H2_ := (Option.bind_some _ _).symm.trans H; with_reducible exact H2_) | with_reducible exact H | (rw [hy421]; exact H) | exact H
        have Ny421 := Aside0.mk hy421
        clear hy421
        replace H := Option.bind_eq_some_iff.mp H
        obtain ⟨t424, A1200, H⟩ := H
        replace H : (some t424) = some r := H
        have A120 := Aside0.mk A1200
        clear A1200
        obtain rfl := Option.some.inj H
        obtain ⟨Ao122, co122, eo122⟩ := Kd.R_slice HO_5.out
        subst eo122
        have mA : (9223372036854775807 < 2 + min 200 x1_1.size) = False := eq_false (by omega)
        have mB : (9223372036854775807 < 2 + min 200 x1_1.size + 66) = False := eq_false (by omega)
        have mC : (9223372036854775807 < 2 + min 200 x1_1.size + 3) = False := eq_false (by omega)
        have mD : (9223372036854775807 < 2 + x1_1.size) = False := eq_false (by have h_ := of_decide_eq_true ‹decide (2 + x1_1.size ≤ 9223372036854775807) = true›; omega)
        have mE : (9223372036854775807 < 2 + x1_1.size + min 60 x1_1.size) = False := eq_false (by have h_ := of_decide_eq_true ‹decide (((⟨#[97, 58]⟩ : ByteArray) ++ x1_1).size + (x1_1.extract 0 60).size ≤ 9223372036854775807) = true›; rw [ByteArray.size_append, ByteArray.size_extract, show ((⟨#[97, 58]⟩ : ByteArray).size) = 2 from rfl] at h_; omega)
        have q121 : (16 : Int) ≤ ((x5_3.length : Int) : Int) := of_decide_eq_true (by first | (with_reducible assumption) | assumption)
        obtain ⟨i0121, hi0121, _, hsz121, _⟩ := info_parts info28
        have hroom121 : x5_3.length ≤ co122 := (Kd.R_reads' HO_5.out).2.1
        have hC121 : Kd.C k28 _ Ao122 x5_3.length x5_3 := (Kd.R_reads' HO_5.out).2.2
        have hcut121 := cut_to (P := Tryd.prog) 22 28 .i64 Tryd.underlying22 hi0121 Ao122 x5_3.length co122 16 (by omega) q121 hroom121
        have hr121 := Kd.C_take (m := 16) hC121 (by omega)
        have hy121 : y366.length = (16 : Int).toNat := (by rw [Ny366.out, List.length_take]; omega)
        rw [← Ny366.out] at hr121
        rw [← hy121] at hcut121
        have HR369 := Aside0.mk hr121
        have HC369 := Aside0.mk (show y366.length ≤ co122 from by omega)
        clear hr121 hC121 hroom121 hi0121 hsz121
        have KY121 := Aside0.mk hy121
        clear hy121
        have KL121 := Aside0.mk (show 16 ≤ x5_3.length from by omega)
        replace q121 := eq_true q121
        try go_wp2_with (first | ((with_reducible refine gate_callee (f := 29) rfl ?_); refine goesL_ (some 93) rfl rfl Tryd.func29 (by kernel_rfl) rfl #[.slice Ao122 y366.length co122, .string (⟨#[110, 101, 119]⟩ : ByteArray), .string (⟨#[49]⟩ : ByteArray)] rfl (by (try simp only [List.map_toArray, List.map_cons, List.map_nil]); first | done | rfl | (simp only [List.length_drop, List.length_take]; rfl)) ?_; (with_reducible refine (head_Set.calls _ _ y366 (⟨#[110, 101, 119]⟩ : ByteArray) (⟨#[49]⟩ : ByteArray) t370 t371 _ ?side1 ?side2 A63.out).mono ?_); (case side1 => repeat (first | exact (by repeat (first | (with_reducible exact HR369.out) | (with_reducible refine Kd.C_alloc ?_ _) | (with_reducible refine Kd.C_drewN ?_ _) | (with_reducible refine Kd.C_drew ?_) | exact HR369.out)) | (with_reducible refine Kd.C_alloc ?_ _) | (with_reducible refine Kd.C_drewN ?_ _) | (with_reducible refine Kd.C_drew ?_))); (case side2 => exact HC369.out); rintro e w123 ⟨v372, rfl, ho0, hb⟩; refine ⟨_, rfl, ?_⟩; (try clear hcut121); have n0_ := Aside0.mk (Kd.R_elder' (by (with_reducible repeat (first | apply Kd.R_alloc | apply Kd.R_drewN | apply Kd.R_drew)); exact HO_5.out) (Kd.R_base ho0) hb); have n1_ := Aside0.mk (Kd.R_lower (Kd.R_new' ho0 (Kd.R_lt (by (with_reducible repeat (first | apply Kd.R_alloc | apply Kd.R_drewN | apply Kd.R_drew)); exact HO_5.out))) (below_size (by repeat (first | (with_reducible first | exact HB.out | apply below_alloc | apply pw_below_drewN | apply below_drew1) | exact HB.out)))); have n2_ := Aside0.mk (Kd.C_below (by repeat (first | (with_reducible exact HR369.out) | (with_reducible refine Kd.C_alloc ?_ _) | (with_reducible refine Kd.C_drewN ?_ _) | (with_reducible refine Kd.C_drew ?_) | exact HR369.out)) hb); have n3_ := Aside0.mk (below_step (by repeat (first | (with_reducible first | exact HB.out | apply below_alloc | apply pw_below_drewN | apply below_drew1) | exact HB.out)) hb); clear HO_5; clear HR369; clear HB; have HO_5 := n0_; have HO373 := n1_; have HR369 := n2_; have HB := n3_; clear n0_ n1_ n2_ n3_; (try clear hb); (try clear hb2); (try clear hk); (try clear hi); (try clear ho0); have q124 : (16 : Int) ≤ ((x5_3.length : Int) : Int) := of_decide_eq_true (by first | (with_reducible assumption) | assumption); obtain ⟨i0124, hi0124, _, hsz124, _⟩ := info_parts info28; have hroom124 : x5_3.length ≤ co122 := (Kd.R_reads' HO_5.out).2.1; have hC124 : Kd.C k28 _ Ao122 x5_3.length x5_3 := (Kd.R_reads' HO_5.out).2.2; have hcut124 := cut_to (P := Tryd.prog) 22 28 .i64 Tryd.underlying22 hi0124 Ao122 x5_3.length co122 16 (by omega) q124 hroom124; have hr124 := Kd.C_take (m := 16) hC124 (by omega); have hy124 : y374.length = (16 : Int).toNat := (by rw [Ny374.out, List.length_take]; omega); rw [← Ny374.out] at hr124; rw [← hy124] at hcut124; have HR377 := Aside0.mk hr124; have HC377 := Aside0.mk (show y374.length ≤ co122 from by omega); clear hr124 hC124 hroom124 hi0124 hsz124; have KY124 := Aside0.mk hy124; clear hy124; have KL124 := Aside0.mk (show 16 ≤ x5_3.length from by omega); replace q124 := eq_true q124) | ((with_reducible refine gate_callee (f := 29) rfl ?_); refine goesL_ (some 99) rfl rfl Tryd.func29 (by kernel_rfl) rfl #[.slice Ao122 y374.length co122, .string (⟨#[78, 65, 65]⟩ : ByteArray), .string (⟨#[49]⟩ : ByteArray)] rfl (by (try simp only [List.map_toArray, List.map_cons, List.map_nil]); first | done | rfl | (simp only [List.length_drop, List.length_take]; rfl)) ?_; (with_reducible refine (head_Set.calls _ _ y374 (⟨#[78, 65, 65]⟩ : ByteArray) (⟨#[49]⟩ : ByteArray) t378 t379 _ ?side1 ?side2 A65.out).mono ?_); (case side1 => repeat (first | exact (by repeat (first | (with_reducible exact HR377.out) | (with_reducible refine Kd.C_alloc ?_ _) | (with_reducible refine Kd.C_drewN ?_ _) | (with_reducible refine Kd.C_drew ?_) | exact HR377.out)) | (with_reducible refine Kd.C_alloc ?_ _) | (with_reducible refine Kd.C_drewN ?_ _) | (with_reducible refine Kd.C_drew ?_))); (case side2 => exact HC377.out); rintro e w125 ⟨v380, rfl, ho0, hb⟩; refine ⟨_, rfl, ?_⟩; have n0_ := Aside0.mk (Kd.R_elder' (by (with_reducible repeat (first | apply Kd.R_alloc | apply Kd.R_drewN | apply Kd.R_drew)); exact HO_5.out) (Kd.R_base ho0) hb); have n1_ := Aside0.mk (Kd.R_elder' (by (with_reducible repeat (first | apply Kd.R_alloc | apply Kd.R_drewN | apply Kd.R_drew)); exact HO373.out) (Kd.R_base ho0) hb); have n2_ := Aside0.mk (Kd.R_lower (Kd.R_new' (Kd.R_new' ho0 (Kd.R_lt (by (with_reducible repeat (first | apply Kd.R_alloc | apply Kd.R_drewN | apply Kd.R_drew)); exact HO_5.out))) (Kd.R_lt (by (with_reducible repeat (first | apply Kd.R_alloc | apply Kd.R_drewN | apply Kd.R_drew)); exact HO373.out))) (below_size (by repeat (first | (with_reducible first | exact HB.out | apply below_alloc | apply pw_below_drewN | apply below_drew1) | exact HB.out)))); have n3_ := Aside0.mk (Kd.C_below (by repeat (first | (with_reducible exact HR369.out) | (with_reducible refine Kd.C_alloc ?_ _) | (with_reducible refine Kd.C_drewN ?_ _) | (with_reducible refine Kd.C_drew ?_) | exact HR369.out)) hb); have n4_ := Aside0.mk (Kd.C_below (by repeat (first | (with_reducible exact HR377.out) | (with_reducible refine Kd.C_alloc ?_ _) | (with_reducible refine Kd.C_drewN ?_ _) | (with_reducible refine Kd.C_drew ?_) | exact HR377.out)) hb); have n5_ := Aside0.mk (below_step (by repeat (first | (with_reducible first | exact HB.out | apply below_alloc | apply pw_below_drewN | apply below_drew1) | exact HB.out)) hb); clear HO_5; clear HO373; clear HR369; clear HR377; clear HB; have HO_5 := n0_; have HO373 := n1_; have HO381 := n2_; have HR369 := n3_; have HR377 := n4_; have HB := n5_; clear n0_ n1_ n2_ n3_ n4_ n5_; (try clear hb); (try clear hb2); (try clear hk); (try clear hi); (try clear ho0)))
        have n0_ := Aside0.mk (Kd.R_drew HO_5.out)
        have n1_ := Aside0.mk (Kd.R_drew HO373.out)
        have n2_ := Aside0.mk (Kd.R_drew HO381.out)
        have n3_ := Aside0.mk (Kd.C_drew HR369.out)
        have n4_ := Aside0.mk (Kd.C_drew HR377.out)
        have n5_ := Aside0.mk (below_drew1 HB.out)
        clear HO_5
        clear HO373
        clear HO381
        clear HR369
        clear HR377
        clear HB
        have HO_5 := n0_
        have HO373 := n1_
        have HO381 := n2_
        have HR369 := n3_
        have HR377 := n4_
        have HB := n5_
        clear n0_ n1_ n2_ n3_ n4_ n5_
        refine start_ (n := 55) (S := fun w' => True) (ds := []) (tf 0 55) (by kernel_rfl) rfl rfl trivial (fun hHeld => ?_); refine with_tabW chinoiserielaw04_HeadNames.tab19 chinoiserielaw04_HeadNames.bits19 (fun HT_ HW_ => ?_)
        generalize w125.drew = w126 at HO_5 HO373 HO381 HR369 HR377 HB hHeld ⊢
        refine pure_ (i := 0) (N := some 102) (v := ?_) (a' := ?_) (tf 1 54) rfl rfl (any_of HT_.out (by kernel_rfl)) (fun _ _ _ h => h) (Or.inl ⟨by rfl, ?_⟩) ?_ ?_
        rotate_left
        · intro w'
          go_simp
          with_reducible rfl
        rotate_left
        · simp only [Act.put, List.setIfInBounds_toArray, List.set_cons_zero, List.set_cons_succ, i64_w, i32_w]
          rfl
        refine one_ (i := 1) (N := some 103) (tf 2 53) rfl rfl (one_of HT_.out (by kernel_rfl)) (by decide) (fun K hK => ?_)
        refine goes_ Tryd.func14 (by kernel_rfl) rfl #[.slice Ao122 x5_3.length co122] (by rfl) rfl rfl (by (try simp only [List.map_toArray, List.map_cons, List.map_nil]); first | done | rfl | (simp only [List.length_drop, List.length_take]; rfl)) ?_
        with_reducible refine (head_Check.calls _ _ x5_3 t382 _ ?side1 ?side2 A66.out).mono ?_
        (case side1 => repeat (first | exact (Kd.R_reads' HO_5.out).2.2 | (with_reducible refine Kd.C_alloc ?_ _) | (with_reducible refine Kd.C_drewN ?_ _) | (with_reducible refine Kd.C_drew ?_)))
        (case side2 => exact (Kd.R_reads' HO_5.out).2.1)
        rintro e w127 ⟨rfl, hb⟩
        refine ⟨_, rfl, ?_⟩
        have n0_ := Aside0.mk (Kd.R_below (by (with_reducible repeat (first | apply Kd.R_alloc | apply Kd.R_drewN | apply Kd.R_drew)); exact HO_5.out) hb)
        have n1_ := Aside0.mk (Kd.R_below (by (with_reducible repeat (first | apply Kd.R_alloc | apply Kd.R_drewN | apply Kd.R_drew)); exact HO373.out) hb)
        have n2_ := Aside0.mk (Kd.R_below (by (with_reducible repeat (first | apply Kd.R_alloc | apply Kd.R_drewN | apply Kd.R_drew)); exact HO381.out) hb)
        have n3_ := Aside0.mk (Kd.C_below (by repeat (first | (with_reducible exact HR369.out) | (with_reducible refine Kd.C_alloc ?_ _) | (with_reducible refine Kd.C_drewN ?_ _) | (with_reducible refine Kd.C_drew ?_) | exact HR369.out)) hb)
        have n4_ := Aside0.mk (Kd.C_below (by repeat (first | (with_reducible exact HR377.out) | (with_reducible refine Kd.C_alloc ?_ _) | (with_reducible refine Kd.C_drewN ?_ _) | (with_reducible refine Kd.C_drew ?_) | exact HR377.out)) hb)
        have n5_ := Aside0.mk (below_step (by repeat (first | (with_reducible first | exact HB.out | apply below_alloc | apply pw_below_drewN | apply below_drew1) | exact HB.out)) hb)
        clear HO_5
        clear HO373
        clear HO381
        clear HR369
        clear HR377
        clear HB
        have HO_5 := n0_
        have HO373 := n1_
        have HO381 := n2_
        have HR369 := n3_
        have HR377 := n4_
        have HB := n5_
        clear n0_ n1_ n2_ n3_ n4_ n5_
        (try clear hb)
        (try clear hb2)
        (try clear hk)
        (try clear hi)
        have q128 : (16 : Int) ≤ ((x5_3.length : Int) : Int) := of_decide_eq_true (by first | (with_reducible assumption) | assumption)
        obtain ⟨i0128, hi0128, _, hsz128, _⟩ := info_parts info28
        have hroom128 : x5_3.length ≤ co122 := (Kd.R_reads' HO_5.out).2.1
        have hC128 : Kd.C k28 _ Ao122 x5_3.length x5_3 := (Kd.R_reads' HO_5.out).2.2
        (try clear hcut124)
        have hcut128 := cut_to (P := Tryd.prog) 22 28 .i64 Tryd.underlying22 hi0128 Ao122 x5_3.length co122 16 (by omega) q128 hroom128
        have hr128 := Kd.C_take (m := 16) hC128 (by omega)
        have hy128 : y383.length = (16 : Int).toNat := (by rw [Ny383.out, List.length_take]; omega)
        rw [← Ny383.out] at hr128
        rw [← hy128] at hcut128
        have HR386 := Aside0.mk hr128
        have HC386 := Aside0.mk (show y383.length ≤ co122 from by omega)
        clear hr128 hC128 hroom128 hi0128 hsz128
        have KY128 := Aside0.mk hy128
        clear hy128
        have KL128 := Aside0.mk (show 16 ≤ x5_3.length from by omega)
        replace q128 := eq_true q128
        refine hK.out _ _ trivial (fun hHeld => ?_)
        clear hK K
        refine norm_ (a' := ?_) ?_ ?_
        rotate_left
        · show Act.put _ (some 103) _ = _
          simp only [Act.put, List.setIfInBounds_toArray, List.set_cons_zero, List.set_cons_succ, i64_w, i32_w]
          rfl
        refine pure_ (i := 2) (N := some 104) (v := ?_) (a' := ?_) (tf 3 52) rfl rfl (any_of HT_.out (by kernel_rfl)) (fun _ _ _ h => h) (Or.inl ⟨by rfl, ?_⟩) ?_ ?_
        rotate_left
        · intro w'
          go_simp
          with_reducible rfl
        rotate_left
        · simp only [Act.put, List.setIfInBounds_toArray, List.set_cons_zero, List.set_cons_succ, i64_w, i32_w]
          rfl
        refine pure_ (i := 3) (N := some 105) (v := ?_) (a' := ?_) (tf 4 51) rfl rfl (any_of HT_.out (by kernel_rfl)) (fun _ _ _ h => h) (Or.inl ⟨by rfl, ?_⟩) ?_ ?_
        rotate_left
        · intro w'
          go_simp
          with_reducible rfl
        rotate_left
        · simp only [Act.put, List.setIfInBounds_toArray, List.set_cons_zero, List.set_cons_succ, i64_w, i32_w]
          rfl
        refine pure_ (i := 4) (N := some 106) (v := ?_) (a' := ?_) (tf 5 50) rfl rfl (any_of HT_.out (by kernel_rfl)) (fun _ _ _ h => h) (Or.inl ⟨by rfl, ?_⟩) ?_ ?_
        rotate_left
        · intro w'
          go_simp
          with_reducible rfl
        rotate_left
        · simp only [Act.put, List.setIfInBounds_toArray, List.set_cons_zero, List.set_cons_succ, i64_w, i32_w]
          rfl
        refine pure_ (i := 5) (N := some 107) (v := ?_) (a' := ?_) (tf 6 49) rfl rfl (any_of HT_.out (by kernel_rfl)) (fun _ _ _ h => h) (Or.inl ⟨by rfl, ?_⟩) ?_ ?_
        rotate_left
        · intro w'
          go_simp
          with_reducible rfl
        rotate_left
        · simp only [Act.put, List.setIfInBounds_toArray, List.set_cons_zero, List.set_cons_succ, i64_w, i32_w]
          rfl
        refine one_ (i := 6) (N := some 108) (tf 7 48) rfl rfl (one_of HT_.out (by kernel_rfl)) (by decide) (fun K hK => ?_)
        refine goes_ Tryd.func14 (by kernel_rfl) rfl #[.slice Ao122 y383.length co122] (by rfl) rfl rfl (by (try simp only [List.map_toArray, List.map_cons, List.map_nil]); first | done | rfl | (simp only [List.length_drop, List.length_take]; rfl)) ?_
        with_reducible refine (head_Check.calls _ _ y383 t387 _ ?side1 ?side2 A69.out).mono ?_
        (case side1 => repeat (first | exact (by repeat (first | (with_reducible exact HR386.out) | (with_reducible refine Kd.C_alloc ?_ _) | (with_reducible refine Kd.C_drewN ?_ _) | (with_reducible refine Kd.C_drew ?_) | exact HR386.out)) | (with_reducible refine Kd.C_alloc ?_ _) | (with_reducible refine Kd.C_drewN ?_ _) | (with_reducible refine Kd.C_drew ?_)))
        (case side2 => exact HC386.out)
        rintro e w129 ⟨rfl, hb⟩
        refine ⟨_, rfl, ?_⟩
        have n0_ := Aside0.mk (Kd.R_below (by (with_reducible repeat (first | apply Kd.R_alloc | apply Kd.R_drewN | apply Kd.R_drew)); exact HO_5.out) hb)
        have n1_ := Aside0.mk (Kd.R_below (by (with_reducible repeat (first | apply Kd.R_alloc | apply Kd.R_drewN | apply Kd.R_drew)); exact HO373.out) hb)
        have n2_ := Aside0.mk (Kd.R_below (by (with_reducible repeat (first | apply Kd.R_alloc | apply Kd.R_drewN | apply Kd.R_drew)); exact HO381.out) hb)
        have n3_ := Aside0.mk (Kd.C_below (by repeat (first | (with_reducible exact HR369.out) | (with_reducible refine Kd.C_alloc ?_ _) | (with_reducible refine Kd.C_drewN ?_ _) | (with_reducible refine Kd.C_drew ?_) | exact HR369.out)) hb)
        have n4_ := Aside0.mk (Kd.C_below (by repeat (first | (with_reducible exact HR377.out) | (with_reducible refine Kd.C_alloc ?_ _) | (with_reducible refine Kd.C_drewN ?_ _) | (with_reducible refine Kd.C_drew ?_) | exact HR377.out)) hb)
        have n5_ := Aside0.mk (Kd.C_below (by repeat (first | (with_reducible exact HR386.out) | (with_reducible refine Kd.C_alloc ?_ _) | (with_reducible refine Kd.C_drewN ?_ _) | (with_reducible refine Kd.C_drew ?_) | exact HR386.out)) hb)
        have n6_ := Aside0.mk (below_step (by repeat (first | (with_reducible first | exact HB.out | apply below_alloc | apply pw_below_drewN | apply below_drew1) | exact HB.out)) hb)
        clear HO_5
        clear HO373
        clear HO381
        clear HR369
        clear HR377
        clear HR386
        clear HB
        have HO_5 := n0_
        have HO373 := n1_
        have HO381 := n2_
        have HR369 := n3_
        have HR377 := n4_
        have HR386 := n5_
        have HB := n6_
        clear n0_ n1_ n2_ n3_ n4_ n5_ n6_
        (try clear hb)
        (try clear hb2)
        (try clear hk)
        (try clear hi)
        obtain ⟨Ao130, co130, eo130⟩ := Kd.R_slice HO381.out
        (first | subst eo130 | (injection eo130 with f1_ f2_ f3_; have f4_ := f1_.symm; have f5_ := f3_.symm; clear f1_ f2_ f3_; subst f4_; subst f5_))
        refine hK.out _ _ trivial (fun hHeld => ?_)
        clear hK K
        refine norm_ (a' := ?_) ?_ ?_
        rotate_left
        · show Act.put _ (some 108) _ = _
          simp only [Act.put, List.setIfInBounds_toArray, List.set_cons_zero, List.set_cons_succ, i64_w, i32_w]
          rfl
        refine pure_ (i := 7) (N := some 109) (v := ?_) (a' := ?_) (tf 8 47) rfl rfl (any_of HT_.out (by kernel_rfl)) (fun _ _ _ h => h) (Or.inl ⟨by rfl, ?_⟩) ?_ ?_
        rotate_left
        · intro w'
          go_simp
          with_reducible rfl
        rotate_left
        · simp only [Act.put, List.setIfInBounds_toArray, List.set_cons_zero, List.set_cons_succ, i64_w, i32_w]
          rfl
        refine pure_ (i := 8) (N := some 110) (v := ?_) (a' := ?_) (tf 9 46) rfl rfl (any_of HT_.out (by kernel_rfl)) (fun _ _ _ h => h) (Or.inl ⟨by rfl, ?_⟩) ?_ ?_
        rotate_left
        · intro w'
          go_simp
          with_reducible rfl
        rotate_left
        · simp only [Act.put, List.setIfInBounds_toArray, List.set_cons_zero, List.set_cons_succ, i64_w, i32_w]
          rfl
        refine pure_ (i := 9) (N := some 111) (v := ?_) (a' := ?_) (tf 10 45) rfl rfl (any_of HT_.out (by kernel_rfl)) (fun _ _ _ h => h) (Or.inl ⟨by rfl, ?_⟩) ?_ ?_
        rotate_left
        · intro w'
          go_simp
          with_reducible rfl
        rotate_left
        · simp only [Act.put, List.setIfInBounds_toArray, List.set_cons_zero, List.set_cons_succ, i64_w, i32_w]
          rfl
        refine pure_ (i := 10) (N := some 112) (v := ?_) (a' := ?_) (tf 11 44) rfl rfl (any_of HT_.out (by kernel_rfl)) (fun _ _ _ h => h) (Or.inl ⟨by rfl, ?_⟩) ?_ ?_
        rotate_left
        · intro w'
          go_simp
          with_reducible rfl
        rotate_left
        · simp only [Act.put, List.setIfInBounds_toArray, List.set_cons_zero, List.set_cons_succ, i64_w, i32_w]
          rfl
        refine pure_ (i := 11) (N := some 113) (v := ?_) (a' := ?_) (tf 12 43) rfl rfl (any_of HT_.out (by kernel_rfl)) (fun _ _ _ h => h) (Or.inl ⟨by rfl, ?_⟩) ?_ ?_
        rotate_left
        · intro w'
          go_simp
          with_reducible rfl
        rotate_left
        · simp only [Act.put, List.setIfInBounds_toArray, List.set_cons_zero, List.set_cons_succ, i64_w, i32_w]
          rfl
        refine pure_ (i := 12) (N := some 114) (v := ?_) (a' := ?_) (tf 13 42) rfl rfl (any_of HT_.out (by kernel_rfl)) (fun _ _ _ h => h) (Or.inl ⟨by rfl, ?_⟩) ?_ ?_
        rotate_left
        · intro w'
          go_simp
          with_reducible rfl
        rotate_left
        · simp only [Act.put, List.setIfInBounds_toArray, List.set_cons_zero, List.set_cons_succ, i64_w, i32_w]
          rfl
        refine pure_ (i := 13) (N := some 115) (v := ?_) (a' := ?_) (tf 14 41) rfl rfl (any_of HT_.out (by kernel_rfl)) (fun _ _ _ h => h) (Or.inl ⟨by rfl, ?_⟩) ?_ ?_
        rotate_left
        · intro w'
          go_simp
          with_reducible rfl
        rotate_left
        · simp only [Act.put, List.setIfInBounds_toArray, List.set_cons_zero, List.set_cons_succ, i64_w, i32_w]
          rfl
        refine pure_ (i := 14) (N := some 116) (v := ?_) (a' := ?_) (tf 15 40) rfl rfl (any_of HT_.out (by kernel_rfl)) (fun _ _ _ h => h) (Or.inl ⟨by rfl, ?_⟩) ?_ ?_
        rotate_left
        · intro w'
          go_simp
          with_reducible rfl
        rotate_left
        · simp only [Act.put, List.setIfInBounds_toArray, List.set_cons_zero, List.set_cons_succ, i64_w, i32_w]
          rfl
        refine pure_ (i := 15) (N := some 117) (v := ?_) (a' := ?_) (tf 16 39) rfl rfl (any_of HT_.out (by kernel_rfl)) (fun _ _ _ h => h) (Or.inl ⟨by rfl, ?_⟩) ?_ ?_
        rotate_left
        · intro w'
          go_simp
          with_reducible rfl
        rotate_left
        · simp only [Act.put, List.setIfInBounds_toArray, List.set_cons_zero, List.set_cons_succ, i64_w, i32_w]
          rfl
        refine pure_ (i := 16) (N := some 118) (v := ?_) (a' := ?_) (tf 17 38) rfl rfl (any_of HT_.out (by kernel_rfl)) (fun _ _ _ h => h) (Or.inl ⟨by rfl, ?_⟩) ?_ ?_
        rotate_left
        · intro w'
          go_simp
          with_reducible rfl
        rotate_left
        · simp only [Act.put, List.setIfInBounds_toArray, List.set_cons_zero, List.set_cons_succ, i64_w, i32_w]
          rfl
        refine pure_ (i := 17) (N := some 119) (v := ?_) (a' := ?_) (tf 18 37) rfl rfl (any_of HT_.out (by kernel_rfl)) (fun _ _ _ h => h) (Or.inl ⟨by rfl, ?_⟩) ?_ ?_
        rotate_left
        · intro w'
          go_simp
          with_reducible rfl
        rotate_left
        · simp only [Act.put, List.setIfInBounds_toArray, List.set_cons_zero, List.set_cons_succ, i64_w, i32_w]
          rfl
        refine pure_ (i := 18) (N := some 120) (v := ?_) (a' := ?_) (tf 19 36) rfl rfl (any_of HT_.out (by kernel_rfl)) (fun _ _ _ h => h) (Or.inl ⟨by rfl, ?_⟩) ?_ ?_
        rotate_left
        · intro w'
          go_simp
          with_reducible rfl
        rotate_left
        · simp only [Act.put, List.setIfInBounds_toArray, List.set_cons_zero, List.set_cons_succ, i64_w, i32_w]
          rfl
        refine pure_ (i := 19) (N := some 121) (v := ?_) (a' := ?_) (tf 20 35) rfl rfl (any_of HT_.out (by kernel_rfl)) (fun _ _ _ h => h) (Or.inl ⟨by rfl, ?_⟩) ?_ ?_
        rotate_left
        · intro w'
          go_simp
          with_reducible rfl
        rotate_left
        · simp only [Act.put, List.setIfInBounds_toArray, List.set_cons_zero, List.set_cons_succ, i64_w, i32_w]
          rfl
        refine pure_ (i := 20) (N := some 122) (v := ?_) (a' := ?_) (tf 21 34) rfl rfl (any_of HT_.out (by kernel_rfl)) (fun _ _ _ h => h) (Or.inl ⟨by rfl, ?_⟩) ?_ ?_
        rotate_left
        · intro w'
          go_simp
          with_reducible rfl
        rotate_left
        · simp only [Act.put, List.setIfInBounds_toArray, List.set_cons_zero, List.set_cons_succ, i64_w, i32_w]
          rfl
        refine pure_ (i := 21) (N := some 123) (v := ?_) (a' := ?_) (tf 22 33) rfl rfl (any_of HT_.out (by kernel_rfl)) (fun _ _ _ h => h) (Or.inl ⟨by rfl, ?_⟩) ?_ ?_
        rotate_left
        · intro w'
          go_simp
          with_reducible rfl
        rotate_left
        · simp only [Act.put, List.setIfInBounds_toArray, List.set_cons_zero, List.set_cons_succ, i64_w, i32_w]
          rfl
        refine pure_ (i := 22) (N := some 124) (v := ?_) (a' := ?_) (tf 23 32) rfl rfl (any_of HT_.out (by kernel_rfl)) (fun _ _ _ h => h) (Or.inl ⟨by rfl, ?_⟩) ?_ ?_
        rotate_left
        · intro w'
          go_simp
          with_reducible rfl
        rotate_left
        · simp only [Act.put, List.setIfInBounds_toArray, List.set_cons_zero, List.set_cons_succ, i64_w, i32_w]
          rfl
        refine pure_ (i := 23) (N := some 125) (v := ?_) (a' := ?_) (tf 24 31) rfl rfl (any_of HT_.out (by kernel_rfl)) (fun _ _ _ h => h) (Or.inl ⟨by rfl, ?_⟩) ?_ ?_
        rotate_left
        · intro w'
          go_simp
          with_reducible rfl
        rotate_left
        · simp only [Act.put, List.setIfInBounds_toArray, List.set_cons_zero, List.set_cons_succ, i64_w, i32_w]
          rfl
        refine pure_ (i := 24) (N := some 126) (v := ?_) (a' := ?_) (tf 25 30) rfl rfl (any_of HT_.out (by kernel_rfl)) (fun _ _ _ h => h) (Or.inl ⟨by rfl, ?_⟩) ?_ ?_
        rotate_left
        · intro w'
          go_simp
          with_reducible rfl
        rotate_left
        · simp only [Act.put, List.setIfInBounds_toArray, List.set_cons_zero, List.set_cons_succ, i64_w, i32_w]
          rfl
        refine pure_ (i := 25) (N := some 127) (v := ?_) (a' := ?_) (tf 26 29) rfl rfl (any_of HT_.out (by kernel_rfl)) (fun _ _ _ h => h) (Or.inl ⟨by rfl, ?_⟩) ?_ ?_
        rotate_left
        · intro w'
          go_simp
          with_reducible rfl
        rotate_left
        · simp only [Act.put, List.setIfInBounds_toArray, List.set_cons_zero, List.set_cons_succ, i64_w, i32_w]
          rfl
        refine pure_ (i := 26) (N := some 128) (v := ?_) (a' := ?_) (tf 27 28) rfl rfl (any_of HT_.out (by kernel_rfl)) (fun _ _ _ h => h) (Or.inl ⟨by rfl, ?_⟩) ?_ ?_
        rotate_left
        · intro w'
          go_simp
          with_reducible rfl
        rotate_left
        · simp only [Act.put, List.setIfInBounds_toArray, List.set_cons_zero, List.set_cons_succ, i64_w, i32_w]
          rfl
        refine pure_ (i := 27) (N := some 129) (v := ?_) (a' := ?_) (tf 28 27) rfl rfl (any_of HT_.out (by kernel_rfl)) (fun _ _ _ h => h) (Or.inl ⟨by rfl, ?_⟩) ?_ ?_
        rotate_left
        · intro w'
          go_simp
          with_reducible rfl
        rotate_left
        · simp only [Act.put, List.setIfInBounds_toArray, List.set_cons_zero, List.set_cons_succ, i64_w, i32_w]
          rfl
        refine one_ (i := 28) (N := some 130) (tf 29 26) rfl rfl (one_of HT_.out (by kernel_rfl)) (by decide) (fun K hK => ?_)
        refine Kd.R_lit_step k28 _ 28 ?hg (N := 130) ?hd (xs := ([(⟨x1_1.extract 0 30, x1_1.extract 0 200⟩ : S28)] : List (S28))) (inner := [.string (x1_1.extract 0 30), .string (x1_1.extract 0 200)]) (ok := fun _ => True) (okp := fun _ => True) ?hr ?hp (fun _ hk => hk) trivial (Below.refl _ _) (Nat.le_refl _) (by simp) ?_; (case hd => rfl); (case hg => rfl); (case hr => first | (go_simp; done) | (go_simp; rfl)); (case hp => exact (Reps.c2 (show Kd.M k28 _ _ _ (⟨x1_1.extract 0 30, x1_1.extract 0 200⟩ : S28) [.string (x1_1.extract 0 30), .string (x1_1.extract 0 200)] from (k28_mkM _ _ _ (⟨x1_1.extract 0 30, x1_1.extract 0 200⟩ : S28) )) (Reps.none _ _)))
        intro v389 w131 ho132 hb hg_ hnew_
        clear hg_ hnew_
        (first | rw [← Ny388.out] at ho132 | (simp only [Int.reduceToNat] at ho132; rw [← Ny388.out] at ho132))
        have n0_ := Aside0.mk (Kd.R_elder' (by (with_reducible repeat (first | apply Kd.R_alloc | apply Kd.R_drewN | apply Kd.R_drew)); exact HO_5.out) (Kd.R_base ho132) hb)
        have n1_ := Aside0.mk (Kd.R_elder' (by (with_reducible repeat (first | apply Kd.R_alloc | apply Kd.R_drewN | apply Kd.R_drew)); exact HO373.out) (Kd.R_base ho132) hb)
        have n2_ := Aside0.mk (Kd.R_elder' (by (with_reducible repeat (first | apply Kd.R_alloc | apply Kd.R_drewN | apply Kd.R_drew)); exact HO381.out) (Kd.R_base ho132) hb)
        have n3_ := Aside0.mk (Kd.R_lower (Kd.R_new' (Kd.R_new' (Kd.R_new' ho132 (Kd.R_lt (by (with_reducible repeat (first | apply Kd.R_alloc | apply Kd.R_drewN | apply Kd.R_drew)); exact HO_5.out))) (Kd.R_lt (by (with_reducible repeat (first | apply Kd.R_alloc | apply Kd.R_drewN | apply Kd.R_drew)); exact HO373.out))) (Kd.R_lt (by (with_reducible repeat (first | apply Kd.R_alloc | apply Kd.R_drewN | apply Kd.R_drew)); exact HO381.out))) (below_size (by repeat (first | (with_reducible first | exact HB.out | apply below_alloc | apply pw_below_drewN | apply below_drew1) | exact HB.out))))
        have n4_ := Aside0.mk (Kd.C_below (by repeat (first | (with_reducible exact HR369.out) | (with_reducible refine Kd.C_alloc ?_ _) | (with_reducible refine Kd.C_drewN ?_ _) | (with_reducible refine Kd.C_drew ?_) | exact HR369.out)) hb)
        have n5_ := Aside0.mk (Kd.C_below (by repeat (first | (with_reducible exact HR377.out) | (with_reducible refine Kd.C_alloc ?_ _) | (with_reducible refine Kd.C_drewN ?_ _) | (with_reducible refine Kd.C_drew ?_) | exact HR377.out)) hb)
        have n6_ := Aside0.mk (Kd.C_below (by repeat (first | (with_reducible exact HR386.out) | (with_reducible refine Kd.C_alloc ?_ _) | (with_reducible refine Kd.C_drewN ?_ _) | (with_reducible refine Kd.C_drew ?_) | exact HR386.out)) hb)
        have n7_ := Aside0.mk (below_step (by repeat (first | (with_reducible first | exact HB.out | apply below_alloc | apply pw_below_drewN | apply below_drew1) | exact HB.out)) hb)
        clear HO_5
        clear HO373
        clear HO381
        clear HR369
        clear HR377
        clear HR386
        clear HB
        have HO_5 := n0_
        have HO373 := n1_
        have HO381 := n2_
        have HO390 := n3_
        have HR369 := n4_
        have HR377 := n5_
        have HR386 := n6_
        have HB := n7_
        clear n0_ n1_ n2_ n3_ n4_ n5_ n6_ n7_
        clear hb ho132
        obtain ⟨Ao133, co133, eo133⟩ := Kd.R_slice HO390.out
        (first | subst eo133 | (injection eo133 with f1_ f2_ f3_; have f4_ := f1_.symm; have f5_ := f3_.symm; clear f1_ f2_ f3_; subst f4_; subst f5_))
        refine hK.out _ _ trivial (fun hHeld => ?_)
        clear hK K
        refine norm_ (a' := ?_) ?_ ?_
        rotate_left
        · show Act.put _ (some 130) _ = _
          simp only [Act.put, List.setIfInBounds_toArray, List.set_cons_zero, List.set_cons_succ, i64_w, i32_w]
          rfl
        refine one_ (i := 29) (N := some 131) (tf 30 25) rfl rfl (one_of HT_.out (by kernel_rfl)) (by decide) (fun K hK => ?_)
        refine goes_ Tryd.func14 (by kernel_rfl) rfl #[.slice Ao133 y388.length co133] (by rfl) rfl rfl (by (try simp only [List.map_toArray, List.map_cons, List.map_nil]); first | done | rfl | (simp only [List.length_drop, List.length_take]; rfl)) ?_
        with_reducible refine (head_Check.calls _ _ y388 t391 _ ?side1 ?side2 A78.out).mono ?_
        (case side1 => repeat (first | exact (Kd.R_reads' HO390.out).2.2 | (with_reducible refine Kd.C_alloc ?_ _) | (with_reducible refine Kd.C_drewN ?_ _) | (with_reducible refine Kd.C_drew ?_)))
        (case side2 => exact (Kd.R_reads' HO390.out).2.1)
        rintro e w134 ⟨rfl, hb⟩
        refine ⟨_, rfl, ?_⟩
        have n0_ := Aside0.mk (Kd.R_below (by (with_reducible repeat (first | apply Kd.R_alloc | apply Kd.R_drewN | apply Kd.R_drew)); exact HO_5.out) hb)
        have n1_ := Aside0.mk (Kd.R_below (by (with_reducible repeat (first | apply Kd.R_alloc | apply Kd.R_drewN | apply Kd.R_drew)); exact HO373.out) hb)
        have n2_ := Aside0.mk (Kd.R_below (by (with_reducible repeat (first | apply Kd.R_alloc | apply Kd.R_drewN | apply Kd.R_drew)); exact HO381.out) hb)
        have n3_ := Aside0.mk (Kd.R_below (by (with_reducible repeat (first | apply Kd.R_alloc | apply Kd.R_drewN | apply Kd.R_drew)); exact HO390.out) hb)
        have n4_ := Aside0.mk (Kd.C_below (by repeat (first | (with_reducible exact HR369.out) | (with_reducible refine Kd.C_alloc ?_ _) | (with_reducible refine Kd.C_drewN ?_ _) | (with_reducible refine Kd.C_drew ?_) | exact HR369.out)) hb)
        have n5_ := Aside0.mk (Kd.C_below (by repeat (first | (with_reducible exact HR377.out) | (with_reducible refine Kd.C_alloc ?_ _) | (with_reducible refine Kd.C_drewN ?_ _) | (with_reducible refine Kd.C_drew ?_) | exact HR377.out)) hb)
        have n6_ := Aside0.mk (Kd.C_below (by repeat (first | (with_reducible exact HR386.out) | (with_reducible refine Kd.C_alloc ?_ _) | (with_reducible refine Kd.C_drewN ?_ _) | (with_reducible refine Kd.C_drew ?_) | exact HR386.out)) hb)
        have n7_ := Aside0.mk (below_step (by repeat (first | (with_reducible first | exact HB.out | apply below_alloc | apply pw_below_drewN | apply below_drew1) | exact HB.out)) hb)
        clear HO_5
        clear HO373
        clear HO381
        clear HO390
        clear HR369
        clear HR377
        clear HR386
        clear HB
        have HO_5 := n0_
        have HO373 := n1_
        have HO381 := n2_
        have HO390 := n3_
        have HR369 := n4_
        have HR377 := n5_
        have HR386 := n6_
        have HB := n7_
        clear n0_ n1_ n2_ n3_ n4_ n5_ n6_ n7_
        (try clear hb)
        (try clear hb2)
        (try clear hk)
        (try clear hi)
        refine hK.out _ _ trivial (fun hHeld => ?_)
        clear hK K
        refine norm_ (a' := ?_) ?_ ?_
        rotate_left
        · show Act.put _ (some 131) _ = _
          simp only [Act.put, List.setIfInBounds_toArray, List.set_cons_zero, List.set_cons_succ, i64_w, i32_w]
          rfl
        refine pure_ (i := 30) (N := some 132) (v := ?_) (a' := ?_) (tf 31 24) rfl rfl (any_of HT_.out (by kernel_rfl)) (fun _ _ _ h => h) (Or.inl ⟨by rfl, ?_⟩) ?_ ?_
        rotate_left
        · intro w'
          go_simp
          with_reducible rfl
        rotate_left
        · simp only [Act.put, List.setIfInBounds_toArray, List.set_cons_zero, List.set_cons_succ, i64_w, i32_w]
          rfl
        refine pure_ (i := 31) (N := some 133) (v := ?_) (a' := ?_) (tf 32 23) rfl rfl (any_of HT_.out (by kernel_rfl)) (fun _ _ _ h => h) (Or.inl ⟨by rfl, ?_⟩) ?_ ?_
        rotate_left
        · intro w'
          go_simp
          with_reducible rfl
        rotate_left
        · simp only [Act.put, List.setIfInBounds_toArray, List.set_cons_zero, List.set_cons_succ, i64_w, i32_w]
          rfl
        refine pure_ (i := 32) (N := some 134) (v := ?_) (a' := ?_) (tf 33 22) rfl rfl (any_of HT_.out (by kernel_rfl)) (fun _ _ _ h => h) (Or.inl ⟨by rfl, ?_⟩) ?_ ?_
        rotate_left
        · intro w'
          go_simp
          with_reducible rfl
        rotate_left
        · simp only [Act.put, List.setIfInBounds_toArray, List.set_cons_zero, List.set_cons_succ, i64_w, i32_w]
          rfl
        refine pure_ (i := 33) (N := some 135) (v := ?_) (a' := ?_) (tf 34 21) rfl rfl (any_of HT_.out (by kernel_rfl)) (fun _ _ _ h => h) (Or.inl ⟨by rfl, ?_⟩) ?_ ?_
        rotate_left
        · intro w'
          go_simp
          with_reducible rfl
        rotate_left
        · simp only [Act.put, List.setIfInBounds_toArray, List.set_cons_zero, List.set_cons_succ, i64_w, i32_w]
          rfl
        refine pure_ (i := 34) (N := some 136) (v := ?_) (a' := ?_) (tf 35 20) rfl rfl (any_of HT_.out (by kernel_rfl)) (fun _ _ _ h => h) (Or.inl ⟨by rfl, ?_⟩) ?_ ?_
        rotate_left
        · intro w'
          go_simp
          with_reducible rfl
        rotate_left
        · simp only [Act.put, List.setIfInBounds_toArray, List.set_cons_zero, List.set_cons_succ, i64_w, i32_w]
          rfl
        refine pure_ (i := 35) (N := some 137) (v := ?_) (a' := ?_) (tf 36 19) rfl rfl (any_of HT_.out (by kernel_rfl)) (fun _ _ _ h => h) (Or.inl ⟨by rfl, ?_⟩) ?_ ?_
        rotate_left
        · intro w'
          go_simp
          with_reducible rfl
        rotate_left
        · simp only [Act.put, List.setIfInBounds_toArray, List.set_cons_zero, List.set_cons_succ, i64_w, i32_w]
          rfl
        refine one_ (i := 36) (N := some 138) (tf 37 18) rfl rfl (one_of HT_.out (by kernel_rfl)) (by decide) (fun K hK => ?_)
        refine Kd.R_lit_step k28 _ 28 ?hg (N := 138) ?hd (xs := ([(⟨x1_1.extract 0 31, (⟨#[]⟩ : ByteArray)⟩ : S28)] : List (S28))) (inner := [.string (x1_1.extract 0 31), .string (⟨#[]⟩ : ByteArray)]) (ok := fun _ => True) (okp := fun _ => True) ?hr ?hp (fun _ hk => hk) trivial (Below.refl _ _) (Nat.le_refl _) (by simp) ?_; (case hd => rfl); (case hg => rfl); (case hr => first | (go_simp; done) | (go_simp; rfl)); (case hp => exact (Reps.c2 (show Kd.M k28 _ _ _ (⟨x1_1.extract 0 31, (⟨#[]⟩ : ByteArray)⟩ : S28) [.string (x1_1.extract 0 31), .string (⟨#[]⟩ : ByteArray)] from (k28_mkM _ _ _ (⟨x1_1.extract 0 31, (⟨#[]⟩ : ByteArray)⟩ : S28) )) (Reps.none _ _)))
        intro v393 w135 ho136 hb hg_ hnew_
        clear hg_ hnew_
        (first | rw [← Ny392.out] at ho136 | (simp only [Int.reduceToNat] at ho136; rw [← Ny392.out] at ho136))
        have n0_ := Aside0.mk (Kd.R_elder' (by (with_reducible repeat (first | apply Kd.R_alloc | apply Kd.R_drewN | apply Kd.R_drew)); exact HO_5.out) (Kd.R_base ho136) hb)
        have n1_ := Aside0.mk (Kd.R_elder' (by (with_reducible repeat (first | apply Kd.R_alloc | apply Kd.R_drewN | apply Kd.R_drew)); exact HO373.out) (Kd.R_base ho136) hb)
        have n2_ := Aside0.mk (Kd.R_elder' (by (with_reducible repeat (first | apply Kd.R_alloc | apply Kd.R_drewN | apply Kd.R_drew)); exact HO381.out) (Kd.R_base ho136) hb)
        have n3_ := Aside0.mk (Kd.R_elder' (by (with_reducible repeat (first | apply Kd.R_alloc | apply Kd.R_drewN | apply Kd.R_drew)); exact HO390.out) (Kd.R_base ho136) hb)
        have n4_ := Aside0.mk (Kd.R_lower (Kd.R_new' (Kd.R_new' (Kd.R_new' (Kd.R_new' ho136 (Kd.R_lt (by (with_reducible repeat (first | apply Kd.R_alloc | apply Kd.R_drewN | apply Kd.R_drew)); exact HO_5.out))) (Kd.R_lt (by (with_reducible repeat (first | apply Kd.R_alloc | apply Kd.R_drewN | apply Kd.R_drew)); exact HO373.out))) (Kd.R_lt (by (with_reducible repeat (first | apply Kd.R_alloc | apply Kd.R_drewN | apply Kd.R_drew)); exact HO381.out))) (Kd.R_lt (by (with_reducible repeat (first | apply Kd.R_alloc | apply Kd.R_drewN | apply Kd.R_drew)); exact HO390.out))) (below_size (by repeat (first | (with_reducible first | exact HB.out | apply below_alloc | apply pw_below_drewN | apply below_drew1) | exact HB.out))))
        have n5_ := Aside0.mk (Kd.C_below (by repeat (first | (with_reducible exact HR369.out) | (with_reducible refine Kd.C_alloc ?_ _) | (with_reducible refine Kd.C_drewN ?_ _) | (with_reducible refine Kd.C_drew ?_) | exact HR369.out)) hb)
        have n6_ := Aside0.mk (Kd.C_below (by repeat (first | (with_reducible exact HR377.out) | (with_reducible refine Kd.C_alloc ?_ _) | (with_reducible refine Kd.C_drewN ?_ _) | (with_reducible refine Kd.C_drew ?_) | exact HR377.out)) hb)
        have n7_ := Aside0.mk (Kd.C_below (by repeat (first | (with_reducible exact HR386.out) | (with_reducible refine Kd.C_alloc ?_ _) | (with_reducible refine Kd.C_drewN ?_ _) | (with_reducible refine Kd.C_drew ?_) | exact HR386.out)) hb)
        have n8_ := Aside0.mk (below_step (by repeat (first | (with_reducible first | exact HB.out | apply below_alloc | apply pw_below_drewN | apply below_drew1) | exact HB.out)) hb)
        clear HO_5
        clear HO373
        clear HO381
        clear HO390
        clear HR369
        clear HR377
        clear HR386
        clear HB
        have HO_5 := n0_
        have HO373 := n1_
        have HO381 := n2_
        have HO390 := n3_
        have HO394 := n4_
        have HR369 := n5_
        have HR377 := n6_
        have HR386 := n7_
        have HB := n8_
        clear n0_ n1_ n2_ n3_ n4_ n5_ n6_ n7_ n8_
        clear hb ho136
        obtain ⟨Ao137, co137, eo137⟩ := Kd.R_slice HO394.out
        (first | subst eo137 | (injection eo137 with f1_ f2_ f3_; have f4_ := f1_.symm; have f5_ := f3_.symm; clear f1_ f2_ f3_; subst f4_; subst f5_))
        refine hK.out _ _ trivial (fun hHeld => ?_)
        clear hK K
        refine norm_ (a' := ?_) ?_ ?_
        rotate_left
        · show Act.put _ (some 138) _ = _
          simp only [Act.put, List.setIfInBounds_toArray, List.set_cons_zero, List.set_cons_succ, i64_w, i32_w]
          rfl
        refine one_ (i := 37) (N := some 139) (tf 38 17) rfl rfl (one_of HT_.out (by kernel_rfl)) (by decide) (fun K hK => ?_)
        refine goes_ Tryd.func14 (by kernel_rfl) rfl #[.slice Ao137 y392.length co137] (by rfl) rfl rfl (by (try simp only [List.map_toArray, List.map_cons, List.map_nil]); first | done | rfl | (simp only [List.length_drop, List.length_take]; rfl)) ?_
        with_reducible refine (head_Check.calls _ _ y392 t395 _ ?side1 ?side2 A82.out).mono ?_
        (case side1 => repeat (first | exact (Kd.R_reads' HO394.out).2.2 | (with_reducible refine Kd.C_alloc ?_ _) | (with_reducible refine Kd.C_drewN ?_ _) | (with_reducible refine Kd.C_drew ?_)))
        (case side2 => exact (Kd.R_reads' HO394.out).2.1)
        rintro e w138 ⟨rfl, hb⟩
        refine ⟨_, rfl, ?_⟩
        have n0_ := Aside0.mk (Kd.R_below (by (with_reducible repeat (first | apply Kd.R_alloc | apply Kd.R_drewN | apply Kd.R_drew)); exact HO_5.out) hb)
        have n1_ := Aside0.mk (Kd.R_below (by (with_reducible repeat (first | apply Kd.R_alloc | apply Kd.R_drewN | apply Kd.R_drew)); exact HO373.out) hb)
        have n2_ := Aside0.mk (Kd.R_below (by (with_reducible repeat (first | apply Kd.R_alloc | apply Kd.R_drewN | apply Kd.R_drew)); exact HO381.out) hb)
        have n3_ := Aside0.mk (Kd.R_below (by (with_reducible repeat (first | apply Kd.R_alloc | apply Kd.R_drewN | apply Kd.R_drew)); exact HO390.out) hb)
        have n4_ := Aside0.mk (Kd.R_below (by (with_reducible repeat (first | apply Kd.R_alloc | apply Kd.R_drewN | apply Kd.R_drew)); exact HO394.out) hb)
        have n5_ := Aside0.mk (Kd.C_below (by repeat (first | (with_reducible exact HR369.out) | (with_reducible refine Kd.C_alloc ?_ _) | (with_reducible refine Kd.C_drewN ?_ _) | (with_reducible refine Kd.C_drew ?_) | exact HR369.out)) hb)
        have n6_ := Aside0.mk (Kd.C_below (by repeat (first | (with_reducible exact HR377.out) | (with_reducible refine Kd.C_alloc ?_ _) | (with_reducible refine Kd.C_drewN ?_ _) | (with_reducible refine Kd.C_drew ?_) | exact HR377.out)) hb)
        have n7_ := Aside0.mk (Kd.C_below (by repeat (first | (with_reducible exact HR386.out) | (with_reducible refine Kd.C_alloc ?_ _) | (with_reducible refine Kd.C_drewN ?_ _) | (with_reducible refine Kd.C_drew ?_) | exact HR386.out)) hb)
        have n8_ := Aside0.mk (below_step (by repeat (first | (with_reducible first | exact HB.out | apply below_alloc | apply pw_below_drewN | apply below_drew1) | exact HB.out)) hb)
        clear HO_5
        clear HO373
        clear HO381
        clear HO390
        clear HO394
        clear HR369
        clear HR377
        clear HR386
        clear HB
        have HO_5 := n0_
        have HO373 := n1_
        have HO381 := n2_
        have HO390 := n3_
        have HO394 := n4_
        have HR369 := n5_
        have HR377 := n6_
        have HR386 := n7_
        have HB := n8_
        clear n0_ n1_ n2_ n3_ n4_ n5_ n6_ n7_ n8_
        (try clear hb)
        (try clear hb2)
        (try clear hk)
        (try clear hi)
        refine hK.out _ _ trivial (fun hHeld => ?_)
        clear hK K
        refine norm_ (a' := ?_) ?_ ?_
        rotate_left
        · show Act.put _ (some 139) _ = _
          simp only [Act.put, List.setIfInBounds_toArray, List.set_cons_zero, List.set_cons_succ, i64_w, i32_w]
          rfl
        refine pure_ (i := 38) (N := some 140) (v := ?_) (a' := ?_) (tf 39 16) rfl rfl (any_of HT_.out (by kernel_rfl)) (fun _ _ _ h => h) (Or.inl ⟨by rfl, ?_⟩) ?_ ?_
        rotate_left
        · intro w'
          go_simp
          with_reducible rfl
        rotate_left
        · simp only [Act.put, List.setIfInBounds_toArray, List.set_cons_zero, List.set_cons_succ, i64_w, i32_w]
          rfl
        refine pure_ (i := 39) (N := some 141) (v := ?_) (a' := ?_) (tf 40 15) rfl rfl (any_of HT_.out (by kernel_rfl)) (fun _ _ _ h => h) (Or.inl ⟨by rfl, ?_⟩) ?_ ?_
        rotate_left
        · intro w'
          go_simp
          with_reducible rfl
        rotate_left
        · simp only [Act.put, List.setIfInBounds_toArray, List.set_cons_zero, List.set_cons_succ, i64_w, i32_w]
          rfl
        refine pure_ (i := 40) (N := some 142) (v := ?_) (a' := ?_) (tf 41 14) rfl rfl (any_of HT_.out (by kernel_rfl)) (fun _ _ _ h => h) (Or.inl ⟨by rfl, ?_⟩) ?_ ?_
        rotate_left
        · intro w'
          go_simp
          with_reducible rfl
        rotate_left
        · simp only [Act.put, List.setIfInBounds_toArray, List.set_cons_zero, List.set_cons_succ, i64_w, i32_w]
          rfl
        refine pure_ (i := 41) (N := some 143) (v := ?_) (a' := ?_) (tf 42 13) rfl rfl (any_of HT_.out (by kernel_rfl)) (fun _ _ _ h => h) (Or.inl ⟨by rfl, ?_⟩) ?_ ?_
        rotate_left
        · intro w'
          go_simp
          with_reducible rfl
        rotate_left
        · simp only [Act.put, List.setIfInBounds_toArray, List.set_cons_zero, List.set_cons_succ, i64_w, i32_w]
          rfl
        refine pure_ (i := 42) (N := some 144) (v := ?_) (a' := ?_) (tf 43 12) rfl rfl (any_of HT_.out (by kernel_rfl)) (fun _ _ _ h => h) (Or.inl ⟨by rfl, ?_⟩) ?_ ?_
        rotate_left
        · intro w'
          go_simp
          with_reducible rfl
        rotate_left
        · simp only [Act.put, List.setIfInBounds_toArray, List.set_cons_zero, List.set_cons_succ, i64_w, i32_w]
          rfl
        refine pure_ (i := 43) (N := some 145) (v := ?_) (a' := ?_) (tf 44 11) rfl rfl (any_of HT_.out (by kernel_rfl)) (fun _ _ _ h => h) (Or.inl ⟨by rfl, ?_⟩) ?_ ?_
        rotate_left
        · intro w'
          go_simp
          with_reducible rfl
        rotate_left
        · simp only [Act.put, List.setIfInBounds_toArray, List.set_cons_zero, List.set_cons_succ, i64_w, i32_w]
          rfl
        refine one_ (i := 44) (N := some 146) (tf 45 10) rfl rfl (one_of HT_.out (by kernel_rfl)) (by decide) (fun K hK => ?_)
        refine Kd.R_lit_step k28 _ 28 ?hg (N := 146) ?hd (xs := ([(⟨(⟨#[97]⟩ : ByteArray), x1_1.extract 0 201⟩ : S28)] : List (S28))) (inner := [.string (⟨#[97]⟩ : ByteArray), .string (x1_1.extract 0 201)]) (ok := fun _ => True) (okp := fun _ => True) ?hr ?hp (fun _ hk => hk) trivial (Below.refl _ _) (Nat.le_refl _) (by simp) ?_; (case hd => rfl); (case hg => rfl); (case hr => first | (go_simp; done) | (go_simp; rfl)); (case hp => exact (Reps.c2 (show Kd.M k28 _ _ _ (⟨(⟨#[97]⟩ : ByteArray), x1_1.extract 0 201⟩ : S28) [.string (⟨#[97]⟩ : ByteArray), .string (x1_1.extract 0 201)] from (k28_mkM _ _ _ (⟨(⟨#[97]⟩ : ByteArray), x1_1.extract 0 201⟩ : S28) )) (Reps.none _ _)))
        intro v397 w139 ho140 hb hg_ hnew_
        clear hg_ hnew_
        (first | rw [← Ny396.out] at ho140 | (simp only [Int.reduceToNat] at ho140; rw [← Ny396.out] at ho140))
        have n0_ := Aside0.mk (Kd.R_elder' (by (with_reducible repeat (first | apply Kd.R_alloc | apply Kd.R_drewN | apply Kd.R_drew)); exact HO_5.out) (Kd.R_base ho140) hb)
        have n1_ := Aside0.mk (Kd.R_elder' (by (with_reducible repeat (first | apply Kd.R_alloc | apply Kd.R_drewN | apply Kd.R_drew)); exact HO373.out) (Kd.R_base ho140) hb)
        have n2_ := Aside0.mk (Kd.R_elder' (by (with_reducible repeat (first | apply Kd.R_alloc | apply Kd.R_drewN | apply Kd.R_drew)); exact HO381.out) (Kd.R_base ho140) hb)
        have n3_ := Aside0.mk (Kd.R_elder' (by (with_reducible repeat (first | apply Kd.R_alloc | apply Kd.R_drewN | apply Kd.R_drew)); exact HO390.out) (Kd.R_base ho140) hb)
        have n4_ := Aside0.mk (Kd.R_elder' (by (with_reducible repeat (first | apply Kd.R_alloc | apply Kd.R_drewN | apply Kd.R_drew)); exact HO394.out) (Kd.R_base ho140) hb)
        have n5_ := Aside0.mk (Kd.R_lower (Kd.R_new' (Kd.R_new' (Kd.R_new' (Kd.R_new' (Kd.R_new' ho140 (Kd.R_lt (by (with_reducible repeat (first | apply Kd.R_alloc | apply Kd.R_drewN | apply Kd.R_drew)); exact HO_5.out))) (Kd.R_lt (by (with_reducible repeat (first | apply Kd.R_alloc | apply Kd.R_drewN | apply Kd.R_drew)); exact HO373.out))) (Kd.R_lt (by (with_reducible repeat (first | apply Kd.R_alloc | apply Kd.R_drewN | apply Kd.R_drew)); exact HO381.out))) (Kd.R_lt (by (with_reducible repeat (first | apply Kd.R_alloc | apply Kd.R_drewN | apply Kd.R_drew)); exact HO390.out))) (Kd.R_lt (by (with_reducible repeat (first | apply Kd.R_alloc | apply Kd.R_drewN | apply Kd.R_drew)); exact HO394.out))) (below_size (by repeat (first | (with_reducible first | exact HB.out | apply below_alloc | apply pw_below_drewN | apply below_drew1) | exact HB.out))))
        have n6_ := Aside0.mk (Kd.C_below (by repeat (first | (with_reducible exact HR369.out) | (with_reducible refine Kd.C_alloc ?_ _) | (with_reducible refine Kd.C_drewN ?_ _) | (with_reducible refine Kd.C_drew ?_) | exact HR369.out)) hb)
        have n7_ := Aside0.mk (Kd.C_below (by repeat (first | (with_reducible exact HR377.out) | (with_reducible refine Kd.C_alloc ?_ _) | (with_reducible refine Kd.C_drewN ?_ _) | (with_reducible refine Kd.C_drew ?_) | exact HR377.out)) hb)
        have n8_ := Aside0.mk (Kd.C_below (by repeat (first | (with_reducible exact HR386.out) | (with_reducible refine Kd.C_alloc ?_ _) | (with_reducible refine Kd.C_drewN ?_ _) | (with_reducible refine Kd.C_drew ?_) | exact HR386.out)) hb)
        have n9_ := Aside0.mk (below_step (by repeat (first | (with_reducible first | exact HB.out | apply below_alloc | apply pw_below_drewN | apply below_drew1) | exact HB.out)) hb)
        clear HO_5
        clear HO373
        clear HO381
        clear HO390
        clear HO394
        clear HR369
        clear HR377
        clear HR386
        clear HB
        have HO_5 := n0_
        have HO373 := n1_
        have HO381 := n2_
        have HO390 := n3_
        have HO394 := n4_
        have HO398 := n5_
        have HR369 := n6_
        have HR377 := n7_
        have HR386 := n8_
        have HB := n9_
        clear n0_ n1_ n2_ n3_ n4_ n5_ n6_ n7_ n8_ n9_
        clear hb ho140
        obtain ⟨Ao141, co141, eo141⟩ := Kd.R_slice HO398.out
        (first | subst eo141 | (injection eo141 with f1_ f2_ f3_; have f4_ := f1_.symm; have f5_ := f3_.symm; clear f1_ f2_ f3_; subst f4_; subst f5_))
        refine hK.out _ _ trivial (fun hHeld => ?_)
        clear hK K
        refine norm_ (a' := ?_) ?_ ?_
        rotate_left
        · show Act.put _ (some 146) _ = _
          simp only [Act.put, List.setIfInBounds_toArray, List.set_cons_zero, List.set_cons_succ, i64_w, i32_w]
          rfl
        refine one_ (i := 45) (N := some 147) (tf 46 9) rfl rfl (one_of HT_.out (by kernel_rfl)) (by decide) (fun K hK => ?_)
        refine goes_ Tryd.func14 (by kernel_rfl) rfl #[.slice Ao141 y396.length co141] (by rfl) rfl rfl (by (try simp only [List.map_toArray, List.map_cons, List.map_nil]); first | done | rfl | (simp only [List.length_drop, List.length_take]; rfl)) ?_
        with_reducible refine (head_Check.calls _ _ y396 t399 _ ?side1 ?side2 A86.out).mono ?_
        (case side1 => repeat (first | exact (Kd.R_reads' HO398.out).2.2 | (with_reducible refine Kd.C_alloc ?_ _) | (with_reducible refine Kd.C_drewN ?_ _) | (with_reducible refine Kd.C_drew ?_)))
        (case side2 => exact (Kd.R_reads' HO398.out).2.1)
        rintro e w142 ⟨rfl, hb⟩
        refine ⟨_, rfl, ?_⟩
        have n0_ := Aside0.mk (Kd.R_below (by (with_reducible repeat (first | apply Kd.R_alloc | apply Kd.R_drewN | apply Kd.R_drew)); exact HO_5.out) hb)
        have n1_ := Aside0.mk (Kd.R_below (by (with_reducible repeat (first | apply Kd.R_alloc | apply Kd.R_drewN | apply Kd.R_drew)); exact HO373.out) hb)
        have n2_ := Aside0.mk (Kd.R_below (by (with_reducible repeat (first | apply Kd.R_alloc | apply Kd.R_drewN | apply Kd.R_drew)); exact HO381.out) hb)
        have n3_ := Aside0.mk (Kd.R_below (by (with_reducible repeat (first | apply Kd.R_alloc | apply Kd.R_drewN | apply Kd.R_drew)); exact HO390.out) hb)
        have n4_ := Aside0.mk (Kd.R_below (by (with_reducible repeat (first | apply Kd.R_alloc | apply Kd.R_drewN | apply Kd.R_drew)); exact HO394.out) hb)
        have n5_ := Aside0.mk (Kd.R_below (by (with_reducible repeat (first | apply Kd.R_alloc | apply Kd.R_drewN | apply Kd.R_drew)); exact HO398.out) hb)
        have n6_ := Aside0.mk (Kd.C_below (by repeat (first | (with_reducible exact HR369.out) | (with_reducible refine Kd.C_alloc ?_ _) | (with_reducible refine Kd.C_drewN ?_ _) | (with_reducible refine Kd.C_drew ?_) | exact HR369.out)) hb)
        have n7_ := Aside0.mk (Kd.C_below (by repeat (first | (with_reducible exact HR377.out) | (with_reducible refine Kd.C_alloc ?_ _) | (with_reducible refine Kd.C_drewN ?_ _) | (with_reducible refine Kd.C_drew ?_) | exact HR377.out)) hb)
        have n8_ := Aside0.mk (Kd.C_below (by repeat (first | (with_reducible exact HR386.out) | (with_reducible refine Kd.C_alloc ?_ _) | (with_reducible refine Kd.C_drewN ?_ _) | (with_reducible refine Kd.C_drew ?_) | exact HR386.out)) hb)
        have n9_ := Aside0.mk (below_step (by repeat (first | (with_reducible first | exact HB.out | apply below_alloc | apply pw_below_drewN | apply below_drew1) | exact HB.out)) hb)
        clear HO_5
        clear HO373
        clear HO381
        clear HO390
        clear HO394
        clear HO398
        clear HR369
        clear HR377
        clear HR386
        clear HB
        have HO_5 := n0_
        have HO373 := n1_
        have HO381 := n2_
        have HO390 := n3_
        have HO394 := n4_
        have HO398 := n5_
        have HR369 := n6_
        have HR377 := n7_
        have HR386 := n8_
        have HB := n9_
        clear n0_ n1_ n2_ n3_ n4_ n5_ n6_ n7_ n8_ n9_
        (try clear hb)
        (try clear hb2)
        (try clear hk)
        (try clear hi)
        refine hK.out _ _ trivial (fun hHeld => ?_)
        clear hK K
        refine norm_ (a' := ?_) ?_ ?_
        rotate_left
        · show Act.put _ (some 147) _ = _
          simp only [Act.put, List.setIfInBounds_toArray, List.set_cons_zero, List.set_cons_succ, i64_w, i32_w]
          rfl
        refine pure_ (i := 46) (N := some 148) (v := ?_) (a' := ?_) (tf 47 8) rfl rfl (any_of HT_.out (by kernel_rfl)) (fun _ _ _ h => h) (Or.inl ⟨by rfl, ?_⟩) ?_ ?_
        rotate_left
        · intro w'
          go_simp
          with_reducible rfl
        rotate_left
        · simp only [Act.put, List.setIfInBounds_toArray, List.set_cons_zero, List.set_cons_succ, i64_w, i32_w]
          rfl
        refine pure_ (i := 47) (N := some 149) (v := ?_) (a' := ?_) (tf 48 7) rfl rfl (any_of HT_.out (by kernel_rfl)) (fun _ _ _ h => h) (Or.inl ⟨by rfl, ?_⟩) ?_ ?_
        rotate_left
        · intro w'
          go_simp
          with_reducible rfl
        rotate_left
        · simp only [Act.put, List.setIfInBounds_toArray, List.set_cons_zero, List.set_cons_succ, i64_w, i32_w]
          rfl
        refine pure_ (i := 48) (N := some 150) (v := ?_) (a' := ?_) (tf 49 6) rfl rfl (any_of HT_.out (by kernel_rfl)) (fun _ _ _ h => h) (Or.inl ⟨by rfl, ?_⟩) ?_ ?_
        rotate_left
        · intro w'
          go_simp
          with_reducible rfl
        rotate_left
        · simp only [Act.put, List.setIfInBounds_toArray, List.set_cons_zero, List.set_cons_succ, i64_w, i32_w]
          rfl
        refine pure_ (i := 49) (N := some 151) (v := ?_) (a' := ?_) (tf 50 5) rfl rfl (any_of HT_.out (by kernel_rfl)) (fun _ _ _ h => h) (Or.inl ⟨by rfl, ?_⟩) ?_ ?_
        rotate_left
        · intro w'
          go_simp
          with_reducible rfl
        rotate_left
        · simp only [Act.put, List.setIfInBounds_toArray, List.set_cons_zero, List.set_cons_succ, i64_w, i32_w]
          rfl
        refine one_ (i := 50) (N := some 152) (tf 51 4) rfl rfl (one_of HT_.out (by kernel_rfl)) (by decide) (fun K hK => ?_)
        refine Kd.R_lit_step k28 _ 28 ?hg (N := 152) ?hd (xs := ([(⟨(⟨#[]⟩ : ByteArray), (⟨#[]⟩ : ByteArray)⟩ : S28)] : List (S28))) (inner := [.string (⟨#[]⟩ : ByteArray), .string (⟨#[]⟩ : ByteArray)]) (ok := fun _ => True) (okp := fun _ => True) ?hr ?hp (fun _ hk => hk) trivial (Below.refl _ _) (Nat.le_refl _) (by simp) ?_; (case hd => rfl); (case hg => rfl); (case hr => first | (go_simp; done) | (go_simp; rfl)); (case hp => exact (Reps.c2 (show Kd.M k28 _ _ _ (⟨(⟨#[]⟩ : ByteArray), (⟨#[]⟩ : ByteArray)⟩ : S28) [.string (⟨#[]⟩ : ByteArray), .string (⟨#[]⟩ : ByteArray)] from (k28_mkM _ _ _ (⟨(⟨#[]⟩ : ByteArray), (⟨#[]⟩ : ByteArray)⟩ : S28) )) (Reps.none _ _)))
        intro v401 w143 ho144 hb hg_ hnew_
        clear hg_ hnew_
        (first | rw [← Ny400.out] at ho144 | (simp only [Int.reduceToNat] at ho144; rw [← Ny400.out] at ho144))
        have n0_ := Aside0.mk (Kd.R_elder' (by (with_reducible repeat (first | apply Kd.R_alloc | apply Kd.R_drewN | apply Kd.R_drew)); exact HO_5.out) (Kd.R_base ho144) hb)
        have n1_ := Aside0.mk (Kd.R_elder' (by (with_reducible repeat (first | apply Kd.R_alloc | apply Kd.R_drewN | apply Kd.R_drew)); exact HO373.out) (Kd.R_base ho144) hb)
        have n2_ := Aside0.mk (Kd.R_elder' (by (with_reducible repeat (first | apply Kd.R_alloc | apply Kd.R_drewN | apply Kd.R_drew)); exact HO381.out) (Kd.R_base ho144) hb)
        have n3_ := Aside0.mk (Kd.R_elder' (by (with_reducible repeat (first | apply Kd.R_alloc | apply Kd.R_drewN | apply Kd.R_drew)); exact HO390.out) (Kd.R_base ho144) hb)
        have n4_ := Aside0.mk (Kd.R_elder' (by (with_reducible repeat (first | apply Kd.R_alloc | apply Kd.R_drewN | apply Kd.R_drew)); exact HO394.out) (Kd.R_base ho144) hb)
        have n5_ := Aside0.mk (Kd.R_elder' (by (with_reducible repeat (first | apply Kd.R_alloc | apply Kd.R_drewN | apply Kd.R_drew)); exact HO398.out) (Kd.R_base ho144) hb)
        have n6_ := Aside0.mk (Kd.R_lower (Kd.R_new' (Kd.R_new' (Kd.R_new' (Kd.R_new' (Kd.R_new' (Kd.R_new' ho144 (Kd.R_lt (by (with_reducible repeat (first | apply Kd.R_alloc | apply Kd.R_drewN | apply Kd.R_drew)); exact HO_5.out))) (Kd.R_lt (by (with_reducible repeat (first | apply Kd.R_alloc | apply Kd.R_drewN | apply Kd.R_drew)); exact HO373.out))) (Kd.R_lt (by (with_reducible repeat (first | apply Kd.R_alloc | apply Kd.R_drewN | apply Kd.R_drew)); exact HO381.out))) (Kd.R_lt (by (with_reducible repeat (first | apply Kd.R_alloc | apply Kd.R_drewN | apply Kd.R_drew)); exact HO390.out))) (Kd.R_lt (by (with_reducible repeat (first | apply Kd.R_alloc | apply Kd.R_drewN | apply Kd.R_drew)); exact HO394.out))) (Kd.R_lt (by (with_reducible repeat (first | apply Kd.R_alloc | apply Kd.R_drewN | apply Kd.R_drew)); exact HO398.out))) (below_size (by repeat (first | (with_reducible first | exact HB.out | apply below_alloc | apply pw_below_drewN | apply below_drew1) | exact HB.out))))
        have n7_ := Aside0.mk (Kd.C_below (by repeat (first | (with_reducible exact HR369.out) | (with_reducible refine Kd.C_alloc ?_ _) | (with_reducible refine Kd.C_drewN ?_ _) | (with_reducible refine Kd.C_drew ?_) | exact HR369.out)) hb)
        have n8_ := Aside0.mk (Kd.C_below (by repeat (first | (with_reducible exact HR377.out) | (with_reducible refine Kd.C_alloc ?_ _) | (with_reducible refine Kd.C_drewN ?_ _) | (with_reducible refine Kd.C_drew ?_) | exact HR377.out)) hb)
        have n9_ := Aside0.mk (Kd.C_below (by repeat (first | (with_reducible exact HR386.out) | (with_reducible refine Kd.C_alloc ?_ _) | (with_reducible refine Kd.C_drewN ?_ _) | (with_reducible refine Kd.C_drew ?_) | exact HR386.out)) hb)
        have n10_ := Aside0.mk (below_step (by repeat (first | (with_reducible first | exact HB.out | apply below_alloc | apply pw_below_drewN | apply below_drew1) | exact HB.out)) hb)
        clear HO_5
        clear HO373
        clear HO381
        clear HO390
        clear HO394
        clear HO398
        clear HR369
        clear HR377
        clear HR386
        clear HB
        have HO_5 := n0_
        have HO373 := n1_
        have HO381 := n2_
        have HO390 := n3_
        have HO394 := n4_
        have HO398 := n5_
        have HO402 := n6_
        have HR369 := n7_
        have HR377 := n8_
        have HR386 := n9_
        have HB := n10_
        clear n0_ n1_ n2_ n3_ n4_ n5_ n6_ n7_ n8_ n9_ n10_
        clear hb ho144
        obtain ⟨Ao145, co145, eo145⟩ := Kd.R_slice HO402.out
        (first | subst eo145 | (injection eo145 with f1_ f2_ f3_; have f4_ := f1_.symm; have f5_ := f3_.symm; clear f1_ f2_ f3_; subst f4_; subst f5_))
        refine hK.out _ _ trivial (fun hHeld => ?_)
        clear hK K
        refine norm_ (a' := ?_) ?_ ?_
        rotate_left
        · show Act.put _ (some 152) _ = _
          simp only [Act.put, List.setIfInBounds_toArray, List.set_cons_zero, List.set_cons_succ, i64_w, i32_w]
          rfl
        refine one_ (i := 51) (N := some 153) (tf 52 3) rfl rfl (one_of HT_.out (by kernel_rfl)) (by decide) (fun K hK => ?_)
        refine goes_ Tryd.func14 (by kernel_rfl) rfl #[.slice Ao145 y400.length co145] (by rfl) rfl rfl (by (try simp only [List.map_toArray, List.map_cons, List.map_nil]); first | done | rfl | (simp only [List.length_drop, List.length_take]; rfl)) ?_
        with_reducible refine (head_Check.calls _ _ y400 t403 _ ?side1 ?side2 A88.out).mono ?_
        (case side1 => repeat (first | exact (Kd.R_reads' HO402.out).2.2 | (with_reducible refine Kd.C_alloc ?_ _) | (with_reducible refine Kd.C_drewN ?_ _) | (with_reducible refine Kd.C_drew ?_)))
        (case side2 => exact (Kd.R_reads' HO402.out).2.1)
        rintro e w146 ⟨rfl, hb⟩
        refine ⟨_, rfl, ?_⟩
        have n0_ := Aside0.mk (Kd.R_below (by (with_reducible repeat (first | apply Kd.R_alloc | apply Kd.R_drewN | apply Kd.R_drew)); exact HO_5.out) hb)
        have n1_ := Aside0.mk (Kd.R_below (by (with_reducible repeat (first | apply Kd.R_alloc | apply Kd.R_drewN | apply Kd.R_drew)); exact HO373.out) hb)
        have n2_ := Aside0.mk (Kd.R_below (by (with_reducible repeat (first | apply Kd.R_alloc | apply Kd.R_drewN | apply Kd.R_drew)); exact HO381.out) hb)
        have n3_ := Aside0.mk (Kd.R_below (by (with_reducible repeat (first | apply Kd.R_alloc | apply Kd.R_drewN | apply Kd.R_drew)); exact HO390.out) hb)
        have n4_ := Aside0.mk (Kd.R_below (by (with_reducible repeat (first | apply Kd.R_alloc | apply Kd.R_drewN | apply Kd.R_drew)); exact HO394.out) hb)
        have n5_ := Aside0.mk (Kd.R_below (by (with_reducible repeat (first | apply Kd.R_alloc | apply Kd.R_drewN | apply Kd.R_drew)); exact HO398.out) hb)
        have n6_ := Aside0.mk (Kd.R_below (by (with_reducible repeat (first | apply Kd.R_alloc | apply Kd.R_drewN | apply Kd.R_drew)); exact HO402.out) hb)
        have n7_ := Aside0.mk (Kd.C_below (by repeat (first | (with_reducible exact HR369.out) | (with_reducible refine Kd.C_alloc ?_ _) | (with_reducible refine Kd.C_drewN ?_ _) | (with_reducible refine Kd.C_drew ?_) | exact HR369.out)) hb)
        have n8_ := Aside0.mk (Kd.C_below (by repeat (first | (with_reducible exact HR377.out) | (with_reducible refine Kd.C_alloc ?_ _) | (with_reducible refine Kd.C_drewN ?_ _) | (with_reducible refine Kd.C_drew ?_) | exact HR377.out)) hb)
        have n9_ := Aside0.mk (Kd.C_below (by repeat (first | (with_reducible exact HR386.out) | (with_reducible refine Kd.C_alloc ?_ _) | (with_reducible refine Kd.C_drewN ?_ _) | (with_reducible refine Kd.C_drew ?_) | exact HR386.out)) hb)
        have n10_ := Aside0.mk (below_step (by repeat (first | (with_reducible first | exact HB.out | apply below_alloc | apply pw_below_drewN | apply below_drew1) | exact HB.out)) hb)
        clear HO_5
        clear HO373
        clear HO381
        clear HO390
        clear HO394
        clear HO398
        clear HO402
        clear HR369
        clear HR377
        clear HR386
        clear HB
        have HO_5 := n0_
        have HO373 := n1_
        have HO381 := n2_
        have HO390 := n3_
        have HO394 := n4_
        have HO398 := n5_
        have HO402 := n6_
        have HR369 := n7_
        have HR377 := n8_
        have HR386 := n9_
        have HB := n10_
        clear n0_ n1_ n2_ n3_ n4_ n5_ n6_ n7_ n8_ n9_ n10_
        (try clear hb)
        (try clear hb2)
        (try clear hk)
        (try clear hi)
        refine hK.out _ _ trivial (fun hHeld => ?_)
        clear hK K
        refine norm_ (a' := ?_) ?_ ?_
        rotate_left
        · show Act.put _ (some 153) _ = _
          simp only [Act.put, List.setIfInBounds_toArray, List.set_cons_zero, List.set_cons_succ, i64_w, i32_w]
          rfl
        refine pure_ (i := 52) (N := some 154) (v := ?_) (a' := ?_) (tf 53 2) rfl rfl (any_of HT_.out (by kernel_rfl)) (fun _ _ _ h => h) (Or.inl ⟨by rfl, ?_⟩) ?_ ?_
        rotate_left
        · intro w'
          go_simp
          with_reducible rfl
        rotate_left
        · simp only [Act.put, List.setIfInBounds_toArray, List.set_cons_zero, List.set_cons_succ, i64_w, i32_w]
          rfl
        refine pure_ (i := 53) (N := some 155) (v := ?_) (a' := ?_) (tf 54 1) rfl rfl (any_of HT_.out (by kernel_rfl)) (fun _ _ _ h => h) (Or.inl ⟨by rfl, ?_⟩) ?_ ?_
        rotate_left
        · intro w'
          go_simp
          with_reducible rfl
        rotate_left
        · simp only [Act.put, List.setIfInBounds_toArray, List.set_cons_zero, List.set_cons_succ, i64_w, i32_w]
          rfl
        refine pure_ (i := 54) (N := some 11) (v := ?_) (a' := ?_) (tf 55 0) rfl rfl (any_of HT_.out (by kernel_rfl)) (fun _ _ _ h => h) (Or.inl ⟨by rfl, ?_⟩) ?_ ?_
        rotate_left
        · intro w'
          go_simp
          with_reducible rfl
        rotate_left
        · simp only [Act.put, List.setIfInBounds_toArray, List.set_cons_zero, List.set_cons_succ, i64_w, i32_w]
          rfl
        refine done_ (done_of HT_.out (by kernel_rfl)) ?_
        try go_wp2
        have n0_ := Aside0.mk (Kd.R_drew HO_5.out)
        have n1_ := Aside0.mk (Kd.R_drew HO373.out)
        have n2_ := Aside0.mk (Kd.R_drew HO381.out)
        have n3_ := Aside0.mk (Kd.R_drew HO390.out)
        have n4_ := Aside0.mk (Kd.R_drew HO394.out)
        have n5_ := Aside0.mk (Kd.R_drew HO398.out)
        have n6_ := Aside0.mk (Kd.R_drew HO402.out)
        have n7_ := Aside0.mk (Kd.C_drew HR369.out)
        have n8_ := Aside0.mk (Kd.C_drew HR377.out)
        have n9_ := Aside0.mk (Kd.C_drew HR386.out)
        have n10_ := Aside0.mk (below_drew1 HB.out)
        clear HO_5
        clear HO373
        clear HO381
        clear HO390
        clear HO394
        clear HO398
        clear HO402
        clear HR369
        clear HR377
        clear HR386
        clear HB
        have HO_5 := n0_
        have HO373 := n1_
        have HO381 := n2_
        have HO390 := n3_
        have HO394 := n4_
        have HO398 := n5_
        have HO402 := n6_
        have HR369 := n7_
        have HR377 := n8_
        have HR386 := n9_
        have HB := n10_
        clear n0_ n1_ n2_ n3_ n4_ n5_ n6_ n7_ n8_ n9_ n10_
        refine start_ (n := 39) (S := fun w' => True) (ds := []) (tf 0 39) (by kernel_rfl) rfl rfl trivial (fun hHeld => ?_); refine with_tabW chinoiserielaw04_HeadNames.tab20 chinoiserielaw04_HeadNames.bits20 (fun HT_ HW_ => ?_)
        generalize w146.drew = w147 at HO_5 HO373 HO381 HO390 HO394 HO398 HO402 HR369 HR377 HR386 HB hHeld ⊢
        refine pure_ (i := 0) (N := some 156) (v := ?_) (a' := ?_) (tf 1 38) rfl rfl (any_of HT_.out (by kernel_rfl)) (fun _ _ _ h => h) (Or.inl ⟨by rfl, ?_⟩) ?_ ?_
        rotate_left
        · intro w'
          go_simp
          with_reducible rfl
        rotate_left
        · simp only [Act.put, List.setIfInBounds_toArray, List.set_cons_zero, List.set_cons_succ, i64_w, i32_w]
          rfl
        refine pure_ (i := 1) (N := some 157) (v := ?_) (a' := ?_) (tf 2 37) rfl rfl (any_of HT_.out (by kernel_rfl)) (fun _ _ _ h => h) (Or.inl ⟨by rfl, ?_⟩) ?_ ?_
        rotate_left
        · intro w'
          go_simp
          with_reducible rfl
        rotate_left
        · simp only [Act.put, List.setIfInBounds_toArray, List.set_cons_zero, List.set_cons_succ, i64_w, i32_w]
          rfl
        refine pure_ (i := 2) (N := some 158) (v := ?_) (a' := ?_) (tf 3 36) rfl rfl (any_of HT_.out (by kernel_rfl)) (fun _ _ _ h => h) (Or.inl ⟨by rfl, ?_⟩) ?_ ?_
        rotate_left
        · intro w'
          go_simp
          with_reducible rfl
        rotate_left
        · simp only [Act.put, List.setIfInBounds_toArray, List.set_cons_zero, List.set_cons_succ, i64_w, i32_w]
          rfl
        refine pure_ (i := 3) (N := some 159) (v := ?_) (a' := ?_) (tf 4 35) rfl rfl (any_of HT_.out (by kernel_rfl)) (fun _ _ _ h => h) (Or.inl ⟨by rfl, ?_⟩) ?_ ?_
        rotate_left
        · intro w'
          go_simp
          with_reducible rfl
        rotate_left
        · simp only [Act.put, List.setIfInBounds_toArray, List.set_cons_zero, List.set_cons_succ, i64_w, i32_w]
          rfl
        refine pure_ (i := 4) (N := some 160) (v := ?_) (a' := ?_) (tf 5 34) rfl rfl (any_of HT_.out (by kernel_rfl)) (fun _ _ _ h => h) (Or.inl ⟨by rfl, ?_⟩) ?_ ?_
        rotate_left
        · intro w'
          go_simp
          with_reducible rfl
        rotate_left
        · simp only [Act.put, List.setIfInBounds_toArray, List.set_cons_zero, List.set_cons_succ, i64_w, i32_w]
          rfl
        refine pure_ (i := 5) (N := some 161) (v := ?_) (a' := ?_) (tf 6 33) rfl rfl (any_of HT_.out (by kernel_rfl)) (fun _ _ _ h => h) (Or.inl ⟨by rfl, ?_⟩) ?_ ?_
        rotate_left
        · intro w'
          go_simp
          with_reducible rfl
        rotate_left
        · simp only [Act.put, List.setIfInBounds_toArray, List.set_cons_zero, List.set_cons_succ, i64_w, i32_w]
          rfl
        refine one_ (i := 6) (N := some 162) (tf 7 32) rfl rfl (one_of HT_.out (by kernel_rfl)) (by decide) (fun K hK => ?_)
        refine goes_ Tryd.func37 (by kernel_rfl) rfl #[.string (((⟨#[97, 58]⟩ : ByteArray) ++ (x1_1.extract 0 200)) ++ (⟨#[32, 32, 32, 32, 32, 32, 32, 32, 32, 32, 32, 32, 32, 32, 32, 32, 32, 32, 32, 32, 32, 32, 32, 32, 32, 32, 32, 32, 32, 32, 32, 32, 32, 32, 32, 32, 32, 32, 32, 32, 32, 32, 32, 32, 32, 32, 32, 32, 32, 32, 32, 32, 32, 32, 32, 32, 32, 32, 32, 32, 32, 32, 32, 32, 32, 32]⟩ : ByteArray)), .string (⟨#[97]⟩ : ByteArray), .string (x1_1.extract 0 200)] (by rfl) rfl rfl (by (try simp only [List.map_toArray, List.map_cons, List.map_nil]); first | done | rfl | (simp only [List.length_drop, List.length_take]; rfl)) ?_
        with_reducible refine (chinoiserielaw04_line.calls (((⟨#[97, 58]⟩ : ByteArray) ++ (x1_1.extract 0 200)) ++ (⟨#[32, 32, 32, 32, 32, 32, 32, 32, 32, 32, 32, 32, 32, 32, 32, 32, 32, 32, 32, 32, 32, 32, 32, 32, 32, 32, 32, 32, 32, 32, 32, 32, 32, 32, 32, 32, 32, 32, 32, 32, 32, 32, 32, 32, 32, 32, 32, 32, 32, 32, 32, 32, 32, 32, 32, 32, 32, 32, 32, 32, 32, 32, 32, 32, 32, 32]⟩ : ByteArray)) (⟨#[97]⟩ : ByteArray) (x1_1.extract 0 200) true _ A95.out).mono ?_
        rintro e w148 ⟨rfl, hb⟩
        refine ⟨_, rfl, ?_⟩
        have n0_ := Aside0.mk (Kd.R_below (by (with_reducible repeat (first | apply Kd.R_alloc | apply Kd.R_drewN | apply Kd.R_drew)); exact HO_5.out) hb)
        have n1_ := Aside0.mk (Kd.R_below (by (with_reducible repeat (first | apply Kd.R_alloc | apply Kd.R_drewN | apply Kd.R_drew)); exact HO373.out) hb)
        have n2_ := Aside0.mk (Kd.R_below (by (with_reducible repeat (first | apply Kd.R_alloc | apply Kd.R_drewN | apply Kd.R_drew)); exact HO381.out) hb)
        have n3_ := Aside0.mk (Kd.R_below (by (with_reducible repeat (first | apply Kd.R_alloc | apply Kd.R_drewN | apply Kd.R_drew)); exact HO390.out) hb)
        have n4_ := Aside0.mk (Kd.R_below (by (with_reducible repeat (first | apply Kd.R_alloc | apply Kd.R_drewN | apply Kd.R_drew)); exact HO394.out) hb)
        have n5_ := Aside0.mk (Kd.R_below (by (with_reducible repeat (first | apply Kd.R_alloc | apply Kd.R_drewN | apply Kd.R_drew)); exact HO398.out) hb)
        have n6_ := Aside0.mk (Kd.R_below (by (with_reducible repeat (first | apply Kd.R_alloc | apply Kd.R_drewN | apply Kd.R_drew)); exact HO402.out) hb)
        have n7_ := Aside0.mk (Kd.C_below (by repeat (first | (with_reducible exact HR369.out) | (with_reducible refine Kd.C_alloc ?_ _) | (with_reducible refine Kd.C_drewN ?_ _) | (with_reducible refine Kd.C_drew ?_) | exact HR369.out)) hb)
        have n8_ := Aside0.mk (Kd.C_below (by repeat (first | (with_reducible exact HR377.out) | (with_reducible refine Kd.C_alloc ?_ _) | (with_reducible refine Kd.C_drewN ?_ _) | (with_reducible refine Kd.C_drew ?_) | exact HR377.out)) hb)
        have n9_ := Aside0.mk (Kd.C_below (by repeat (first | (with_reducible exact HR386.out) | (with_reducible refine Kd.C_alloc ?_ _) | (with_reducible refine Kd.C_drewN ?_ _) | (with_reducible refine Kd.C_drew ?_) | exact HR386.out)) hb)
        have n10_ := Aside0.mk (below_step (by repeat (first | (with_reducible first | exact HB.out | apply below_alloc | apply pw_below_drewN | apply below_drew1) | exact HB.out)) hb)
        clear HO_5
        clear HO373
        clear HO381
        clear HO390
        clear HO394
        clear HO398
        clear HO402
        clear HR369
        clear HR377
        clear HR386
        clear HB
        have HO_5 := n0_
        have HO373 := n1_
        have HO381 := n2_
        have HO390 := n3_
        have HO394 := n4_
        have HO398 := n5_
        have HO402 := n6_
        have HR369 := n7_
        have HR377 := n8_
        have HR386 := n9_
        have HB := n10_
        clear n0_ n1_ n2_ n3_ n4_ n5_ n6_ n7_ n8_ n9_ n10_
        (try clear hb)
        (try clear hb2)
        (try clear hk)
        (try clear hi)
        refine hK.out _ _ trivial (fun hHeld => ?_)
        clear hK K
        refine norm_ (a' := ?_) ?_ ?_
        rotate_left
        · show Act.put _ (some 162) _ = _
          simp only [Act.put, List.setIfInBounds_toArray, List.set_cons_zero, List.set_cons_succ, i64_w, i32_w]
          rfl
        refine pure_ (i := 7) (N := some 163) (v := ?_) (a' := ?_) (tf 8 31) rfl rfl (any_of HT_.out (by kernel_rfl)) (fun _ _ _ h => h) (Or.inl ⟨by rfl, ?_⟩) ?_ ?_
        rotate_left
        · intro w'
          go_simp
          with_reducible rfl
        rotate_left
        · simp only [Act.put, List.setIfInBounds_toArray, List.set_cons_zero, List.set_cons_succ, i64_w, i32_w]
          rfl
        refine pure_ (i := 8) (N := some 164) (v := ?_) (a' := ?_) (tf 9 30) rfl rfl (any_of HT_.out (by kernel_rfl)) (fun _ _ _ h => h) (Or.inl ⟨by rfl, ?_⟩) ?_ ?_
        rotate_left
        · intro w'
          go_simp
          with_reducible rfl
        rotate_left
        · simp only [Act.put, List.setIfInBounds_toArray, List.set_cons_zero, List.set_cons_succ, i64_w, i32_w]
          rfl
        refine pure_ (i := 9) (N := some 165) (v := ?_) (a' := ?_) (tf 10 29) rfl rfl (any_of HT_.out (by kernel_rfl)) (fun _ _ _ h => h) (Or.inl ⟨by rfl, ?_⟩) ?_ ?_
        rotate_left
        · intro w'
          go_simp
          with_reducible rfl
        rotate_left
        · simp only [Act.put, List.setIfInBounds_toArray, List.set_cons_zero, List.set_cons_succ, i64_w, i32_w]
          rfl
        refine pure_ (i := 10) (N := some 166) (v := ?_) (a' := ?_) (tf 11 28) rfl rfl (any_of HT_.out (by kernel_rfl)) (fun _ _ _ h => h) (Or.inl ⟨by rfl, ?_⟩) ?_ ?_
        rotate_left
        · intro w'
          go_simp
          with_reducible rfl
        rotate_left
        · simp only [Act.put, List.setIfInBounds_toArray, List.set_cons_zero, List.set_cons_succ, i64_w, i32_w]
          rfl
        refine pure_ (i := 11) (N := some 167) (v := ?_) (a' := ?_) (tf 12 27) rfl rfl (any_of HT_.out (by kernel_rfl)) (fun _ _ _ h => h) (Or.inl ⟨by rfl, ?_⟩) ?_ ?_
        rotate_left
        · intro w'
          go_simp
          with_reducible rfl
        rotate_left
        · simp only [Act.put, List.setIfInBounds_toArray, List.set_cons_zero, List.set_cons_succ, i64_w, i32_w]
          rfl
        refine pure_ (i := 12) (N := some 168) (v := ?_) (a' := ?_) (tf 13 26) rfl rfl (any_of HT_.out (by kernel_rfl)) (fun _ _ _ h => h) (Or.inl ⟨by rfl, ?_⟩) ?_ ?_
        rotate_left
        · intro w'
          go_simp
          with_reducible rfl
        rotate_left
        · simp only [Act.put, List.setIfInBounds_toArray, List.set_cons_zero, List.set_cons_succ, i64_w, i32_w]
          rfl
        refine one_ (i := 13) (N := some 169) (tf 14 25) rfl rfl (one_of HT_.out (by kernel_rfl)) (by decide) (fun K hK => ?_)
        refine goes_ Tryd.func38 (by kernel_rfl) rfl #[.string (((⟨#[97, 58]⟩ : ByteArray) ++ x1_1) ++ (x1_1.extract 0 60))] (by rfl) rfl rfl (by (try simp only [List.map_toArray, List.map_cons, List.map_nil]); first | done | rfl | (simp only [List.length_drop, List.length_take]; rfl)) ?_
        with_reducible refine (chinoiserielaw04_wrong.calls (((⟨#[97, 58]⟩ : ByteArray) ++ x1_1) ++ (x1_1.extract 0 60)) true _ A101.out).mono ?_
        rintro e w149 ⟨rfl, hb⟩
        refine ⟨_, rfl, ?_⟩
        have n0_ := Aside0.mk (Kd.R_below (by (with_reducible repeat (first | apply Kd.R_alloc | apply Kd.R_drewN | apply Kd.R_drew)); exact HO_5.out) hb)
        have n1_ := Aside0.mk (Kd.R_below (by (with_reducible repeat (first | apply Kd.R_alloc | apply Kd.R_drewN | apply Kd.R_drew)); exact HO373.out) hb)
        have n2_ := Aside0.mk (Kd.R_below (by (with_reducible repeat (first | apply Kd.R_alloc | apply Kd.R_drewN | apply Kd.R_drew)); exact HO381.out) hb)
        have n3_ := Aside0.mk (Kd.R_below (by (with_reducible repeat (first | apply Kd.R_alloc | apply Kd.R_drewN | apply Kd.R_drew)); exact HO390.out) hb)
        have n4_ := Aside0.mk (Kd.R_below (by (with_reducible repeat (first | apply Kd.R_alloc | apply Kd.R_drewN | apply Kd.R_drew)); exact HO394.out) hb)
        have n5_ := Aside0.mk (Kd.R_below (by (with_reducible repeat (first | apply Kd.R_alloc | apply Kd.R_drewN | apply Kd.R_drew)); exact HO398.out) hb)
        have n6_ := Aside0.mk (Kd.R_below (by (with_reducible repeat (first | apply Kd.R_alloc | apply Kd.R_drewN | apply Kd.R_drew)); exact HO402.out) hb)
        have n7_ := Aside0.mk (Kd.C_below (by repeat (first | (with_reducible exact HR369.out) | (with_reducible refine Kd.C_alloc ?_ _) | (with_reducible refine Kd.C_drewN ?_ _) | (with_reducible refine Kd.C_drew ?_) | exact HR369.out)) hb)
        have n8_ := Aside0.mk (Kd.C_below (by repeat (first | (with_reducible exact HR377.out) | (with_reducible refine Kd.C_alloc ?_ _) | (with_reducible refine Kd.C_drewN ?_ _) | (with_reducible refine Kd.C_drew ?_) | exact HR377.out)) hb)
        have n9_ := Aside0.mk (Kd.C_below (by repeat (first | (with_reducible exact HR386.out) | (with_reducible refine Kd.C_alloc ?_ _) | (with_reducible refine Kd.C_drewN ?_ _) | (with_reducible refine Kd.C_drew ?_) | exact HR386.out)) hb)
        have n10_ := Aside0.mk (below_step (by repeat (first | (with_reducible first | exact HB.out | apply below_alloc | apply pw_below_drewN | apply below_drew1) | exact HB.out)) hb)
        clear HO_5
        clear HO373
        clear HO381
        clear HO390
        clear HO394
        clear HO398
        clear HO402
        clear HR369
        clear HR377
        clear HR386
        clear HB
        have HO_5 := n0_
        have HO373 := n1_
        have HO381 := n2_
        have HO390 := n3_
        have HO394 := n4_
        have HO398 := n5_
        have HO402 := n6_
        have HR369 := n7_
        have HR377 := n8_
        have HR386 := n9_
        have HB := n10_
        clear n0_ n1_ n2_ n3_ n4_ n5_ n6_ n7_ n8_ n9_ n10_
        (try clear hb)
        (try clear hb2)
        (try clear hk)
        (try clear hi)
        refine hK.out _ _ trivial (fun hHeld => ?_)
        clear hK K
        refine norm_ (a' := ?_) ?_ ?_
        rotate_left
        · show Act.put _ (some 169) _ = _
          simp only [Act.put, List.setIfInBounds_toArray, List.set_cons_zero, List.set_cons_succ, i64_w, i32_w]
          rfl
        refine pure_ (i := 14) (N := some 170) (v := ?_) (a' := ?_) (tf 15 24) rfl rfl (any_of HT_.out (by kernel_rfl)) (fun _ _ _ h => h) (Or.inl ⟨by rfl, ?_⟩) ?_ ?_
        rotate_left
        · intro w'
          go_simp
          with_reducible rfl
        rotate_left
        · simp only [Act.put, List.setIfInBounds_toArray, List.set_cons_zero, List.set_cons_succ, i64_w, i32_w]
          rfl
        refine pure_ (i := 15) (N := some 171) (v := ?_) (a' := ?_) (tf 16 23) rfl rfl (any_of HT_.out (by kernel_rfl)) (fun _ _ _ h => h) (Or.inl ⟨by rfl, ?_⟩) ?_ ?_
        rotate_left
        · intro w'
          go_simp
          with_reducible rfl
        rotate_left
        · simp only [Act.put, List.setIfInBounds_toArray, List.set_cons_zero, List.set_cons_succ, i64_w, i32_w]
          rfl
        refine pure_ (i := 16) (N := some 172) (v := ?_) (a' := ?_) (tf 17 22) rfl rfl (any_of HT_.out (by kernel_rfl)) (fun _ _ _ h => h) (Or.inl ⟨by rfl, ?_⟩) ?_ ?_
        rotate_left
        · intro w'
          go_simp
          with_reducible rfl
        rotate_left
        · simp only [Act.put, List.setIfInBounds_toArray, List.set_cons_zero, List.set_cons_succ, i64_w, i32_w]
          rfl
        refine pure_ (i := 17) (N := some 173) (v := ?_) (a' := ?_) (tf 18 21) rfl rfl (any_of HT_.out (by kernel_rfl)) (fun _ _ _ h => h) (Or.inl ⟨by rfl, ?_⟩) ?_ ?_
        rotate_left
        · intro w'
          go_simp
          with_reducible rfl
        rotate_left
        · simp only [Act.put, List.setIfInBounds_toArray, List.set_cons_zero, List.set_cons_succ, i64_w, i32_w]
          rfl
        refine pure_ (i := 18) (N := some 174) (v := ?_) (a' := ?_) (tf 19 20) rfl rfl (any_of HT_.out (by kernel_rfl)) (fun _ _ _ h => h) (Or.inl ⟨by rfl, ?_⟩) ?_ ?_
        rotate_left
        · intro w'
          go_simp
          with_reducible rfl
        rotate_left
        · simp only [Act.put, List.setIfInBounds_toArray, List.set_cons_zero, List.set_cons_succ, i64_w, i32_w]
          rfl
        refine pure_ (i := 19) (N := some 175) (v := ?_) (a' := ?_) (tf 20 19) rfl rfl (any_of HT_.out (by kernel_rfl)) (fun _ _ _ h => h) (Or.inl ⟨by rfl, ?_⟩) ?_ ?_
        rotate_left
        · intro w'
          go_simp
          with_reducible rfl
        rotate_left
        · simp only [Act.put, List.setIfInBounds_toArray, List.set_cons_zero, List.set_cons_succ, i64_w, i32_w]
          rfl
        refine one_ (i := 20) (N := some 176) (tf 21 18) rfl rfl (one_of HT_.out (by kernel_rfl)) (by decide) (fun K hK => ?_)
        refine goes_ Tryd.func5 (by kernel_rfl) rfl #[.string (((⟨#[97, 58]⟩ : ByteArray) ++ (x1_1.extract 0 200)) ++ (⟨#[32, 9, 32]⟩ : ByteArray))] (by rfl) rfl rfl (by (try simp only [List.map_toArray, List.map_cons, List.map_nil]); first | done | rfl | (simp only [List.length_drop, List.length_take]; rfl)) ?_
        with_reducible refine (chinoiserielaw04_HeadLines.calls k3 (((⟨#[97, 58]⟩ : ByteArray) ++ (x1_1.extract 0 200)) ++ (⟨#[32, 9, 32]⟩ : ByteArray)) true _ A106.out).mono ?_
        rintro e w150 ⟨rfl, hb⟩
        refine ⟨_, rfl, ?_⟩
        have n0_ := Aside0.mk (Kd.R_below (by (with_reducible repeat (first | apply Kd.R_alloc | apply Kd.R_drewN | apply Kd.R_drew)); exact HO_5.out) hb)
        have n1_ := Aside0.mk (Kd.R_below (by (with_reducible repeat (first | apply Kd.R_alloc | apply Kd.R_drewN | apply Kd.R_drew)); exact HO373.out) hb)
        have n2_ := Aside0.mk (Kd.R_below (by (with_reducible repeat (first | apply Kd.R_alloc | apply Kd.R_drewN | apply Kd.R_drew)); exact HO381.out) hb)
        have n3_ := Aside0.mk (Kd.R_below (by (with_reducible repeat (first | apply Kd.R_alloc | apply Kd.R_drewN | apply Kd.R_drew)); exact HO390.out) hb)
        have n4_ := Aside0.mk (Kd.R_below (by (with_reducible repeat (first | apply Kd.R_alloc | apply Kd.R_drewN | apply Kd.R_drew)); exact HO394.out) hb)
        have n5_ := Aside0.mk (Kd.R_below (by (with_reducible repeat (first | apply Kd.R_alloc | apply Kd.R_drewN | apply Kd.R_drew)); exact HO398.out) hb)
        have n6_ := Aside0.mk (Kd.R_below (by (with_reducible repeat (first | apply Kd.R_alloc | apply Kd.R_drewN | apply Kd.R_drew)); exact HO402.out) hb)
        have n7_ := Aside0.mk (Kd.C_below (by repeat (first | (with_reducible exact HR369.out) | (with_reducible refine Kd.C_alloc ?_ _) | (with_reducible refine Kd.C_drewN ?_ _) | (with_reducible refine Kd.C_drew ?_) | exact HR369.out)) hb)
        have n8_ := Aside0.mk (Kd.C_below (by repeat (first | (with_reducible exact HR377.out) | (with_reducible refine Kd.C_alloc ?_ _) | (with_reducible refine Kd.C_drewN ?_ _) | (with_reducible refine Kd.C_drew ?_) | exact HR377.out)) hb)
        have n9_ := Aside0.mk (Kd.C_below (by repeat (first | (with_reducible exact HR386.out) | (with_reducible refine Kd.C_alloc ?_ _) | (with_reducible refine Kd.C_drewN ?_ _) | (with_reducible refine Kd.C_drew ?_) | exact HR386.out)) hb)
        have n10_ := Aside0.mk (below_step (by repeat (first | (with_reducible first | exact HB.out | apply below_alloc | apply pw_below_drewN | apply below_drew1) | exact HB.out)) hb)
        clear HO_5
        clear HO373
        clear HO381
        clear HO390
        clear HO394
        clear HO398
        clear HO402
        clear HR369
        clear HR377
        clear HR386
        clear HB
        have HO_5 := n0_
        have HO373 := n1_
        have HO381 := n2_
        have HO390 := n3_
        have HO394 := n4_
        have HO398 := n5_
        have HO402 := n6_
        have HR369 := n7_
        have HR377 := n8_
        have HR386 := n9_
        have HB := n10_
        clear n0_ n1_ n2_ n3_ n4_ n5_ n6_ n7_ n8_ n9_ n10_
        (try clear hb)
        (try clear hb2)
        (try clear hk)
        (try clear hi)
        refine hK.out _ _ trivial (fun hHeld => ?_)
        clear hK K
        refine norm_ (a' := ?_) ?_ ?_
        rotate_left
        · show Act.put _ (some 176) _ = _
          simp only [Act.put, List.setIfInBounds_toArray, List.set_cons_zero, List.set_cons_succ, i64_w, i32_w]
          rfl
        refine pure_ (i := 21) (N := some 177) (v := ?_) (a' := ?_) (tf 22 17) rfl rfl (any_of HT_.out (by kernel_rfl)) (fun _ _ _ h => h) (Or.inl ⟨by rfl, ?_⟩) ?_ ?_
        rotate_left
        · intro w'
          go_simp
          with_reducible rfl
        rotate_left
        · simp only [Act.put, List.setIfInBounds_toArray, List.set_cons_zero, List.set_cons_succ, i64_w, i32_w]
          rfl
        refine pure_ (i := 22) (N := some 178) (v := ?_) (a' := ?_) (tf 23 16) rfl rfl (any_of HT_.out (by kernel_rfl)) (fun _ _ _ h => h) (Or.inl ⟨by rfl, ?_⟩) ?_ ?_
        rotate_left
        · intro w'
          go_simp
          with_reducible rfl
        rotate_left
        · simp only [Act.put, List.setIfInBounds_toArray, List.set_cons_zero, List.set_cons_succ, i64_w, i32_w]
          rfl
        refine one_ (i := 23) (N := some 179) (tf 24 15) rfl rfl (one_of HT_.out (by kernel_rfl)) (by decide) (fun K hK => ?_)
        refine goes_ Tryd.func5 (by kernel_rfl) rfl #[.string (⟨#[]⟩ : ByteArray)] (by rfl) rfl rfl (by (try simp only [List.map_toArray, List.map_cons, List.map_nil]); first | done | rfl | (simp only [List.length_drop, List.length_take]; rfl)) ?_
        with_reducible refine (chinoiserielaw04_HeadLines.calls k3 (⟨#[]⟩ : ByteArray) true _ A108.out).mono ?_
        rintro e w151 ⟨rfl, hb⟩
        refine ⟨_, rfl, ?_⟩
        have n0_ := Aside0.mk (Kd.R_below (by (with_reducible repeat (first | apply Kd.R_alloc | apply Kd.R_drewN | apply Kd.R_drew)); exact HO_5.out) hb)
        have n1_ := Aside0.mk (Kd.R_below (by (with_reducible repeat (first | apply Kd.R_alloc | apply Kd.R_drewN | apply Kd.R_drew)); exact HO373.out) hb)
        have n2_ := Aside0.mk (Kd.R_below (by (with_reducible repeat (first | apply Kd.R_alloc | apply Kd.R_drewN | apply Kd.R_drew)); exact HO381.out) hb)
        have n3_ := Aside0.mk (Kd.R_below (by (with_reducible repeat (first | apply Kd.R_alloc | apply Kd.R_drewN | apply Kd.R_drew)); exact HO390.out) hb)
        have n4_ := Aside0.mk (Kd.R_below (by (with_reducible repeat (first | apply Kd.R_alloc | apply Kd.R_drewN | apply Kd.R_drew)); exact HO394.out) hb)
        have n5_ := Aside0.mk (Kd.R_below (by (with_reducible repeat (first | apply Kd.R_alloc | apply Kd.R_drewN | apply Kd.R_drew)); exact HO398.out) hb)
        have n6_ := Aside0.mk (Kd.R_below (by (with_reducible repeat (first | apply Kd.R_alloc | apply Kd.R_drewN | apply Kd.R_drew)); exact HO402.out) hb)
        have n7_ := Aside0.mk (Kd.C_below (by repeat (first | (with_reducible exact HR369.out) | (with_reducible refine Kd.C_alloc ?_ _) | (with_reducible refine Kd.C_drewN ?_ _) | (with_reducible refine Kd.C_drew ?_) | exact HR369.out)) hb)
        have n8_ := Aside0.mk (Kd.C_below (by repeat (first | (with_reducible exact HR377.out) | (with_reducible refine Kd.C_alloc ?_ _) | (with_reducible refine Kd.C_drewN ?_ _) | (with_reducible refine Kd.C_drew ?_) | exact HR377.out)) hb)
        have n9_ := Aside0.mk (Kd.C_below (by repeat (first | (with_reducible exact HR386.out) | (with_reducible refine Kd.C_alloc ?_ _) | (with_reducible refine Kd.C_drewN ?_ _) | (with_reducible refine Kd.C_drew ?_) | exact HR386.out)) hb)
        have n10_ := Aside0.mk (below_step (by repeat (first | (with_reducible first | exact HB.out | apply below_alloc | apply pw_below_drewN | apply below_drew1) | exact HB.out)) hb)
        clear HO_5
        clear HO373
        clear HO381
        clear HO390
        clear HO394
        clear HO398
        clear HO402
        clear HR369
        clear HR377
        clear HR386
        clear HB
        have HO_5 := n0_
        have HO373 := n1_
        have HO381 := n2_
        have HO390 := n3_
        have HO394 := n4_
        have HO398 := n5_
        have HO402 := n6_
        have HR369 := n7_
        have HR377 := n8_
        have HR386 := n9_
        have HB := n10_
        clear n0_ n1_ n2_ n3_ n4_ n5_ n6_ n7_ n8_ n9_ n10_
        (try clear hb)
        (try clear hb2)
        (try clear hk)
        (try clear hi)
        refine hK.out _ _ trivial (fun hHeld => ?_)
        clear hK K
        refine norm_ (a' := ?_) ?_ ?_
        rotate_left
        · show Act.put _ (some 179) _ = _
          simp only [Act.put, List.setIfInBounds_toArray, List.set_cons_zero, List.set_cons_succ, i64_w, i32_w]
          rfl
        refine pure_ (i := 24) (N := some 180) (v := ?_) (a' := ?_) (tf 25 14) rfl rfl (any_of HT_.out (by kernel_rfl)) (fun _ _ _ h => h) (Or.inl ⟨by rfl, ?_⟩) ?_ ?_
        rotate_left
        · intro w'
          go_simp
          with_reducible rfl
        rotate_left
        · simp only [Act.put, List.setIfInBounds_toArray, List.set_cons_zero, List.set_cons_succ, i64_w, i32_w]
          rfl
        refine pure_ (i := 25) (N := some 181) (v := ?_) (a' := ?_) (tf 26 13) rfl rfl (any_of HT_.out (by kernel_rfl)) (fun _ _ _ h => h) (Or.inl ⟨by rfl, ?_⟩) ?_ ?_
        rotate_left
        · intro w'
          go_simp
          with_reducible rfl
        rotate_left
        · simp only [Act.put, List.setIfInBounds_toArray, List.set_cons_zero, List.set_cons_succ, i64_w, i32_w]
          rfl
        refine one_ (i := 26) (N := some 182) (tf 27 12) rfl rfl (one_of HT_.out (by kernel_rfl)) (by decide) (fun K hK => ?_)
        refine goes_ Tryd.func5 (by kernel_rfl) rfl #[.string (⟨#[58]⟩ : ByteArray)] (by rfl) rfl rfl (by (try simp only [List.map_toArray, List.map_cons, List.map_nil]); first | done | rfl | (simp only [List.length_drop, List.length_take]; rfl)) ?_
        with_reducible refine (chinoiserielaw04_HeadLines.calls k3 (⟨#[58]⟩ : ByteArray) true _ A110.out).mono ?_
        rintro e w152 ⟨rfl, hb⟩
        refine ⟨_, rfl, ?_⟩
        have n0_ := Aside0.mk (Kd.R_below (by (with_reducible repeat (first | apply Kd.R_alloc | apply Kd.R_drewN | apply Kd.R_drew)); exact HO_5.out) hb)
        have n1_ := Aside0.mk (Kd.R_below (by (with_reducible repeat (first | apply Kd.R_alloc | apply Kd.R_drewN | apply Kd.R_drew)); exact HO373.out) hb)
        have n2_ := Aside0.mk (Kd.R_below (by (with_reducible repeat (first | apply Kd.R_alloc | apply Kd.R_drewN | apply Kd.R_drew)); exact HO381.out) hb)
        have n3_ := Aside0.mk (Kd.R_below (by (with_reducible repeat (first | apply Kd.R_alloc | apply Kd.R_drewN | apply Kd.R_drew)); exact HO390.out) hb)
        have n4_ := Aside0.mk (Kd.R_below (by (with_reducible repeat (first | apply Kd.R_alloc | apply Kd.R_drewN | apply Kd.R_drew)); exact HO394.out) hb)
        have n5_ := Aside0.mk (Kd.R_below (by (with_reducible repeat (first | apply Kd.R_alloc | apply Kd.R_drewN | apply Kd.R_drew)); exact HO398.out) hb)
        have n6_ := Aside0.mk (Kd.R_below (by (with_reducible repeat (first | apply Kd.R_alloc | apply Kd.R_drewN | apply Kd.R_drew)); exact HO402.out) hb)
        have n7_ := Aside0.mk (Kd.C_below (by repeat (first | (with_reducible exact HR369.out) | (with_reducible refine Kd.C_alloc ?_ _) | (with_reducible refine Kd.C_drewN ?_ _) | (with_reducible refine Kd.C_drew ?_) | exact HR369.out)) hb)
        have n8_ := Aside0.mk (Kd.C_below (by repeat (first | (with_reducible exact HR377.out) | (with_reducible refine Kd.C_alloc ?_ _) | (with_reducible refine Kd.C_drewN ?_ _) | (with_reducible refine Kd.C_drew ?_) | exact HR377.out)) hb)
        have n9_ := Aside0.mk (Kd.C_below (by repeat (first | (with_reducible exact HR386.out) | (with_reducible refine Kd.C_alloc ?_ _) | (with_reducible refine Kd.C_drewN ?_ _) | (with_reducible refine Kd.C_drew ?_) | exact HR386.out)) hb)
        have n10_ := Aside0.mk (below_step (by repeat (first | (with_reducible first | exact HB.out | apply below_alloc | apply pw_below_drewN | apply below_drew1) | exact HB.out)) hb)
        clear HO_5
        clear HO373
        clear HO381
        clear HO390
        clear HO394
        clear HO398
        clear HO402
        clear HR369
        clear HR377
        clear HR386
        clear HB
        have HO_5 := n0_
        have HO373 := n1_
        have HO381 := n2_
        have HO390 := n3_
        have HO394 := n4_
        have HO398 := n5_
        have HO402 := n6_
        have HR369 := n7_
        have HR377 := n8_
        have HR386 := n9_
        have HB := n10_
        clear n0_ n1_ n2_ n3_ n4_ n5_ n6_ n7_ n8_ n9_ n10_
        (try clear hb)
        (try clear hb2)
        (try clear hk)
        (try clear hi)
        refine hK.out _ _ trivial (fun hHeld => ?_)
        clear hK K
        refine norm_ (a' := ?_) ?_ ?_
        rotate_left
        · show Act.put _ (some 182) _ = _
          simp only [Act.put, List.setIfInBounds_toArray, List.set_cons_zero, List.set_cons_succ, i64_w, i32_w]
          rfl
        refine pure_ (i := 27) (N := some 183) (v := ?_) (a' := ?_) (tf 28 11) rfl rfl (any_of HT_.out (by kernel_rfl)) (fun _ _ _ h => h) (Or.inl ⟨by rfl, ?_⟩) ?_ ?_
        rotate_left
        · intro w'
          go_simp
          with_reducible rfl
        rotate_left
        · simp only [Act.put, List.setIfInBounds_toArray, List.set_cons_zero, List.set_cons_succ, i64_w, i32_w]
          rfl
        refine pure_ (i := 28) (N := some 184) (v := ?_) (a' := ?_) (tf 29 10) rfl rfl (any_of HT_.out (by kernel_rfl)) (fun _ _ _ h => h) (Or.inl ⟨by rfl, ?_⟩) ?_ ?_
        rotate_left
        · intro w'
          go_simp
          with_reducible rfl
        rotate_left
        · simp only [Act.put, List.setIfInBounds_toArray, List.set_cons_zero, List.set_cons_succ, i64_w, i32_w]
          rfl
        refine pure_ (i := 29) (N := some 185) (v := ?_) (a' := ?_) (tf 30 9) rfl rfl (any_of HT_.out (by kernel_rfl)) (fun _ _ _ h => h) (Or.inl ⟨by rfl, ?_⟩) ?_ ?_
        rotate_left
        · intro w'
          go_simp
          with_reducible rfl
        rotate_left
        · simp only [Act.put, List.setIfInBounds_toArray, List.set_cons_zero, List.set_cons_succ, i64_w, i32_w]
          rfl
        refine one_ (i := 30) (N := some 186) (tf 31 8) rfl rfl (one_of HT_.out (by kernel_rfl)) (by decide) (fun K hK => ?_)
        refine goes_ Tryd.func24 (by kernel_rfl) rfl #[.slice Ao122 x5_3.length co122, .string (⟨#[]⟩ : ByteArray)] (by rfl) rfl rfl (by (try simp only [List.map_toArray, List.map_cons, List.map_nil]); first | done | rfl | (simp only [List.length_drop, List.length_take]; rfl)) ?_
        with_reducible refine (head_Strip.calls _ _ x5_3 (⟨#[]⟩ : ByteArray) t409 _ ?side1 ?side2 A112.out).mono ?_
        (case side1 => repeat (first | exact (Kd.R_reads' HO_5.out).2.2 | (with_reducible refine Kd.C_alloc ?_ _) | (with_reducible refine Kd.C_drewN ?_ _) | (with_reducible refine Kd.C_drew ?_)))
        (case side2 => exact (Kd.R_reads' HO_5.out).2.1)
        rintro e w153 ⟨v410, rfl, ho0, hb⟩
        refine ⟨_, rfl, ?_⟩
        have n0_ := Aside0.mk (Kd.R_elder' (by (with_reducible repeat (first | apply Kd.R_alloc | apply Kd.R_drewN | apply Kd.R_drew)); exact HO_5.out) (Kd.R_base ho0) hb)
        have n1_ := Aside0.mk (Kd.R_elder' (by (with_reducible repeat (first | apply Kd.R_alloc | apply Kd.R_drewN | apply Kd.R_drew)); exact HO373.out) (Kd.R_base ho0) hb)
        have n2_ := Aside0.mk (Kd.R_elder' (by (with_reducible repeat (first | apply Kd.R_alloc | apply Kd.R_drewN | apply Kd.R_drew)); exact HO381.out) (Kd.R_base ho0) hb)
        have n3_ := Aside0.mk (Kd.R_elder' (by (with_reducible repeat (first | apply Kd.R_alloc | apply Kd.R_drewN | apply Kd.R_drew)); exact HO390.out) (Kd.R_base ho0) hb)
        have n4_ := Aside0.mk (Kd.R_elder' (by (with_reducible repeat (first | apply Kd.R_alloc | apply Kd.R_drewN | apply Kd.R_drew)); exact HO394.out) (Kd.R_base ho0) hb)
        have n5_ := Aside0.mk (Kd.R_elder' (by (with_reducible repeat (first | apply Kd.R_alloc | apply Kd.R_drewN | apply Kd.R_drew)); exact HO398.out) (Kd.R_base ho0) hb)
        have n6_ := Aside0.mk (Kd.R_elder' (by (with_reducible repeat (first | apply Kd.R_alloc | apply Kd.R_drewN | apply Kd.R_drew)); exact HO402.out) (Kd.R_base ho0) hb)
        have n7_ := Aside0.mk (Kd.R_lower (Kd.R_new' (Kd.R_new' (Kd.R_new' (Kd.R_new' (Kd.R_new' (Kd.R_new' (Kd.R_new' ho0 (Kd.R_lt (by (with_reducible repeat (first | apply Kd.R_alloc | apply Kd.R_drewN | apply Kd.R_drew)); exact HO_5.out))) (Kd.R_lt (by (with_reducible repeat (first | apply Kd.R_alloc | apply Kd.R_drewN | apply Kd.R_drew)); exact HO373.out))) (Kd.R_lt (by (with_reducible repeat (first | apply Kd.R_alloc | apply Kd.R_drewN | apply Kd.R_drew)); exact HO381.out))) (Kd.R_lt (by (with_reducible repeat (first | apply Kd.R_alloc | apply Kd.R_drewN | apply Kd.R_drew)); exact HO390.out))) (Kd.R_lt (by (with_reducible repeat (first | apply Kd.R_alloc | apply Kd.R_drewN | apply Kd.R_drew)); exact HO394.out))) (Kd.R_lt (by (with_reducible repeat (first | apply Kd.R_alloc | apply Kd.R_drewN | apply Kd.R_drew)); exact HO398.out))) (Kd.R_lt (by (with_reducible repeat (first | apply Kd.R_alloc | apply Kd.R_drewN | apply Kd.R_drew)); exact HO402.out))) (below_size (by repeat (first | (with_reducible first | exact HB.out | apply below_alloc | apply pw_below_drewN | apply below_drew1) | exact HB.out))))
        have n8_ := Aside0.mk (Kd.C_below (by repeat (first | (with_reducible exact HR369.out) | (with_reducible refine Kd.C_alloc ?_ _) | (with_reducible refine Kd.C_drewN ?_ _) | (with_reducible refine Kd.C_drew ?_) | exact HR369.out)) hb)
        have n9_ := Aside0.mk (Kd.C_below (by repeat (first | (with_reducible exact HR377.out) | (with_reducible refine Kd.C_alloc ?_ _) | (with_reducible refine Kd.C_drewN ?_ _) | (with_reducible refine Kd.C_drew ?_) | exact HR377.out)) hb)
        have n10_ := Aside0.mk (Kd.C_below (by repeat (first | (with_reducible exact HR386.out) | (with_reducible refine Kd.C_alloc ?_ _) | (with_reducible refine Kd.C_drewN ?_ _) | (with_reducible refine Kd.C_drew ?_) | exact HR386.out)) hb)
        have n11_ := Aside0.mk (below_step (by repeat (first | (with_reducible first | exact HB.out | apply below_alloc | apply pw_below_drewN | apply below_drew1) | exact HB.out)) hb)
        clear HO_5
        clear HO373
        clear HO381
        clear HO390
        clear HO394
        clear HO398
        clear HO402
        clear HR369
        clear HR377
        clear HR386
        clear HB
        have HO_5 := n0_
        have HO373 := n1_
        have HO381 := n2_
        have HO390 := n3_
        have HO394 := n4_
        have HO398 := n5_
        have HO402 := n6_
        have HO411 := n7_
        have HR369 := n8_
        have HR377 := n9_
        have HR386 := n10_
        have HB := n11_
        clear n0_ n1_ n2_ n3_ n4_ n5_ n6_ n7_ n8_ n9_ n10_ n11_
        (try clear hb)
        (try clear hb2)
        (try clear hk)
        (try clear hi)
        (try clear ho0)
        obtain ⟨Ao154, co154, eo154⟩ := Kd.R_slice HO411.out
        (first | subst eo154 | (injection eo154 with f1_ f2_ f3_; have f4_ := f1_.symm; have f5_ := f3_.symm; clear f1_ f2_ f3_; subst f4_; subst f5_))
        refine hK.out _ _ trivial (fun hHeld => ?_)
        clear hK K
        refine norm_ (a' := ?_) ?_ ?_
        rotate_left
        · show Act.put _ (some 186) _ = _
          simp only [Act.put, List.setIfInBounds_toArray, List.set_cons_zero, List.set_cons_succ, i64_w, i32_w]
          rfl
        refine pure_ (i := 31) (N := some 187) (v := ?_) (a' := ?_) (tf 32 7) rfl rfl (any_of HT_.out (by kernel_rfl)) (fun _ _ _ h => h) (Or.inl ⟨by rfl, ?_⟩) ?_ ?_
        rotate_left
        · intro w'
          go_simp
          with_reducible rfl
        rotate_left
        · simp only [Act.put, List.setIfInBounds_toArray, List.set_cons_zero, List.set_cons_succ, i64_w, i32_w]
          rfl
        refine pure_ (i := 32) (N := some 188) (v := ?_) (a' := ?_) (tf 33 6) rfl rfl (any_of HT_.out (by kernel_rfl)) (fun _ _ _ h => h) (Or.inl ⟨by rfl, ?_⟩) ?_ ?_
        rotate_left
        · intro w'
          go_simp
          with_reducible rfl
        rotate_left
        · simp only [Act.put, List.setIfInBounds_toArray, List.set_cons_zero, List.set_cons_succ, i64_w, i32_w]
          rfl
        refine pure_ (i := 33) (N := some 189) (v := ?_) (a' := ?_) (tf 34 5) rfl rfl (any_of HT_.out (by kernel_rfl)) (fun _ _ _ h => h) (Or.inl ⟨by rfl, ?_⟩) ?_ ?_
        rotate_left
        · intro w'
          go_simp
          with_reducible rfl
        rotate_left
        · simp only [Act.put, List.setIfInBounds_toArray, List.set_cons_zero, List.set_cons_succ, i64_w, i32_w]
          rfl
        refine pure_ (i := 34) (N := some 190) (v := ?_) (a' := ?_) (tf 35 4) rfl rfl (any_of HT_.out (by kernel_rfl)) (fun _ _ _ h => h) (Or.inl ⟨by rfl, ?_⟩) ?_ ?_
        rotate_left
        · intro w'
          go_simp
          with_reducible rfl
        rotate_left
        · simp only [Act.put, List.setIfInBounds_toArray, List.set_cons_zero, List.set_cons_succ, i64_w, i32_w]
          rfl
        refine one_ (i := 35) (N := some 191) (tf 36 3) rfl rfl (one_of HT_.out (by kernel_rfl)) (by decide) (fun K hK => ?_)
        refine Kd.R_lit_step k28 _ 28 ?hg (N := 191) ?hd (xs := ([] : List (S28))) (inner := []) (ok := fun _ => True) (okp := fun _ => True) ?hr ?hp (fun _ hk => hk) trivial (Below.refl _ _) (Nat.le_refl _) (by simp) ?_; (case hd => rfl); (case hg => rfl); (case hr => first | (go_simp; done) | (go_simp; rfl)); (case hp => exact (Reps.none _ _))
        intro v413 w155 ho156 hb hg_ hnew_
        clear hg_ hnew_
        (first | rw [← Ny412.out] at ho156 | (simp only [Int.reduceToNat] at ho156; rw [← Ny412.out] at ho156))
        have n0_ := Aside0.mk (Kd.R_elder' (by (with_reducible repeat (first | apply Kd.R_alloc | apply Kd.R_drewN | apply Kd.R_drew)); exact HO_5.out) (Kd.R_base ho156) hb)
        have n1_ := Aside0.mk (Kd.R_elder' (by (with_reducible repeat (first | apply Kd.R_alloc | apply Kd.R_drewN | apply Kd.R_drew)); exact HO373.out) (Kd.R_base ho156) hb)
        have n2_ := Aside0.mk (Kd.R_elder' (by (with_reducible repeat (first | apply Kd.R_alloc | apply Kd.R_drewN | apply Kd.R_drew)); exact HO381.out) (Kd.R_base ho156) hb)
        have n3_ := Aside0.mk (Kd.R_elder' (by (with_reducible repeat (first | apply Kd.R_alloc | apply Kd.R_drewN | apply Kd.R_drew)); exact HO390.out) (Kd.R_base ho156) hb)
        have n4_ := Aside0.mk (Kd.R_elder' (by (with_reducible repeat (first | apply Kd.R_alloc | apply Kd.R_drewN | apply Kd.R_drew)); exact HO394.out) (Kd.R_base ho156) hb)
        have n5_ := Aside0.mk (Kd.R_elder' (by (with_reducible repeat (first | apply Kd.R_alloc | apply Kd.R_drewN | apply Kd.R_drew)); exact HO398.out) (Kd.R_base ho156) hb)
        have n6_ := Aside0.mk (Kd.R_elder' (by (with_reducible repeat (first | apply Kd.R_alloc | apply Kd.R_drewN | apply Kd.R_drew)); exact HO402.out) (Kd.R_base ho156) hb)
        have n7_ := Aside0.mk (Kd.R_elder' (by (with_reducible repeat (first | apply Kd.R_alloc | apply Kd.R_drewN | apply Kd.R_drew)); exact HO411.out) (Kd.R_base ho156) hb)
        have n8_ := Aside0.mk (Kd.R_lower (Kd.R_new' (Kd.R_new' (Kd.R_new' (Kd.R_new' (Kd.R_new' (Kd.R_new' (Kd.R_new' (Kd.R_new' ho156 (Kd.R_lt (by (with_reducible repeat (first | apply Kd.R_alloc | apply Kd.R_drewN | apply Kd.R_drew)); exact HO_5.out))) (Kd.R_lt (by (with_reducible repeat (first | apply Kd.R_alloc | apply Kd.R_drewN | apply Kd.R_drew)); exact HO373.out))) (Kd.R_lt (by (with_reducible repeat (first | apply Kd.R_alloc | apply Kd.R_drewN | apply Kd.R_drew)); exact HO381.out))) (Kd.R_lt (by (with_reducible repeat (first | apply Kd.R_alloc | apply Kd.R_drewN | apply Kd.R_drew)); exact HO390.out))) (Kd.R_lt (by (with_reducible repeat (first | apply Kd.R_alloc | apply Kd.R_drewN | apply Kd.R_drew)); exact HO394.out))) (Kd.R_lt (by (with_reducible repeat (first | apply Kd.R_alloc | apply Kd.R_drewN | apply Kd.R_drew)); exact HO398.out))) (Kd.R_lt (by (with_reducible repeat (first | apply Kd.R_alloc | apply Kd.R_drewN | apply Kd.R_drew)); exact HO402.out))) (Kd.R_lt (by (with_reducible repeat (first | apply Kd.R_alloc | apply Kd.R_drewN | apply Kd.R_drew)); exact HO411.out))) (below_size (by repeat (first | (with_reducible first | exact HB.out | apply below_alloc | apply pw_below_drewN | apply below_drew1) | exact HB.out))))
        have n9_ := Aside0.mk (Kd.C_below (by repeat (first | (with_reducible exact HR369.out) | (with_reducible refine Kd.C_alloc ?_ _) | (with_reducible refine Kd.C_drewN ?_ _) | (with_reducible refine Kd.C_drew ?_) | exact HR369.out)) hb)
        have n10_ := Aside0.mk (Kd.C_below (by repeat (first | (with_reducible exact HR377.out) | (with_reducible refine Kd.C_alloc ?_ _) | (with_reducible refine Kd.C_drewN ?_ _) | (with_reducible refine Kd.C_drew ?_) | exact HR377.out)) hb)
        have n11_ := Aside0.mk (Kd.C_below (by repeat (first | (with_reducible exact HR386.out) | (with_reducible refine Kd.C_alloc ?_ _) | (with_reducible refine Kd.C_drewN ?_ _) | (with_reducible refine Kd.C_drew ?_) | exact HR386.out)) hb)
        have n12_ := Aside0.mk (below_step (by repeat (first | (with_reducible first | exact HB.out | apply below_alloc | apply pw_below_drewN | apply below_drew1) | exact HB.out)) hb)
        clear HO_5
        clear HO373
        clear HO381
        clear HO390
        clear HO394
        clear HO398
        clear HO402
        clear HO411
        clear HR369
        clear HR377
        clear HR386
        clear HB
        have HO_5 := n0_
        have HO373 := n1_
        have HO381 := n2_
        have HO390 := n3_
        have HO394 := n4_
        have HO398 := n5_
        have HO402 := n6_
        have HO411 := n7_
        have HO414 := n8_
        have HR369 := n9_
        have HR377 := n10_
        have HR386 := n11_
        have HB := n12_
        clear n0_ n1_ n2_ n3_ n4_ n5_ n6_ n7_ n8_ n9_ n10_ n11_ n12_
        clear hb ho156
        obtain ⟨Ao157, co157, eo157⟩ := Kd.R_slice HO414.out
        (first | subst eo157 | (injection eo157 with f1_ f2_ f3_; have f4_ := f1_.symm; have f5_ := f3_.symm; clear f1_ f2_ f3_; subst f4_; subst f5_))
        refine hK.out _ _ trivial (fun hHeld => ?_)
        clear hK K
        refine norm_ (a' := ?_) ?_ ?_
        rotate_left
        · show Act.put _ (some 191) _ = _
          simp only [Act.put, List.setIfInBounds_toArray, List.set_cons_zero, List.set_cons_succ, i64_w, i32_w]
          rfl
        refine one_ (i := 36) (N := some 192) (tf 37 2) rfl rfl (one_of HT_.out (by kernel_rfl)) (by decide) (fun K hK => ?_)
        refine goes_ Tryd.func20 (by kernel_rfl) rfl #[.slice none 0 0, .slice Ao157 y412.length co157] (by rfl) rfl rfl (by (try simp only [List.map_toArray, List.map_cons, List.map_nil]); first | done | rfl | (simp only [List.length_drop, List.length_take]; rfl)) ?_
        refine (head_Same.calls k3 _ _ ([] : List (S28)) _ _ y412 true _ ?side1 ?side2 ?side3 ?side4 A114.out).mono ?_
        (case side1 => exact Kd.C_nil _ _)
        (case side2 => exact Nat.le_refl _)
        (case side3 => repeat (first | exact (Kd.R_reads' HO414.out).2.2 | (with_reducible refine Kd.C_alloc ?_ _) | (with_reducible refine Kd.C_drewN ?_ _) | (with_reducible refine Kd.C_drew ?_)))
        (case side4 => exact (Kd.R_reads' HO414.out).2.1)
        rintro e w' ⟨rfl, ⟨nd, rfl⟩⟩
        refine ⟨_, rfl, ?_⟩
        refine hK.out _ _ trivial (fun hHeld => ?_)
        clear hK K
        refine norm_ (a' := ?_) ?_ ?_
        rotate_left
        · show Act.put _ (some 192) _ = _
          simp only [Act.put, List.setIfInBounds_toArray, List.set_cons_zero, List.set_cons_succ, i64_w, i32_w]
          rfl
        refine pure_ (i := 37) (N := some 193) (v := ?_) (a' := ?_) (tf 38 1) rfl rfl (any_of HT_.out (by kernel_rfl)) (fun _ _ _ h => h) (Or.inl ⟨by rfl, ?_⟩) ?_ ?_
        rotate_left
        · intro w'
          go_simp
          with_reducible rfl
        rotate_left
        · simp only [Act.put, List.setIfInBounds_toArray, List.set_cons_zero, List.set_cons_succ, i64_w, i32_w]
          rfl
        refine pure_ (i := 38) (N := some 12) (v := ?_) (a' := ?_) (tf 39 0) rfl rfl (any_of HT_.out (by kernel_rfl)) (fun _ _ _ h => h) (Or.inl ⟨by rfl, ?_⟩) ?_ ?_
        rotate_left
        · intro w'
          go_simp
          with_reducible rfl
        rotate_left
        · simp only [Act.put, List.setIfInBounds_toArray, List.set_cons_zero, List.set_cons_succ, i64_w, i32_w]
          rfl
        refine done_ (done_of HT_.out (by kernel_rfl)) ?_
        clear HO_5 HO373 HO381 HO390 HO394 HO398 HO402 HO411 HO414 HR369 HR377 HR386
        go_wp2_with (first | (go_at_call 28; (with_reducible refine (chinoiserielaw04_works.calls k3  true _ A115.out).mono ?_); rintro e w158 ⟨rfl, hb⟩; have n12_ := Aside0.mk (below_step (by repeat (first | (with_reducible first | exact HB.out | apply below_alloc | apply pw_below_drewN | apply below_drew1) | exact HB.out)) hb); clear HB; have HB := n12_; clear n12_; (try clear hb); (try clear hb2); (try clear hk); (try clear hi)) | (go_at_call 18; (with_reducible refine (head_Lower.calls (⟨#[65, 90, 97, 122, 48, 57, 91]⟩ : ByteArray) t417 _ A119.out).mono ?_); rintro e w159 ⟨rfl, hb⟩; have n12_ := Aside0.mk (below_step (by repeat (first | (with_reducible first | exact HB.out | apply below_alloc | apply pw_below_drewN | apply below_drew1) | exact HB.out)) hb); clear HB; have HB := n12_; clear n12_; (try clear hb); (try clear hb2); (try clear hk); (try clear hi)) | ((with_reducible refine gate_dst (N := 205) rfl ?_); (try (refine gate_guard (by rfl) ?_; dsimp only)); refine Kd.R_lit Kd.string _ 9 ?hg (N := 205) ?hd (xs := ([t417] : List ByteArray)) (inner := [.string t417]) (ok := fun _ => True) (okp := fun _ => True) ?hr ?hp (fun _ hk => hk) trivial (Below.refl _ _) (Nat.le_refl _) (by simp) ?_; (case hd => rfl); (case hg => rfl); (case hr => first | (go_simp; done) | (go_simp; rfl)); (case hp => exact (Reps.one (show Kd.M Kd.string _ _ _ t417 [.string t417] from rfl) (Reps.none _ _))); intro v419 w160 ho161 hb hg_ hnew_; clear hg_ hnew_; (first | rw [← Ny418.out] at ho161 | (simp only [Int.reduceToNat] at ho161; rw [← Ny418.out] at ho161)); have n9_ := Aside0.mk (Kd.R_lower ho161 (below_size (by repeat (first | (with_reducible first | exact HB.out | apply below_alloc | apply pw_below_drewN | apply below_drew1) | exact HB.out)))); have n13_ := Aside0.mk (below_step (by repeat (first | (with_reducible first | exact HB.out | apply below_alloc | apply pw_below_drewN | apply below_drew1) | exact HB.out)) hb); clear HB; have HO420 := n9_; have HB := n13_; clear n9_ n13_; clear hb ho161) | ((with_reducible refine gate_dst (N := 206) rfl ?_); (try (refine gate_guard (by rfl) ?_; dsimp only)); refine Kd.R_lit Kd.string _ 9 ?hg (N := 206) ?hd (xs := ([(⟨#[97, 122, 97, 122, 48, 57, 91]⟩ : ByteArray)] : List ByteArray)) (inner := [.string (⟨#[97, 122, 97, 122, 48, 57, 91]⟩ : ByteArray)]) (ok := fun _ => True) (okp := fun _ => True) ?hr ?hp (fun _ hk => hk) trivial (Below.refl _ _) (Nat.le_refl _) (by simp) ?_; (case hd => rfl); (case hg => rfl); (case hr => first | (go_simp; done) | (go_simp; rfl)); (case hp => exact (Reps.one (show Kd.M Kd.string _ _ _ (⟨#[97, 122, 97, 122, 48, 57, 91]⟩ : ByteArray) [.string (⟨#[97, 122, 97, 122, 48, 57, 91]⟩ : ByteArray)] from rfl) (Reps.none _ _))); intro v422 w162 ho163 hb hg_ hnew_; clear hg_ hnew_; (first | rw [← Ny421.out] at ho163 | (simp only [Int.reduceToNat] at ho163; rw [← Ny421.out] at ho163)); have n9_ := Aside0.mk (Kd.R_elder' (by (with_reducible repeat (first | apply Kd.R_alloc | apply Kd.R_drewN | apply Kd.R_drew)); exact HO420.out) (Kd.R_base ho163) hb); have n10_ := Aside0.mk (Kd.R_lower (Kd.R_new' ho163 (Kd.R_lt (by (with_reducible repeat (first | apply Kd.R_alloc | apply Kd.R_drewN | apply Kd.R_drew)); exact HO420.out))) (below_size (by repeat (first | (with_reducible first | exact HB.out | apply below_alloc | apply pw_below_drewN | apply below_drew1) | exact HB.out)))); have n14_ := Aside0.mk (below_step (by repeat (first | (with_reducible first | exact HB.out | apply below_alloc | apply pw_below_drewN | apply below_drew1) | exact HB.out)) hb); clear HO420; clear HB; have HO420 := n9_; have HO423 := n10_; have HB := n14_; clear n9_ n10_ n14_; clear hb ho163; obtain ⟨Ao164, co164, eo164⟩ := Kd.R_slice HO420.out; subst eo164; obtain ⟨Ao165, co165, eo165⟩ := Kd.R_slice HO423.out; subst eo165) | (go_at_call 39; (with_reducible refine (chinoiserieref00_EqTexts.calls k3 _ _ y418 _ _ y421 t424 _ ?side1 ?side2 ?side3 ?side4 A120.out).mono ?_); (case side1 => repeat (first | exact (Kd.R_reads' HO420.out).2.2 | (with_reducible refine Kd.C_alloc ?_ _) | (with_reducible refine Kd.C_drewN ?_ _) | (with_reducible refine Kd.C_drew ?_))); (case side2 => exact (Kd.R_reads' HO420.out).2.1); (case side3 => repeat (first | exact (Kd.R_reads' HO423.out).2.2 | (with_reducible refine Kd.C_alloc ?_ _) | (with_reducible refine Kd.C_drewN ?_ _) | (with_reducible refine Kd.C_drew ?_))); (case side4 => exact (Kd.R_reads' HO423.out).2.1); rintro e w' ⟨rfl, ⟨nd, rfl⟩⟩))
        go_ret
        exact ⟨by first | rfl | (simp [errW_none, errW_some] <;> rfl) | (simp [*, errW_none, errW_some] <;> rfl), by repeat (first | (with_reducible first | exact HB.out | apply below_alloc | apply pw_below_drewN | apply below_drew1) | exact HB.out)⟩

end Go.Proofs.YtbdafijdfpmdiaaDoor.PHead
