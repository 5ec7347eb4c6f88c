/- Plain laws: what is set, how heads are written, and the chapter's examples. -/
import Derived.Test.YtbdafijdfpmdiaaDoorPureB
import Derived.Test.YtbdafijdfpmdiaaDoorPureL
import Derived.Test.YtbdafijdfpmdiaaDoorExtG
import Derived.Test.YtbdafijdfpmdiaaDoorExtH
import Derived.Test.YtbdafijdfpmdiaaDoorExtI
import Derived.Test.YtbdafijdfpmdiaaDoorPHeadx9
set_option linter.unusedVariables false
set_option linter.unusedSimpArgs false
namespace Go.Proofs.YtbdafijdfpmdiaaDoor.PHead
open Go.RowKit Go.Proofs.YtbdafijdfpmdiaaDoorW.PrintWords Go.Proofs.YtbdafijdfpmdiaaDoorW.PrintLast Go.Proofs.YtbdafijdfpmdiaaDoorW.PrintMore

/-- What is set. -/
def setR (l : List S28) (a v : ByteArray) : List S28 × Int :=
  if isNam a = true ∧ isVal v = true then (if (dropR l a ++ [(⟨a, v⟩ : S28)]).length > 16 then ([], 5) else (dropR l a ++ [⟨a, v⟩], 0)) else ([], 40)
theorem may2_f (a v : ByteArray) : head_may.f a v = some (isNam a && isVal v) := may_f ⟨a, v⟩
theorem set_f (l : List S28) (hl : okL l) (a v : ByteArray) : head_Set.f l a v = some (setR l a v) := by
  unfold head_Set.f setR
  rw [may2_f, Option.bind_some]
  by_cases h : isNam a = true ∧ isVal v = true
  · rw [if_pos (by simp [h.1, h.2]), if_pos h, drop_f l hl a, Option.bind_some, Option.bind_some, if_pos (by
      have := (hl.filter fun h => !alk h.f0 a).1
      unfold dropR
      simp only [List.length_cons, List.length_nil]
      omega), Option.bind_some]
    by_cases g : (dropR l a ++ [(⟨a, v⟩ : S28)]).length > 16
    · rw [if_pos (by omega), if_pos g]
    · rw [if_neg (by omega), if_neg g]
  · rw [if_neg h, if_neg (fun e => h (by simpa using e))]
theorem refSet_ev (l : List S28) (hl : okL l) (a v : ByteArray) (ha : a.size ≤ 140737488351232) (hv : v.size ≤ 140737488351232) : Ev (fun k => chinoiserieref04_Set.f k l a v) (setR l a v) := by
  have h40 : Ev (fun k => chinoiserieref04_Set.j0 k l a v true) ([], 40) := Ev.step (fun k => by rw [chinoiserieref04_Set.j0, if_pos rfl]) (Ev.now _)
  unfold chinoiserieref04_Set.f setR
  refine Ev.bind (refIsName_ev a ha) ?_
  by_cases h1 : isNam a = true
  · simp only [h1, if_true, true_and]
    refine Ev.bind (refIsValue_ev v hv) ?_
    by_cases h2 : isVal v = true
    · simp only [h2, if_true, Bool.not_true]
      refine Ev.step (f := fun k => (chinoiserieref04_Drop.f k l a).bind fun t295 => (if t295.length < 4398046511104 then ((some (t295 ++ [(⟨a, v⟩ : S28)] : List (S28))).bind fun y298 => (if (y298.length : Int) > 16 then (some (([] : List (S28)), (5 : Int))) else (some (y298, 0)))) else (none))) (fun k => ?_) ?_
      · rw [chinoiserieref04_Set.j0, if_neg (by simp)]
      · refine Ev.bind (refDrop_ev l hl a ha) ?_
        have hd := (hl.filter fun h => !alk h.f0 a).1
        refine Ev.congr (f := fun k => some _) (fun k => ?_) (Ev.now _)
        rw [if_pos (by unfold dropR; omega), Option.bind_some]
        by_cases g : (dropR l a ++ [(⟨a, v⟩ : S28)]).length > 16
        · rw [if_pos (by omega), if_pos g]
        · rw [if_neg (by omega), if_neg g]
    · simp only [show isVal v = false by simpa using h2, Bool.not_false]
      simpa using h40
  · simp only [show isNam a = false by simpa using h1]
    simpa using h40

/-- How heads are written. -/
def bytesR (l : List S28) : List Int × Int := if checkR l = 0 then (numsB (linesB l), 0) else ([], checkR l)
theorem check_zero {l : List S28} (h : checkR l = 0) : l.length ≤ 16 := by
  unfold checkR at h
  by_cases g : l.length > 16
  · rw [if_pos g] at h; exact absurd h (by decide)
  · omega
theorem refBytes_ev (l : List S28) (hl : okL l) : Ev (fun k => chinoiserieref04_Bytes.f k l) (bytesR l) := by
  unfold chinoiserieref04_Bytes.f bytesR
  refine Ev.bind (refCheck_ev l hl) ?_
  by_cases h : checkR l = 0
  · simp only [h, if_true]
    rw [if_pos (⟨check_zero h, hl.2⟩ : _ ∧ _)]
    exact Ev.now _
  · simp only [h, if_false]
    exact Ev.now _
theorem bytesOf_nums (s : ByteArray) : bytesOf s = numsB s.data.toList := rfl
theorem line_data (h : S28) : (((h.f0 ++ (⟨#[58, 32]⟩ : ByteArray)) ++ h.f1) ++ (⟨#[13, 10]⟩ : ByteArray)).data.toList = lineB h := by
  simp [ByteArray.data_append, lineB]
theorem bytes_ev (l : List S28) (hl : okL l) : ∀ (n i : Nat) (acc : List UInt8), i + n = l.length → acc.length ≤ i * 2004 →
    Ev (fun k => head_Bytes.l0 k (numsB acc) l (l.length : Int) i) (numsB (acc ++ linesB (l.drop i)), 0) := by
  have h0 := hl.1
  intro n
  induction n with
  | zero =>
    intro i acc hi hc
    rw [List.drop_eq_nil_of_le (by omega)]
    refine Ev.step (fun k => ?_) (Ev.now _)
    rw [head_Bytes.l0, if_neg (by omega)]
    simp [linesB]
  | succ n ih =>
    intro i acc hi hc
    have hlt : i < l.length := by omega
    obtain ⟨z0, z1⟩ := hl.at_ i hlt
    have hlen : (lineB l[i]).length = (l[i]).f0.size + (l[i]).f1.size + 4 := by
      unfold lineB
      simp only [List.length_append, data_length, List.length_cons, List.length_nil]
      omega
    have hh := ih (i + 1) (acc ++ lineB l[i]) (by omega) (by rw [List.length_append, hlen]; omega)
    rw [List.drop_eq_getElem_cons hlt]
    rw [List.append_assoc] at hh
    refine Ev.step (fun k => ?_) hh
    have e1 : ((l[i]).f0 ++ (⟨#[58, 32]⟩ : ByteArray)).size = (l[i]).f0.size + 2 := by rw [ByteArray.size_append]; rfl
    have e2 : (((l[i]).f0 ++ (⟨#[58, 32]⟩ : ByteArray)) ++ (l[i]).f1).size = (l[i]).f0.size + 2 + (l[i]).f1.size := by rw [ByteArray.size_append, e1]
    have e3 : ((((l[i]).f0 ++ (⟨#[58, 32]⟩ : ByteArray)) ++ (l[i]).f1) ++ (⟨#[13, 10]⟩ : ByteArray)).size = (l[i]).f0.size + 2 + (l[i]).f1.size + 2 := by rw [ByteArray.size_append, e2]; rfl
    rw [head_Bytes.l0, if_pos (by omega), if_pos (by omega), if_pos (by omega), rd_nat l i hlt, if_pos (by omega), if_pos (by omega), if_pos (by omega), if_pos (by rw [numsB_length]; omega), up1 i (by omega), bytesOf_nums, line_data]
    rw [show numsB acc ++ numsB (lineB l[i]) = numsB (acc ++ lineB l[i]) by simp [numsB]]
theorem headBytes_ev (l : List S28) (hl : okL l) : Ev (fun k => head_Bytes.f k l) (bytesR l) := by
  unfold head_Bytes.f bytesR
  rw [check_f l]
  by_cases h : checkR l = 0
  · simp only [h, if_true, Option.bind_some]
    have := bytes_ev l hl l.length 0 [] (by omega) (by simp)
    simpa [numsB] using this
  · simp only [h, if_false, Option.bind_some]
    exact Ev.now _

def exL : List S28 := [⟨⟨#[65]⟩, ⟨#[49]⟩⟩, ⟨⟨#[98]⟩, ⟨#[50]⟩⟩, ⟨⟨#[97]⟩, ⟨#[51]⟩⟩]
theorem exL_ok : okL exL := ⟨by decide, by decide⟩
theorem sameL_of {a b : List S28} (h : a = b) : sameL a b = true := by rw [h]; exact sameL_refl b
theorem low_f (s : ByteArray) (h : s.size ≤ 140737488351232) : head_Lower.f s = some (lowS s) := by unfold head_Lower.f; rw [if_pos h]

set_option maxRecDepth 100000 in
theorem works_ev : Ev (fun k => chinoiserielaw04_works.f k) true := by
  have a1 : head_Alike.f ⟨#[88, 45, 67, 116, 120]⟩ ⟨#[120, 45, 99, 116, 120]⟩ = some true := by rw [alike_f]; decide
  have a2 : head_Alike.f ⟨#[97, 32, 98]⟩ ⟨#[97, 32, 98]⟩ = some false := by rw [alike_f]; decide
  have a3 : head_Lower.f ⟨#[88, 45, 67, 116, 120]⟩ = some (⟨#[120, 45, 99, 116, 120]⟩) := by rw [low_f _ (by decide)]; rfl
  have ln : ∀ s n v : ByteArray, s.size ≤ 400 → lineR s = (n, v, 0) → chinoiserielaw04_line.f s n v = some true := by
    intro s n v hs h
    unfold chinoiserielaw04_line.f
    rw [line_f s (by omega), h, Option.bind_some, if_pos rfl, if_pos rfl]
    simp
  have wr : ∀ s : ByteArray, s.size ≤ 400 → lineR s = (⟨#[]⟩, ⟨#[]⟩, 40) → chinoiserielaw04_wrong.f s = some true := by
    intro s hs h
    unfold chinoiserielaw04_wrong.f
    rw [line_f s (by omega), h, Option.bind_some, if_pos rfl, toList_eq]
    rfl
  have l1 := ln ⟨#[65, 58, 32, 49]⟩ ⟨#[65]⟩ ⟨#[49]⟩ (by decide) (by rfl)
  have l2 := ln ⟨#[65, 58, 9, 49, 32]⟩ ⟨#[65]⟩ ⟨#[49]⟩ (by decide) (by rfl)
  have w1 := wr ⟨#[65, 32, 58, 32, 49]⟩ (by decide) (by rfl)
  have w2 := wr ⟨#[58, 32, 49]⟩ (by decide) (by rfl)
  have w3 := wr ⟨#[65]⟩ (by decide) (by rfl)
  have g1 : head_Get.f exL ⟨#[65]⟩ = some (⟨#[49]⟩, 2) := by rw [get_f exL exL_ok]; rfl
  have g2 : head_Set.f exL ⟨#[97]⟩ ⟨#[52]⟩ = some ([⟨⟨#[98]⟩, ⟨#[50]⟩⟩, ⟨⟨#[97]⟩, ⟨#[52]⟩⟩], 0) := by rw [set_f exL exL_ok]; rfl
  have g3 : head_Drop.f exL ⟨#[66]⟩ = some [⟨⟨#[65]⟩, ⟨#[49]⟩⟩, ⟨⟨#[97]⟩, ⟨#[51]⟩⟩] := by rw [drop_f exL exL_ok]; rfl
  have g4 : head_Strip.f exL ⟨#[65]⟩ = some [⟨⟨#[98]⟩, ⟨#[50]⟩⟩] := by rw [strip_f exL exL_ok _ (by decide)]; rfl
  have t1 : ((⟨#[49]⟩ : ByteArray).toList = ([49] : List UInt8)) = True := by rw [toList_eq]; exact eq_true rfl
  have t2 : ((⟨#[120, 45, 99, 116, 120]⟩ : ByteArray).toList = ([120, 45, 99, 116, 120] : List UInt8)) = True := by rw [toList_eq]; exact eq_true rfl
  unfold chinoiserielaw04_works.f
  rw [show ([⟨⟨#[65]⟩, ⟨#[49]⟩⟩, ⟨⟨#[98]⟩, ⟨#[50]⟩⟩, ⟨⟨#[97]⟩, ⟨#[51]⟩⟩] : List S28) = exL from rfl]
  rw [a1, a2, a3, l1, l2, w1, w2, w3]
  simp only [Option.bind_some, if_true, Bool.false_eq_true, if_false, g1, g2, g3, g4, t1, t2]
  refine Ev.bind (headSame_ev _ _ (by decide)) ?_
  rw [sameL_refl]
  have p0 : (0 < (exL.length : Int)) = True := eq_true (by decide)
  have p1 : (1 < (exL.length : Int)) = True := eq_true (by decide)
  have p2 : (2 < (exL.length : Int)) = True := eq_true (by decide)
  simp only [if_true, p0, p1, p2]
  refine Ev.bind (headSame_ev _ _ (by decide)) ?_
  rw [sameL_of (by rfl)]
  simp only [if_true]
  refine Ev.bind (headSame_ev _ _ (by decide)) ?_
  rw [sameL_of (by rfl)]
  refine Ev.bind (headBytes_ev _ ⟨by decide, by decide⟩) ?_
  simp only [if_true]
  refine Ev.congr (f := fun k => some true) (fun k => ?_) (Ev.now _)
  rw [if_pos (by rfl), toList_eq]
  rfl
end Go.Proofs.YtbdafijdfpmdiaaDoor.PHead
