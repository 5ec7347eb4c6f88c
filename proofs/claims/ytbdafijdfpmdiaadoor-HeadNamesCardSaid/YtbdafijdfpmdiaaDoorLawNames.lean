/- Plain laws: what is found and set (as HeadFinds and HeadSets say, printed on their true way); each byte in a name and in a value; both ends. -/
import Derived.Test.YtbdafijdfpmdiaaDoorPureC
import Derived.Test.YtbdafijdfpmdiaaDoorPHeadx11
set_option linter.unusedVariables false
set_option linter.unusedSimpArgs false
namespace Go.Proofs.YtbdafijdfpmdiaaDoor.PHead
open Go.RowKit Go.Proofs.YtbdafijdfpmdiaaDoorW.PrintWords Go.Proofs.YtbdafijdfpmdiaaDoorW.PrintLast Go.Proofs.YtbdafijdfpmdiaaDoorW.PrintMore

theorem mn_nat (a : ByteArray) (b : Nat) : mn (a.size : Int) b = ((min a.size b : Nat) : Int) := by
  unfold mn
  by_cases h : (b : Int) < (a.size : Int)
  · rw [if_pos h]; omega
  · rw [if_neg h]; omega
theorem lines_ev (a : ByteArray) : Ev (fun k => chinoiserielaw04_HeadLines.f k a) true := by
  have e : mn (a.size : Int) 400 = ((min a.size 400 : Nat) : Int) := mn_nat a 400
  have hz : (a.extract 0 (min a.size 400)).size ≤ 400 := by rw [ByteArray.size_extract]; omega
  have c1 : (0 ≤ ((min a.size 400 : Nat) : Int)) = True := eq_true (by omega)
  have c2 : (((min a.size 400 : Nat) : Int) ≤ (a.size : Int)) = True := eq_true (by omega)
  unfold chinoiserielaw04_HeadLines.f
  rw [e]
  simp only [c1, c2, if_true, Int.toNat_natCast]
  rw [line_f _ (by omega)]
  simp only [Option.bind_some]
  refine Ev.bind (refLine_ev _ hz) ?_
  simp only [beq_self_eq_true, Bool.and_true, if_true]
  exact Ev.bind works_ev (Ev.now _)
theorem ok_len {l : List S28} (h : okL l) : l.length ≤ 9223372036854775806 := by have := h.1; omega
theorem same_self (l : List S28) (h : okL l) : Ev (fun k => chinoiserieref04_Same.f k l l) true := by
  have := refSame_ev l l (ok_len h)
  rwa [sameL_refl] at this
theorem finds_j0 (l m : List S28) (hl : okL l) (n : ByteArray) (hn : n.size ≤ 140737488351232) (v : ByteArray) (c : Int) (q : ByteArray) (hq : q.size ≤ 140737488351232) :
    Ev (fun k => chinoiserielaw04_HeadFinds.j0 k l m n v c v c q) true := by
  obtain ⟨y, hy⟩ := spoilt_ev l hl
  have hd := hl.filter fun h => !alk h.f0 n
  obtain ⟨z, hz⟩ := spoilt_ev (dropR l n) hd
  refine Ev.step (f := fun k => (chinoiserieref04_Check.f k l).bind fun t256 => (if checkR l = t256 then ((chinoiserieref04_Alike.f k n q).bind fun t258 => (if (alk n q != t258) = true then (none) else ((chinoiserieref04_Lower.f k n).bind fun t260 => (if (lowS n).toList = t260.toList then ((head_Same.f k l m).bind fun t261 => ((chinoiserieref04_Same.f k l m).bind fun t262 => (if (t261 != t262) = true then (some false) else ((chinoiserielaw04_spoilt.f k l).bind fun bt272 => ((chinoiserieref04_Drop.f k l n).bind fun t276 => ((chinoiserieref04_Same.f k (dropR l n) t276).bind fun t279 => (if t279 = true then ((chinoiserieref04_Strip.f k l n).bind fun t280 => ((chinoiserieref04_Same.f k (stripR l n) t280).bind fun t283 => (if t283 = true then ((chinoiserielaw04_spoilt.f k (dropR l n)).bind fun bt284 => ((chinoiserieref04_Strip.f k l n).bind fun t288 => ((chinoiserieref04_Same.f k (stripR l n) t288).bind fun t291 => (if t291 = true then ((chinoiserielaw04_works.f k).bind fun t292 => (some t292)) else (none))))) else (some false)))) else (none)))))))) else (none))))) else (none))) (fun k => ?_) ?_
  · rw [chinoiserielaw04_HeadFinds.j0, if_pos rfl, if_pos rfl, check_f, Option.bind_some, alike_f, low_f n hn, copy_f l hl, Option.bind_some, Option.bind_some, Option.bind_some, drop_f l hl, Option.bind_some, strip_f l hl n hn, Option.bind_some]
  · refine Ev.bind (refCheck_ev l hl) ?_
    simp only [if_true]
    refine Ev.bind (refAlike_ev n q hn hq) ?_
    simp only [bne_self_eq_false, Bool.false_eq_true, if_false]
    refine Ev.bind (refLower_ev n hn) ?_
    simp only [if_true]
    refine Ev.bind (headSame_ev l m (ok_len hl)) (Ev.bind (refSame_ev l m (ok_len hl)) ?_)
    simp only [bne_self_eq_false, Bool.false_eq_true, if_false]
    refine Ev.bind hy (Ev.bind (refDrop_ev l hl n hn) (Ev.bind (same_self _ (hl.filter _)) ?_))
    simp only [if_true]
    refine Ev.bind (refStrip_ev l hl n hn) (Ev.bind (same_self _ (hl.filter _)) ?_)
    simp only [if_true]
    refine Ev.bind hz (Ev.bind (refStrip_ev l hl n hn) (Ev.bind (same_self _ (hl.filter _)) ?_))
    simp only [if_true]
    exact Ev.bind works_ev (Ev.now _)
theorem finds_ev (l m : List S28) (n : ByteArray) : Ev (fun k => chinoiserielaw04_HeadFinds.f k l m n) true := by
  have hl := cutL_ok l
  have hm := cutL_ok m
  have hn : (shortB n).size ≤ 140737488351232 := by have := shortB_size n; omega
  unfold chinoiserielaw04_HeadFinds.f
  refine Ev.bind (cutF_ev l) (Ev.bind (cutF_ev m) ?_)
  rw [short_f]
  simp only [Option.bind_some, get_f _ hl]
  refine Ev.bind (refGet_ev _ hl _ hn) ?_
  by_cases h : ((cutL m).length : Int) > 0
  · have h' : (0 : Int) < ((cutL m).length : Int) := h
    simp only [h, h', if_true]
    refine finds_j0 _ _ hl _ hn _ _ _ ?_
    have := rd_nat (cutL m) 0 (by omega)
    have e : rd_T28 (cutL m) 0 = (cutL m)[0]'(by omega) := this
    rw [e]
    have := (hm.at_ 0 (by omega)).1
    omega
  · simp only [h, if_false]
    exact finds_j0 _ _ hl _ hn _ _ _ (by decide)
theorem sets_ev (l : List S28) (a v : ByteArray) : Ev (fun k => chinoiserielaw04_HeadSets.f k l a v) true := by
  have hl := cutL_ok l
  have ha : (shortB a).size ≤ 140737488351232 := by have := shortB_size a; omega
  have hv : (shortB v).size ≤ 140737488351232 := by have := shortB_size v; omega
  obtain ⟨y, hy⟩ := spoilt_ev _ hl
  have hset : okL (setR (cutL l) (shortB a) (shortB v)).1 := by
    unfold setR
    split
    · split
      · exact ⟨by simp, by simp⟩
      · refine ⟨?_, ?_⟩
        · have := (hl.filter fun h => !alk h.f0 (shortB a)).1
          have e := cutL_len l
          have e2 := List.length_filter_le (fun h => !alk h.f0 (shortB a)) (cutL l)
          simp only [dropR, List.length_append, List.length_cons, List.length_nil]
          omega
        · intro h hh
          rcases List.mem_append.mp hh with h1 | h1
          · exact (hl.filter _).2 h h1
          · rw [List.mem_singleton.mp h1]
            have g1 := shortB_size a
            have g2 := shortB_size v
            exact ⟨by show (shortB a).size ≤ 1000; omega, by show (shortB v).size ≤ 1000; omega⟩
    · exact ⟨by simp, by simp⟩
  unfold chinoiserielaw04_HeadSets.f
  refine Ev.bind (cutF_ev l) ?_
  rw [short_f, short_f]
  simp only [Option.bind_some, copy_f _ hl, set_f _ hl]
  refine Ev.bind (refSet_ev _ hl _ _ ha hv) (Ev.bind (headBytes_ev _ hl) (Ev.bind (refBytes_ev _ hl) (Ev.bind hy (Ev.bind (same_self _ hset) ?_))))
  simp only [if_true, chinoiserieref00_EqBytes.f, beq_self_eq_true, Option.bind_some]
  refine Ev.bind (same_self _ hl) ?_
  simp only [if_true]
  exact Ev.bind works_ev (Ev.now _)

/-- 250 letters; and heads out of them. -/
def longA : ByteArray := ⟨(List.replicate 250 97).toArray⟩
def hN (i : Nat) : S28 := ⟨(⟨#[110]⟩ : ByteArray) ++ longA.extract 0 i, longA.extract 0 (i * 12)⟩
def headsN : List S28 := (List.range 17).map hN
theorem longA_size : longA.size = 250 := by decide +kernel
theorem hN_size (i : Nat) (h : i ≤ 17) : (hN i).f0.size ≤ 1000 ∧ (hN i).f1.size ≤ 1000 := by
  have e1 : (⟨#[110]⟩ : ByteArray).size = 1 := rfl
  have e := longA_size
  unfold hN
  simp only [ByteArray.size_append, ByteArray.size_extract, e1]
  omega
theorem headsN_ok : okL headsN := by
  refine ⟨by decide, fun h hh => ?_⟩
  unfold headsN at hh
  obtain ⟨i, hi, rfl⟩ := List.mem_map.mp hh
  exact hN_size i (by have := List.mem_range.mp hi; omega)
theorem headsN_take : okL (headsN.take 16) := ⟨by decide, fun h hh => headsN_ok.2 h (List.mem_of_mem_take hh)⟩
set_option maxRecDepth 100000 in
theorem texts_ev (a : ByteArray) : Ev (fun k => chinoiserieref00_EqTexts.f k [a] [a]) true := by
  unfold chinoiserieref00_EqTexts.f
  refine Ev.congr (f := fun k => chinoiserieref00_EqTexts.l0 k [a] [a] ((0 : Nat) : Int)) (fun k => by rw [if_pos rfl]; rfl) ?_
  refine Ev.step (f := fun k => chinoiserieref00_EqTexts.l0 k [a] [a] ((1 : Nat) : Int)) (fun k => ?_) (Ev.step (fun k => ?_) (Ev.now _))
  · rw [chinoiserieref00_EqTexts.l0]
    simp [rdOf, wrap64]
  · rw [chinoiserieref00_EqTexts.l0]
    simp
set_option maxHeartbeats 8000000 in
set_option maxRecDepth 100000 in
theorem names2_ev : ∀ (n i : Nat), i + n = 17 → Ev (fun k => chinoiserielaw04_HeadNames.l2 k longA ((List.range i).map hN) (i : Int)) true := by
  intro n
  induction n with
  | zero =>
    intro i hi
    obtain rfl : i = 17 := by omega
    have e0 : (List.range 17).map hN = headsN := rfl
    rw [e0]
    obtain ⟨b1, f1, g1⟩ : ∃ b, head_Set.f (headsN.take 16) ⟨#[110, 101, 119]⟩ ⟨#[49]⟩ = some b ∧ b.2 = 5 := ⟨_, set_f _ headsN_take _ _, by decide +kernel⟩
    obtain ⟨b2, f2, g2, g3⟩ : ∃ b, head_Set.f (headsN.take 16) ⟨#[78, 65, 65]⟩ ⟨#[49]⟩ = some b ∧ b.2 = 0 ∧ (b.1.length : Int) = 16 := ⟨_, set_f _ headsN_take _ _, by decide +kernel, by decide +kernel⟩
    have f3 : head_Check.f headsN = some 5 := by rw [check_f]; exact congrArg some (by decide +kernel)
    have f4 : head_Check.f (headsN.take 16) = some 0 := by rw [check_f]; exact congrArg some (by decide +kernel)
    have f5 : head_Check.f [(⟨longA.extract 0 30, longA.extract 0 200⟩ : S28)] = some 0 := by rw [check_f]; exact congrArg some (by decide +kernel)
    have f6 : head_Check.f [(⟨longA.extract 0 31, (⟨#[]⟩ : ByteArray)⟩ : S28)] = some 40 := by rw [check_f]; exact congrArg some (by decide +kernel)
    have f7 : head_Check.f [(⟨(⟨#[97]⟩ : ByteArray), longA.extract 0 201⟩ : S28)] = some 40 := by rw [check_f]; exact congrArg some (by decide +kernel)
    have f8 : head_Check.f [(⟨(⟨#[]⟩ : ByteArray), (⟨#[]⟩ : ByteArray)⟩ : S28)] = some 40 := by rw [check_f]; exact congrArg some (by decide +kernel)
    have l1 : chinoiserielaw04_line.f (((⟨#[97, 58]⟩ : ByteArray) ++ (longA.extract 0 200)) ++ (⟨#[32, 32, 32, 32, 32, 32, 32, 32, 32, 32, 32, 32, 32, 32, 32, 32, 32, 32, 32, 32, 32, 32, 32, 32, 32, 32, 32, 32, 32, 32, 32, 32, 32, 32, 32, 32, 32, 32, 32, 32, 32, 32, 32, 32, 32, 32, 32, 32, 32, 32, 32, 32, 32, 32, 32, 32, 32, 32, 32, 32, 32, 32, 32, 32, 32, 32]⟩ : ByteArray)) (⟨#[97]⟩ : ByteArray) (longA.extract 0 200) = some true := by
      unfold chinoiserielaw04_line.f
      rw [line_f _ (by decide +kernel), Option.bind_some, if_pos (by decide +kernel), toList_eq, toList_eq, if_pos (by decide +kernel), toList_eq, toList_eq]
      exact congrArg some (by decide +kernel)
    have w1 : chinoiserielaw04_wrong.f (((⟨#[97, 58]⟩ : ByteArray) ++ longA) ++ (longA.extract 0 60)) = some true := by
      unfold chinoiserielaw04_wrong.f
      rw [line_f _ (by decide +kernel), Option.bind_some, if_pos (by decide +kernel), toList_eq, toList_eq]
      exact congrArg some (by decide +kernel)
    have s1 : head_Strip.f headsN ⟨#[]⟩ = some [] := by
      rw [strip_f _ headsN_ok _ (by decide)]
      refine congrArg some ?_
      unfold stripR
      rw [List.filter_eq_nil_iff]
      intro h _
      simp [lowS, List.isPrefixOf]
    have lo : head_Lower.f ⟨#[65, 90, 97, 122, 48, 57, 91]⟩ = some ⟨#[97, 122, 97, 122, 48, 57, 91]⟩ := by rw [low_f _ (by decide)]; rfl
    have q1 : (16 ≤ (headsN.length : Int)) = True := eq_true (by decide)
    have q2 : ((longA.size : Nat) : Int) = 250 := by rw [longA_size]; rfl
    have q3 : (2 + (longA.extract 0 200).size ≤ 9223372036854775807) = True := eq_true (by decide +kernel)
    have q4 : (((⟨#[97, 58]⟩ : ByteArray) ++ (longA.extract 0 200)).size + 66 ≤ 9223372036854775807) = True := eq_true (by decide +kernel)
    have q5 : (2 + longA.size ≤ 9223372036854775807) = True := eq_true (by decide +kernel)
    have q6 : (((⟨#[97, 58]⟩ : ByteArray) ++ longA).size + (longA.extract 0 60).size ≤ 9223372036854775807) = True := eq_true (by decide +kernel)
    have q7 : (((⟨#[97, 58]⟩ : ByteArray) ++ (longA.extract 0 200)).size + 3 ≤ 9223372036854775807) = True := eq_true (by decide +kernel)
    have h17 : ¬ (((17 : Nat) : Int) < 17) := by decide
    have d0 : ((0 : Int) ≤ 30) = True := eq_true (by decide)
    have d1 : ((30 : Int) ≤ 250) = True := eq_true (by decide)
    have d2 : ((0 : Int) ≤ 200) = True := eq_true (by decide)
    have d3 : ((200 : Int) ≤ 250) = True := eq_true (by decide)
    have d4 : ((0 : Int) ≤ 31) = True := eq_true (by decide)
    have d5 : ((31 : Int) ≤ 250) = True := eq_true (by decide)
    have d6 : ((0 : Int) ≤ 201) = True := eq_true (by decide)
    have d7 : ((201 : Int) ≤ 250) = True := eq_true (by decide)
    have d8 : ((0 : Int) ≤ 60) = True := eq_true (by decide)
    have d9 : ((60 : Int) ≤ 250) = True := eq_true (by decide)
    have dn : ((([] : List S28).length : Nat) : Int) = 0 := rfl
    refine Ev.step (f := fun k => (chinoiserielaw04_HeadLines.f k (((⟨#[97, 58]⟩ : ByteArray) ++ (longA.extract 0 200)) ++ (⟨#[32, 9, 32]⟩ : ByteArray))).bind fun t406 => (if t406 = true then ((chinoiserielaw04_HeadLines.f k (⟨#[]⟩ : ByteArray)).bind fun t407 => (if t407 = true then ((chinoiserielaw04_HeadLines.f k (⟨#[58]⟩ : ByteArray)).bind fun t408 => (if t408 = true then ((head_Same.f k ([] : List (S28)) (([] : List (S28)))).bind fun t415 => ((chinoiserielaw04_works.f k).bind fun t416 => (if t416 = true then (if t415 = true then ((chinoiserieref00_EqTexts.f k (([(⟨#[97, 122, 97, 122, 48, 57, 91]⟩ : ByteArray)] : List ByteArray)) (([(⟨#[97, 122, 97, 122, 48, 57, 91]⟩ : ByteArray)] : List ByteArray))).bind fun t424 => (some t424)) else (none)) else (none)))) else (none))) else (none))) else (none))) (fun k => ?_) ?_
    · rw [chinoiserielaw04_HeadNames.l2, if_neg h17]
      simp only [f1, f2, f3, f4, f5, f6, f7, f8, g1, g2, g3, l1, w1, s1, lo, q1, q2, q3, q4, q5, q6, q7, d0, d1, d2, d3, d4, d5, d6, d7, d8, d9, dn, Nat.zero_le, if_true, Option.bind_some]
    · refine Ev.bind (lines_ev _) ?_
      simp only [if_true]
      refine Ev.bind (lines_ev _) ?_
      simp only [if_true]
      refine Ev.bind (lines_ev _) ?_
      simp only [if_true]
      refine Ev.bind (headSame_ev _ _ (by decide)) (Ev.bind works_ev ?_)
      rw [sameL_refl]
      simp only [if_true]
      exact Ev.bind (texts_ev _) (Ev.now _)
  | succ n ih =>
    intro i hi
    have hh := ih (i + 1) (by omega)
    rw [List.range_succ, List.map_append] at hh
    have e := longA_size
    have hz : ((longA.extract 0 i)).size ≤ 250 := by rw [ByteArray.size_extract]; omega
    have ew : wrap64 ((i : Int) * 12) = ((i * 12 : Nat) : Int) := by unfold wrap64; omega
    refine Ev.step (fun k => ?_) hh
    rw [chinoiserielaw04_HeadNames.l2, if_pos (by omega), if_pos (by omega), if_pos (by omega), Int.toNat_natCast, if_pos (by omega), ew, if_pos (by omega), if_pos (by omega), Int.toNat_natCast, if_pos (by rw [List.length_map, List.length_range]; omega), up1 i (by omega)]
    rfl
theorem names1_ev : ∀ (n i : Nat), i + n = 256 → Ev (fun k => chinoiserielaw04_HeadNames.l1 k longA (i : Int)) true := by
  intro n
  induction n with
  | zero =>
    intro i hi
    refine Ev.step (fun k => ?_) (names2_ev 17 0 (by omega))
    rw [chinoiserielaw04_HeadNames.l1, if_neg (by omega)]
    rfl
  | succ n ih =>
    intro i hi
    obtain ⟨s, hs⟩ : ∃ s, strOfNums [(i : Int) % 256] = s := ⟨_, rfl⟩
    have hz : s.size = 1 := by rw [← hs, strOfNums_size]; rfl
    have e1 : (⟨#[97]⟩ : ByteArray).size = 1 := rfl
    have e2 : (⟨#[97, 58]⟩ : ByteArray).size = 2 := rfl
    have e4 : (⟨#[97, 58, 32, 120]⟩ : ByteArray).size = 4 := rfl
    have ey : (⟨#[121]⟩ : ByteArray).size = 1 := rfl
    have c1 : (1 + s.size ≤ 9223372036854775807) = True := eq_true (by omega)
    have c2 : (((⟨#[97]⟩ : ByteArray) ++ s).size + 3 ≤ 9223372036854775807) = True := eq_true (by rw [ByteArray.size_append, e1]; omega)
    have c3 : (4 + s.size ≤ 9223372036854775807) = True := eq_true (by omega)
    have c4 : (((⟨#[97, 58, 32, 120]⟩ : ByteArray) ++ s).size + 1 ≤ 9223372036854775807) = True := eq_true (by rw [ByteArray.size_append, e4]; omega)
    have c5 : (3 + s.size ≤ 9223372036854775807) = True := eq_true (by omega)
    have c6 : (2 + s.size ≤ 9223372036854775807) = True := eq_true (by omega)
    have c7 : (((⟨#[97, 58]⟩ : ByteArray) ++ s).size + 1 ≤ 9223372036854775807) = True := eq_true (by rw [ByteArray.size_append, e2]; omega)
    have c8 : ((((⟨#[97, 58]⟩ : ByteArray) ++ s) ++ (⟨#[121]⟩ : ByteArray)).size + s.size ≤ 9223372036854775807) = True := eq_true (by rw [ByteArray.size_append, ByteArray.size_append, e2, ey]; omega)
    refine Ev.step (f := fun k => (chinoiserielaw04_HeadLines.f k (((⟨#[97]⟩ : ByteArray) ++ s) ++ (⟨#[58, 32, 120]⟩ : ByteArray))).bind fun t353 => (if t353 = true then ((chinoiserielaw04_HeadLines.f k (((⟨#[97, 58, 32, 120]⟩ : ByteArray) ++ s) ++ (⟨#[121]⟩ : ByteArray))).bind fun t354 => (if t354 = true then ((chinoiserielaw04_HeadLines.f k ((⟨#[97, 58, 32]⟩ : ByteArray) ++ s)).bind fun t355 => (if t355 = true then ((chinoiserielaw04_HeadLines.f k ((((⟨#[97, 58]⟩ : ByteArray) ++ s) ++ (⟨#[121]⟩ : ByteArray)) ++ s)).bind fun t356 => (if t356 = true then ((chinoiserielaw04_HeadSets.f k ([] : List (S28)) ((⟨#[97]⟩ : ByteArray) ++ s) (⟨#[120]⟩ : ByteArray)).bind fun t357 => (if t357 = true then ((chinoiserielaw04_HeadSets.f k ([] : List (S28)) (⟨#[97]⟩ : ByteArray) s).bind fun t358 => (if t358 = true then ((chinoiserielaw04_HeadFinds.f k (([(⟨s, s⟩ : S28)] : List (S28))) ([] : List (S28)) s).bind fun t362 => (if t362 = true then (chinoiserielaw04_HeadNames.l1 k longA ((i + 1 : Nat) : Int)) else (some false))) else (none))) else (none))) else (none))) else (none))) else (none))) else (none))) (fun k => ?_) ?_
    · rw [chinoiserielaw04_HeadNames.l1, if_pos (by omega), Option.bind_some, hs, up1 i (by omega)]
      simp only [c1, c2, c3, c4, c5, c6, c7, c8, if_true]
    · refine Ev.bind (lines_ev _) ?_
      simp only [if_true]
      refine Ev.bind (lines_ev _) ?_
      simp only [if_true]
      refine Ev.bind (lines_ev _) ?_
      simp only [if_true]
      refine Ev.bind (lines_ev _) ?_
      simp only [if_true]
      refine Ev.bind (sets_ev _ _ _) ?_
      simp only [if_true]
      refine Ev.bind (sets_ev _ _ _) ?_
      simp only [if_true]
      refine Ev.bind (finds_ev _ _ _) ?_
      simp only [if_true]
      exact ih (i + 1) (by omega)
theorem names0_ev : ∀ (n i : Nat), i + n = 250 → Ev (fun k => chinoiserielaw04_HeadNames.l0 k ⟨(List.replicate i 97).toArray⟩ (i : Int)) true := by
  intro n
  induction n with
  | zero =>
    intro i hi
    obtain rfl : i = 250 := by omega
    refine Ev.step (fun k => ?_) (names1_ev 256 0 (by omega))
    rw [chinoiserielaw04_HeadNames.l0, if_neg (by omega)]
    rfl
  | succ n ih =>
    intro i hi
    have hh := ih (i + 1) (by omega)
    have hz : (⟨(List.replicate i 97).toArray⟩ : ByteArray).size = i := by simp [ByteArray.size]
    have ea : (⟨(List.replicate i 97).toArray⟩ : ByteArray) ++ (⟨#[97]⟩ : ByteArray) = ⟨(List.replicate (i + 1) 97).toArray⟩ := by
      apply ba_eq
      rw [ByteArray.data_append]
      simp [List.replicate_succ']
    rw [← ea] at hh
    refine Ev.step (fun k => ?_) hh
    rw [chinoiserielaw04_HeadNames.l0, if_pos (by omega), if_pos (by rw [hz]; omega), up1 i (by omega)]
theorem names_ev : Ev (fun k => chinoiserielaw04_HeadNames.f k) true := by
  refine Ev.congr (fun k => ?_) (names0_ev 250 0 (by omega))
  rw [chinoiserielaw04_HeadNames.f]
  rfl
end Go.Proofs.YtbdafijdfpmdiaaDoor.PHead
