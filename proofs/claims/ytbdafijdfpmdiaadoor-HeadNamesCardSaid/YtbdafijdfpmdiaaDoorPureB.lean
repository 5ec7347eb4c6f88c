/- Plain laws of the functions over heads. -/
import Derived.Test.YtbdafijdfpmdiaaDoorPureA
import Derived.Test.YtbdafijdfpmdiaaDoorPHeadx8
set_option linter.unusedVariables false
set_option linter.unusedSimpArgs false
namespace Go.Proofs.YtbdafijdfpmdiaaDoor.PHead
open Go.RowKit Go.Proofs.YtbdafijdfpmdiaaDoorW.PrintWords Go.Proofs.YtbdafijdfpmdiaaDoorW.PrintLast Go.Proofs.YtbdafijdfpmdiaaDoorW.PrintMore

theorem rd_nat (l : List S28) (i : Nat) (h : i < l.length) : rd_T28 l (i : Int) = l[i] := by simp [rd_T28, List.getD, h]
/-- A text cut at 250 bytes; heads cut at 20 of them. -/
def shortB (a : ByteArray) : ByteArray := a.extract 0 (min a.size 250)
def shortH (h : S28) : S28 := ⟨shortB h.f0, shortB h.f1⟩
def cutL (l : List S28) : List S28 := (l.take 20).map shortH
theorem shortB_size (a : ByteArray) : (shortB a).size ≤ 250 := by unfold shortB; rw [ByteArray.size_extract]; omega
theorem short_f (a : ByteArray) : chinoiserielaw04_short.f a = some (shortB a) := by
  unfold chinoiserielaw04_short.f mn shortB
  by_cases h : (250 : Int) < (a.size : Int)
  · rw [if_pos h, if_pos (by omega), if_pos (by omega), show min a.size 250 = 250 by omega]; rfl
  · rw [if_neg h, if_pos (by omega), if_pos (by omega), show min a.size 250 = a.size by omega]; rfl

theorem cut_ev (l : List S28) : ∀ (n i : Nat) (acc : List S28), i + n = min l.length 20 → acc.length = i →
    Ev (fun k => chinoiserielaw04_cut.l0 k l acc (i : Int)) (acc ++ ((l.take 20).drop i).map shortH) := by
  intro n
  induction n with
  | zero =>
    intro i acc hi hl
    rw [List.drop_eq_nil_of_le (by rw [List.length_take]; omega)]
    by_cases h : i < l.length
    · refine Ev.step (f := fun k => chinoiserielaw04_cut.j1 k l acc (i : Int) false) (fun k => ?_) (Ev.step (fun k => ?_) (Ev.now _))
      · rw [chinoiserielaw04_cut.l0, if_pos (by omega), decide_eq_false (by omega)]
      · rw [chinoiserielaw04_cut.j1]; simp
    · refine Ev.step (f := fun k => chinoiserielaw04_cut.j1 k l acc (i : Int) false) (fun k => ?_) (Ev.step (fun k => ?_) (Ev.now _))
      · rw [chinoiserielaw04_cut.l0, if_neg (by omega)]
      · rw [chinoiserielaw04_cut.j1]; simp
  | succ n ih =>
    intro i acc hi hl
    have h1 : i < l.length := by omega
    have h2 : i < (l.take 20).length := by rw [List.length_take]; omega
    have hh := ih (i + 1) (acc ++ [shortH l[i]]) (by omega) (by simp [hl])
    rw [List.append_assoc] at hh
    rw [List.drop_eq_getElem_cons h2, List.getElem_take, List.map_cons]
    refine Ev.step (f := fun k => chinoiserielaw04_cut.j1 k l acc (i : Int) true) (fun k => ?_) (Ev.step (fun k => ?_) hh)
    · rw [chinoiserielaw04_cut.l0, if_pos (by omega), decide_eq_true (by omega)]
    · rw [chinoiserielaw04_cut.j1, if_pos rfl, if_pos (by omega), if_pos (by omega), rd_nat l i h1, short_f, short_f, Option.bind_some, Option.bind_some, if_pos (by omega), up1 i (by omega)]
      rfl
theorem cutF_ev (l : List S28) : Ev (fun k => chinoiserielaw04_cut.f k l) (cutL l) := by
  have := cut_ev l (min l.length 20) 0 [] (by omega) rfl
  simpa [chinoiserielaw04_cut.f, cutL] using this
theorem cutL_len (l : List S28) : (cutL l).length ≤ 20 := by unfold cutL; rw [List.length_map, List.length_take]; omega

/-- Heads whose texts are no longer than 1000 bytes, 4000 of them at most. -/
def okL (l : List S28) : Prop := l.length ≤ 4000 ∧ ∀ h ∈ l, h.f0.size ≤ 1000 ∧ h.f1.size ≤ 1000
theorem cutL_ok (l : List S28) : okL (cutL l) := by
  refine ⟨by have := cutL_len l; omega, fun h hh => ?_⟩
  unfold cutL at hh
  obtain ⟨x, _, rfl⟩ := List.mem_map.mp hh
  have h1 := shortB_size x.f0
  have h2 := shortB_size x.f1
  exact ⟨Nat.le_trans h1 (by decide), Nat.le_trans h2 (by decide)⟩
theorem okL.at_ {l : List S28} (h : okL l) (i : Nat) (hi : i < l.length) : (l[i]).f0.size ≤ 1000 ∧ (l[i]).f1.size ≤ 1000 := h.2 _ (List.getElem_mem hi)
theorem okL.filter {l : List S28} (h : okL l) (p : S28 → Bool) : okL (l.filter p) :=
  ⟨Nat.le_trans (List.length_filter_le _ _) h.1, fun x hx => h.2 x (List.mem_filter.mp hx).1⟩

/-- May heads be? -/
def checkR (l : List S28) : Int := if l.length > 16 then 5 else if l.all mayH then 0 else 40
theorem check_f (l : List S28) : head_Check.f l = some (checkR l) := rfl
theorem check_ev (l : List S28) (hl : okL l) : ∀ (n i : Nat), i + n = l.length → Ev (fun k => chinoiserieref04_Check.l0 k l i) (if (l.drop i).all mayH then (0 : Int) else 40) := by
  have h0 := hl.1
  intro n
  induction n with
  | zero =>
    intro i hi
    rw [List.drop_eq_nil_of_le (by omega)]
    refine Ev.step (fun k => ?_) (Ev.now _)
    rw [chinoiserieref04_Check.l0, if_neg (by omega)]; rfl
  | succ n ih =>
    intro i hi
    have hlt : i < l.length := by omega
    obtain ⟨z0, z1⟩ := hl.at_ i hlt
    have hh := ih (i + 1) (by omega)
    rw [List.drop_eq_getElem_cons hlt, List.all_cons]
    refine Ev.step (f := fun k => (chinoiserieref04_IsName.f k (l[i]).f0).bind fun t126 => (if t126 = true then ((chinoiserieref04_IsValue.f k (l[i]).f1).bind fun t128 => (if t128 = true then (chinoiserieref04_Check.l0 k l ((i + 1 : Nat) : Int)) else (some 40))) else (some 40))) (fun k => ?_) ?_
    · rw [chinoiserieref04_Check.l0, if_pos (by omega), if_pos (by omega), rd_nat l i hlt, up1 i (by omega)]
    · refine Ev.bind (refIsName_ev _ (by omega)) ?_
      unfold mayH
      by_cases g1 : isNam (l[i]).f0 = true
      · simp only [g1, if_pos, Bool.true_and]
        refine Ev.bind (refIsValue_ev _ (by omega)) ?_
        by_cases g2 : isVal (l[i]).f1 = true
        · simp only [g2, if_pos, Bool.true_and]; exact hh
        · simp only [g2, Bool.false_and]; exact Ev.now _
      · simp only [g1, Bool.false_and]; exact Ev.now _
theorem refCheck_ev (l : List S28) (hl : okL l) : Ev (fun k => chinoiserieref04_Check.f k l) (checkR l) := by
  unfold chinoiserieref04_Check.f checkR
  by_cases h : l.length > 16
  · simp only [h, if_true]; exact Ev.congr (fun k => by rw [if_pos (by omega)]) (Ev.now _)
  · refine Ev.congr (f := fun k => chinoiserieref04_Check.l0 k l ((0 : Nat) : Int)) (fun k => by rw [if_neg (by omega)]; rfl) ?_
    simp only [h, if_false]
    exact check_ev l hl l.length 0 (by omega)

/-- The first value, if there is one; the count. -/
def firstOr (v : ByteArray) : List S28 → ByteArray
  | [] => v
  | h :: _ => h.f1
def getR (l : List S28) (n : ByteArray) : ByteArray × Int := (firstV (getH l n), ((getH l n).length : Int))
theorem get_f (l : List S28) (hl : okL l) (n : ByteArray) : head_Get.f l n = some (getR l n) := by
  have h0 := hl.1
  unfold head_Get.f
  rw [if_pos (by omega)]; rfl
theorem getl_ev (l : List S28) (hl : okL l) (nm : ByteArray) (hn : nm.size ≤ 140737488351232) : ∀ (n i c : Nat) (v : ByteArray), i + n = l.length → c ≤ i →
    Ev (fun k => chinoiserieref04_Get.l0 k l nm v c i) (if c = 0 then firstOr v (getH (l.drop i) nm) else v, ((c + (getH (l.drop i) nm).length : Nat) : Int)) := by
  have h0 := hl.1
  intro n
  induction n with
  | zero =>
    intro i c v hi hc
    rw [List.drop_eq_nil_of_le (by omega)]
    refine Ev.step (fun k => ?_) (Ev.now _)
    rw [chinoiserieref04_Get.l0, if_neg (by omega)]
    simp [getH, firstOr]
  | succ n ih =>
    intro i c v hi hc
    have hlt : i < l.length := by omega
    obtain ⟨z0, z1⟩ := hl.at_ i hlt
    rw [List.drop_eq_getElem_cons hlt]
    refine Ev.step (f := fun k => (chinoiserieref04_Alike.f k (l[i]).f0 nm).bind fun t123 => (if t123 = true then (if (c : Int) = 0 then (chinoiserieref04_Get.l0 k l nm (l[i]).f1 ((c + 1 : Nat) : Int) ((i + 1 : Nat) : Int)) else (chinoiserieref04_Get.l0 k l nm v ((c + 1 : Nat) : Int) ((i + 1 : Nat) : Int))) else (chinoiserieref04_Get.l0 k l nm v c ((i + 1 : Nat) : Int)))) (fun k => ?_) ?_
    · rw [chinoiserieref04_Get.l0, if_pos (by omega), if_pos (by omega), rd_nat l i hlt, up1 i (by omega), up1 c (by omega)]
    · refine Ev.bind (refAlike_ev _ _ (by omega) hn) ?_
      unfold getH
      by_cases g : alk (l[i]).f0 nm = true
      · rw [List.filter_cons_of_pos (p := fun h : S28 => alk h.f0 nm) (a := l[i]) g, List.length_cons]
        simp only [g, if_pos]
        by_cases hc0 : c = 0
        · subst hc0
          have := ih (i + 1) 1 (l[i]).f1 (by omega) (by omega)
          simp only [show ((0 : Nat) : Int) = 0 from rfl, if_true]
          rw [if_neg (by omega)] at this
          unfold getH at this
          rw [show 0 + ((l.drop (i + 1)).filter (fun h => alk h.f0 nm)).length.succ = 1 + ((l.drop (i + 1)).filter (fun h => alk h.f0 nm)).length by omega]
          exact this
        · have := ih (i + 1) (c + 1) v (by omega) (by omega)
          rw [if_neg (by omega)] at this
          unfold getH at this
          simp only [show ¬ ((c : Int) = 0) by omega, hc0, if_false]
          rw [show c + ((l.drop (i + 1)).filter (fun h => alk h.f0 nm)).length.succ = c + 1 + ((l.drop (i + 1)).filter (fun h => alk h.f0 nm)).length by omega]
          exact this
      · rw [List.filter_cons_of_neg (p := fun h : S28 => alk h.f0 nm) (a := l[i]) g]
        simp only [g]
        exact ih (i + 1) c v (by omega) (by omega)
theorem refGet_ev (l : List S28) (hl : okL l) (nm : ByteArray) (hn : nm.size ≤ 140737488351232) : Ev (fun k => chinoiserieref04_Get.f k l nm) (getR l nm) := by
  have := getl_ev l hl nm hn l.length 0 0 ⟨#[]⟩ (by omega) (by omega)
  rw [if_pos rfl, List.drop_zero, Nat.zero_add] at this
  unfold chinoiserieref04_Get.f getR
  have e : firstV (getH l nm) = firstOr ⟨#[]⟩ (getH l nm) := by cases getH l nm <;> rfl
  rw [e]
  exact this

def dropR (l : List S28) (n : ByteArray) : List S28 := l.filter fun h => !alk h.f0 n
theorem drop_f (l : List S28) (hl : okL l) (n : ByteArray) : head_Drop.f l n = some (dropR l n) := by
  have h0 := hl.1
  unfold head_Drop.f
  rw [if_pos (by omega)]; rfl
theorem dropl_ev (l : List S28) (hl : okL l) (nm : ByteArray) (hn : nm.size ≤ 140737488351232) : ∀ (n i : Nat) (acc : List S28), i + n = l.length → acc.length ≤ i →
    Ev (fun k => chinoiserieref04_Drop.l0 k l nm acc i) (acc ++ dropR (l.drop i) nm) := by
  have h0 := hl.1
  intro n
  induction n with
  | zero =>
    intro i acc hi hc
    rw [List.drop_eq_nil_of_le (by omega)]
    refine Ev.step (fun k => ?_) (Ev.now _)
    rw [chinoiserieref04_Drop.l0, if_neg (by omega)]
    simp [dropR]
  | succ n ih =>
    intro i acc hi hc
    have hlt : i < l.length := by omega
    obtain ⟨z0, z1⟩ := hl.at_ i hlt
    rw [List.drop_eq_getElem_cons hlt]
    refine Ev.step (f := fun k => (chinoiserieref04_Alike.f k (l[i]).f0 nm).bind fun t146 => (if t146 = true then (chinoiserieref04_Drop.l0 k l nm acc ((i + 1 : Nat) : Int)) else (chinoiserieref04_Drop.l0 k l nm (acc ++ [l[i]]) ((i + 1 : Nat) : Int)))) (fun k => ?_) ?_
    · rw [chinoiserieref04_Drop.l0, if_pos (by omega), if_pos (by omega), rd_nat l i hlt, up1 i (by omega), if_pos (by omega)]
    · refine Ev.bind (refAlike_ev _ _ (by omega) hn) ?_
      unfold dropR
      by_cases g : alk (l[i]).f0 nm = true
      · rw [List.filter_cons_of_neg (by simp [g])]
        simp only [g, if_pos]
        exact ih (i + 1) acc (by omega) (by omega)
      · rw [List.filter_cons_of_pos (by simp [g])]
        simp only [g]
        have := ih (i + 1) (acc ++ [l[i]]) (by omega) (by simp; omega)
        rw [List.append_assoc] at this
        exact this
theorem refDrop_ev (l : List S28) (hl : okL l) (nm : ByteArray) (hn : nm.size ≤ 140737488351232) : Ev (fun k => chinoiserieref04_Drop.f k l nm) (dropR l nm) := by
  have := dropl_ev l hl nm hn l.length 0 [] (by omega) (by simp)
  simpa [chinoiserieref04_Drop.f] using this

def stripR (l : List S28) (p : ByteArray) : List S28 := l.filter fun h => !((lowS p).data.toList.isPrefixOf (lowS h.f0).data.toList)
theorem strip_f (l : List S28) (hl : okL l) (p : ByteArray) (hp : p.size ≤ 140737488351232) : head_Strip.f l p = some (stripR l p) := by
  have h0 := hl.1
  unfold head_Strip.f
  rw [if_pos ⟨by omega, hp, fun h hh => by have := hl.2 h hh; omega⟩]; rfl
theorem lowS_size (s : ByteArray) : (lowS s).size = s.size := by
  show (lowS s).data.size = _
  rw [← data_length, ← Array.length_toList]; simp [lowS]
theorem lowS_len (s : ByteArray) : (lowS s).data.toList.length = s.size := by rw [data_length, lowS_size]
theorem prefix_take (p l : List UInt8) : p.isPrefixOf l = decide (p.length ≤ l.length ∧ l.take p.length = p) := by
  rw [Bool.eq_iff_iff, List.isPrefixOf_iff_prefix, decide_eq_true_iff]
  constructor
  · intro h; exact ⟨h.length_le, (List.prefix_iff_eq_take.mp h).symm⟩
  · intro h; exact List.prefix_iff_eq_take.mpr h.2.symm
theorem stripl_ev (l : List S28) (hl : okL l) (p : ByteArray) (hp : p.size ≤ 140737488351232) : ∀ (n i : Nat) (acc : List S28), i + n = l.length → acc.length ≤ i →
    Ev (fun k => chinoiserieref04_Strip.l0 k l p acc i) (acc ++ stripR (l.drop i) p) := by
  have h0 := hl.1
  intro n
  induction n with
  | zero =>
    intro i acc hi hc
    rw [List.drop_eq_nil_of_le (by omega)]
    refine Ev.step (fun k => ?_) (Ev.now _)
    rw [chinoiserieref04_Strip.l0, if_neg (by omega)]
    simp [stripR]
  | succ n ih =>
    intro i acc hi hc
    have hlt : i < l.length := by omega
    obtain ⟨z0, z1⟩ := hl.at_ i hlt
    rw [List.drop_eq_getElem_cons hlt]
    have hkeep := ih (i + 1) (acc ++ [l[i]]) (by omega) (by simp; omega)
    rw [List.append_assoc] at hkeep
    have hdrop := ih (i + 1) acc (by omega) (by omega)
    unfold stripR at hkeep hdrop ⊢
    by_cases hsz : (l[i]).f0.size < p.size
    · have hno : ((lowS p).data.toList.isPrefixOf (lowS (l[i]).f0).data.toList) = false := by
        rw [prefix_take, decide_eq_false]; rw [lowS_len, lowS_len]; omega
      rw [List.filter_cons_of_pos (by simp [hno])]
      refine Ev.step (fun k => ?_) hkeep
      rw [chinoiserieref04_Strip.l0, if_pos (by omega), if_pos (by omega), rd_nat l i hlt, if_pos (by omega), if_pos (by omega), up1 i (by omega)]
    · have hz : ((l[i]).f0.extract 0 p.size).size ≤ 140737488351232 := by rw [ByteArray.size_extract]; omega
      have hiff : ((lowS p).data.toList.isPrefixOf (lowS (l[i]).f0).data.toList) = decide ((lowS ((l[i]).f0.extract 0 p.size)).toList = (lowS p).toList) := by
        rw [prefix_take, Bool.eq_iff_iff, decide_eq_true_iff, decide_eq_true_iff, toList_eq, toList_eq, lowS_len, lowS_len]
        have e : (lowS ((l[i]).f0.extract 0 p.size)).data.toList = (lowS (l[i]).f0).data.toList.take p.size := by
          unfold lowS
          rw [ByteArray.data_extract, Array.toList_extract, List.extract_eq_take_drop]
          simp [List.map_take]
        rw [e]
        exact ⟨fun h => h.2, fun h => ⟨by omega, h⟩⟩
      refine Ev.step (f := fun k => (chinoiserieref04_Lower.f k ((l[i]).f0.extract 0 p.size)).bind fun t156 => ((chinoiserieref04_Lower.f k p).bind fun t157 => (if t156.toList = t157.toList then (chinoiserieref04_Strip.l0 k l p acc ((i + 1 : Nat) : Int)) else (chinoiserieref04_Strip.l0 k l p (acc ++ [l[i]]) ((i + 1 : Nat) : Int))))) (fun k => ?_) ?_
      · rw [chinoiserieref04_Strip.l0, if_pos (by omega), if_pos (by omega), rd_nat l i hlt, if_neg (by omega), if_pos (by omega), if_pos (by omega), up1 i (by omega), if_pos (by omega)]
      · refine Ev.bind (refLower_ev _ hz) (Ev.bind (refLower_ev _ hp) ?_)
        by_cases g : (lowS ((l[i]).f0.extract 0 p.size)).toList = (lowS p).toList
        · rw [List.filter_cons_of_neg (by simp [hiff, g])]
          simp only [g, if_pos]
          exact hdrop
        · rw [List.filter_cons_of_pos (by simp [hiff, g])]
          simp only [g, if_false]
          exact hkeep
theorem refStrip_ev (l : List S28) (hl : okL l) (p : ByteArray) (hp : p.size ≤ 140737488351232) : Ev (fun k => chinoiserieref04_Strip.f k l p) (stripR l p) := by
  have := stripl_ev l hl p hp l.length 0 [] (by omega) (by simp)
  simpa [chinoiserieref04_Strip.f] using this

/-- Are heads the same? -/
def eqH (a b : S28) : Bool := a.f0.data.toList == b.f0.data.toList && a.f1.data.toList == b.f1.data.toList
def sameFrom (a b : List S28) : Bool := (a.zip b).all fun p => eqH p.1 p.2
def sameL (a b : List S28) : Bool := decide (a.length = b.length) && sameFrom a b
theorem eqH_not (a b : S28) : (!(a.f0.toList == b.f0.toList) || !(a.f1.toList == b.f1.toList)) = !eqH a b := by
  simp only [toList_eq, eqH, Bool.not_and]
theorem eqH_refl (a : S28) : eqH a a = true := by simp [eqH]
theorem sameL_refl (a : List S28) : sameL a a = true := by
  unfold sameL sameFrom
  rw [decide_eq_true rfl, Bool.true_and, List.all_eq_true]
  intro p hp
  have : p.1 = p.2 := by
    induction a with
    | nil => simp at hp
    | cons x a ih =>
      rw [List.zip_cons_cons] at hp
      rcases List.mem_cons.mp hp with rfl | h
      · rfl
      · exact ih h
  rw [this]; exact eqH_refl _
theorem zip_step (a b : List S28) (i : Nat) (ha : i < a.length) (hb : i < b.length) : sameFrom (a.drop i) (b.drop i) = (eqH a[i] b[i] && sameFrom (a.drop (i + 1)) (b.drop (i + 1))) := by
  rw [List.drop_eq_getElem_cons ha, List.drop_eq_getElem_cons hb]
  unfold sameFrom
  rw [List.zip_cons_cons, List.all_cons]
theorem same_ev (a b : List S28) (h : a.length = b.length) (hz : a.length ≤ 9223372036854775806) : ∀ (n i : Nat), i + n = a.length →
    Ev (fun k => chinoiserieref04_Same.l0 k a b i) (sameFrom (a.drop i) (b.drop i)) := by
  intro n
  induction n with
  | zero =>
    intro i hi
    rw [List.drop_eq_nil_of_le (by omega)]
    refine Ev.step (fun k => ?_) (Ev.now _)
    rw [chinoiserieref04_Same.l0, if_neg (by omega)]; rfl
  | succ n ih =>
    intro i hi
    rw [zip_step a b i (by omega) (by omega)]
    by_cases g : eqH (a[i]'(by omega)) (b[i]'(by omega)) = true
    · rw [g, Bool.true_and]
      refine Ev.step (fun k => ?_) (ih (i + 1) (by omega))
      rw [chinoiserieref04_Same.l0, if_pos (by omega), if_pos (by omega), if_pos (by omega), rd_nat a i (by omega), rd_nat b i (by omega), eqH_not, g, if_neg (by simp), up1 i (by omega)]
    · rw [show eqH (a[i]'(by omega)) (b[i]'(by omega)) = false by simpa using g]
      refine Ev.step (fun k => ?_) (Ev.now _)
      rw [chinoiserieref04_Same.l0, if_pos (by omega), if_pos (by omega), if_pos (by omega), rd_nat a i (by omega), rd_nat b i (by omega), eqH_not, show eqH (a[i]'(by omega)) (b[i]'(by omega)) = false by simpa using g, if_pos (by simp)]
      simp
theorem refSame_ev (a b : List S28) (hz : a.length ≤ 9223372036854775806) : Ev (fun k => chinoiserieref04_Same.f k a b) (sameL a b) := by
  unfold chinoiserieref04_Same.f sameL
  by_cases h : a.length = b.length
  · rw [decide_eq_true h, Bool.true_and]
    exact Ev.congr (fun k => if_pos (by omega)) (same_ev a b h hz a.length 0 (by omega))
  · rw [decide_eq_false h]
    exact Ev.congr (fun k => if_neg (by omega)) (Ev.now _)
theorem apiSame_ev (a b : List S28) (h : a.length = b.length) (hz : a.length ≤ 9223372036854775806) : ∀ (n i : Nat), i + n = a.length →
    Ev (fun k => api_Head.l0 k a b (a.length : Int) i) (sameFrom (a.drop i) (b.drop i)) := by
  intro n
  induction n with
  | zero =>
    intro i hi
    rw [List.drop_eq_nil_of_le (by omega)]
    refine Ev.step (fun k => ?_) (Ev.now _)
    rw [api_Head.l0, if_neg (by omega)]; rfl
  | succ n ih =>
    intro i hi
    rw [zip_step a b i (by omega) (by omega)]
    by_cases g : eqH (a[i]'(by omega)) (b[i]'(by omega)) = true
    · rw [g, Bool.true_and]
      refine Ev.step (fun k => ?_) (ih (i + 1) (by omega))
      rw [api_Head.l0, if_pos (by omega), if_pos (by omega), if_pos (by omega), if_pos (by omega), rd_nat a i (by omega), rd_nat b i (by omega), eqH_not, g, if_neg (by simp), up1 i (by omega)]
    · rw [show eqH (a[i]'(by omega)) (b[i]'(by omega)) = false by simpa using g]
      refine Ev.step (fun k => ?_) (Ev.now _)
      rw [api_Head.l0, if_pos (by omega), if_pos (by omega), if_pos (by omega), if_pos (by omega), rd_nat a i (by omega), rd_nat b i (by omega), eqH_not, show eqH (a[i]'(by omega)) (b[i]'(by omega)) = false by simpa using g, if_pos (by simp)]
      simp
theorem headSame_ev (a b : List S28) (hz : a.length ≤ 9223372036854775806) : Ev (fun k => head_Same.f k a b) (sameL a b) := by
  unfold head_Same.f
  refine Ev.bind (a := sameL a b) ?_ (Ev.now _)
  unfold api_Head.f sameL
  by_cases h : a.length = b.length
  · rw [decide_eq_true h, Bool.true_and]
    exact Ev.congr (fun k => if_pos (by omega)) (apiSame_ev a b h hz a.length 0 (by omega))
  · rw [decide_eq_false h]
    exact Ev.congr (fun k => if_neg (by omega)) (Ev.now _)

theorem copy_f (l : List S28) (hl : okL l) : chinoiserieref04_Copy.f l = some l := by
  have := hl.1
  unfold chinoiserieref04_Copy.f
  rw [if_pos (by simp; omega)]; rfl
theorem spoil_ev (c : List S28) : ∀ (n i : Nat) (l : List S28), i + n = l.length → l.length ≤ 9223372036854775806 → ∃ y, Ev (fun k => chinoiserielaw04_spoilt.l0 k l c i) (c, y) := by
  intro n
  induction n with
  | zero =>
    intro i l hi hz
    refine ⟨l, Ev.step (fun k => ?_) (Ev.now _)⟩
    rw [chinoiserielaw04_spoilt.l0, if_neg (by omega)]
  | succ n ih =>
    intro i l hi hz
    obtain ⟨y, hy⟩ := ih (i + 1) (l.set i ⟨⟨#[115, 112, 111, 105, 108, 116]⟩, ⟨#[]⟩⟩) (by simp; omega) (by simp; omega)
    refine ⟨y, Ev.step (fun k => ?_) hy⟩
    rw [chinoiserielaw04_spoilt.l0, if_pos (by omega), if_pos (by omega), up1 i (by omega)]
    rfl
theorem spoilt_ev (l : List S28) (hl : okL l) : ∃ y, Ev (fun k => chinoiserielaw04_spoilt.f k l) (l, y) := by
  obtain ⟨y, hy⟩ := spoil_ev l l.length 0 l (by omega) (by have := hl.1; omega)
  exact ⟨y, Ev.congr (fun k => by rw [chinoiserielaw04_spoilt.f, copy_f l hl, Option.bind_some]; rfl) hy⟩
end Go.Proofs.YtbdafijdfpmdiaaDoor.PHead
