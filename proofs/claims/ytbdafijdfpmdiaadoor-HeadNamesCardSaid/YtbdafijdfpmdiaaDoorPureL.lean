/- Plain laws: what a line tells, in head.Line and in the reference's Line. -/
import Derived.Test.YtbdafijdfpmdiaaDoorPureA
import Derived.Test.YtbdafijdfpmdiaaDoorPHeadx6
set_option linter.unusedVariables false
set_option linter.unusedSimpArgs false
namespace Go.Proofs.YtbdafijdfpmdiaaDoor.PHead
open Go.RowKit Go.Proofs.YtbdafijdfpmdiaaDoorW.PrintWords Go.Proofs.YtbdafijdfpmdiaaDoorW.PrintLast Go.Proofs.YtbdafijdfpmdiaaDoorW.PrintMore

/-- A blank or a tab. -/
def blk (b : UInt8) : Bool := [32, 9].contains b
set_option maxRecDepth 100000 in
theorem blank_f (b : UInt8) : chinoiserieref04_blank.f (b.toNat : Int) = some (blk b) := by
  have h : ∀ n : Fin 256, chinoiserieref04_blank.f (n.1 : Int) = some (blk (UInt8.ofNat n.1)) := by decide
  have := h ⟨b.toNat, UInt8.toNat_lt b⟩
  rw [UInt8.ofNat_toNat] at this
  exact this

/-- What a line tells. -/
def cutV (a : ByteArray) : List UInt8 × List UInt8 × Bool := cutB a.data.toList 58
def lineR (a : ByteArray) : ByteArray × ByteArray × Int :=
  if (cutV a).2.2 = true ∧ a.size ≤ 300 ∧ isNam ⟨(cutV a).1.toArray⟩ = true ∧ isVal ⟨(trimSet (cutV a).2.1 [32, 9]).toArray⟩ = true
  then (⟨(cutV a).1.toArray⟩, ⟨(trimSet (cutV a).2.1 [32, 9]).toArray⟩, 0) else (⟨#[]⟩, ⟨#[]⟩, 40)

theorem cutB_len (l : List UInt8) (c : UInt8) : (cutB l c).2.1.length ≤ l.length := by
  induction l with
  | nil => simp [cutB]
  | cons x l ih =>
    unfold cutB
    by_cases h : x = c
    · simp [h]
    · simp [h]; omega

theorem line_f (a : ByteArray) (hs : a.size ≤ 140737488351232) : head_Line.f a = some (lineR a) := by
  unfold head_Line.f
  have e1 : strings_Cut.f a ⟨#[58]⟩ = some (⟨(cutV a).1.toArray⟩, ⟨(cutV a).2.1.toArray⟩, (cutV a).2.2) := by
    unfold strings_Cut.f
    rw [if_pos ⟨rfl, hs⟩]; rfl
  have e2 : strings_Trim.f ⟨(cutV a).2.1.toArray⟩ ⟨#[32, 9]⟩ = some ⟨(trimSet (cutV a).2.1 [32, 9]).toArray⟩ := by
    unfold strings_Trim.f
    rw [if_pos (⟨rfl, ?_⟩ : _ ∧ _)]
    have := cutB_len a.data.toList 58
    rw [data_length] at this
    show (cutV a).2.1.length ≤ _
    exact Nat.le_trans this hs
  rw [e1, Option.bind_some, e2, Option.bind_some]
  simp only []
  unfold lineR
  have hm : head_may.f ⟨(cutV a).1.toArray⟩ ⟨(trimSet (cutV a).2.1 [32, 9]).toArray⟩ = some (isNam ⟨(cutV a).1.toArray⟩ && isVal ⟨(trimSet (cutV a).2.1 [32, 9]).toArray⟩) := by
    unfold head_may.f head_folded.f head_value.f
    by_cases h : isNam ⟨(cutV a).1.toArray⟩ = true <;> simp [h]
  by_cases h1 : (cutV a).2.2 = true
  · rw [if_pos h1]
    by_cases h2 : a.size ≤ 300
    · rw [if_neg (by omega), hm, Option.bind_some]
      by_cases h3 : isNam ⟨(cutV a).1.toArray⟩ = true
      · by_cases h4 : isVal ⟨(trimSet (cutV a).2.1 [32, 9]).toArray⟩ = true
        · simp [h1, h2, h3, h4]
        · simp [h4]
      · simp [h3]
    · rw [if_pos (by omega), if_neg (by omega)]
  · rw [if_neg h1, if_neg (fun h => h1 h.1)]

theorem trim_comm (l : List UInt8) (p : UInt8 → Bool) : ((l.reverse.dropWhile p).reverse).dropWhile p = (((l.dropWhile p).reverse).dropWhile p).reverse := by
  induction l with
  | nil => rfl
  | cons x l ih =>
    by_cases hx : p x = true
    · rw [List.dropWhile_cons_of_pos hx, ← ih, List.reverse_cons, List.dropWhile_append]
      by_cases hn : (l.reverse.dropWhile p).isEmpty = true
      · rw [if_pos hn]
        rw [List.isEmpty_iff] at hn
        simp [hn, hx]
      · rw [if_neg hn, List.reverse_append]
        simp [hx]
    · rw [List.dropWhile_cons_of_neg (by simpa using hx), List.reverse_cons, List.dropWhile_append]
      by_cases hn : (l.reverse.dropWhile p).isEmpty = true
      · rw [if_pos hn]; simp [hx]
      · rw [if_neg hn, List.reverse_append]; simp [hx]

theorem ext_data (a : ByteArray) (hs : a.size ≤ 400) (i j : Nat) (hj : j ≤ a.size) : (a.extract i j).data.toList = (a.data.toList.take j).drop i := by
  rw [ByteArray.data_extract, Array.toList_extract]
  rw [List.extract_eq_take_drop, List.drop_take]

theorem j5_ev (a : ByteArray) (hs : a.size ≤ 400) (p i j : Nat) (hp : p ≤ a.size) (hi : i ≤ j) (hj : j ≤ a.size) :
    Ev (fun k => chinoiserieref04_Line.j5 k a p i j) (if isNam (a.extract 0 p) = true ∧ isVal (a.extract i j) = true then (a.extract 0 p, a.extract i j, 0) else (⟨#[]⟩, ⟨#[]⟩, 40)) := by
  have h1 : (a.extract 0 p).size ≤ 140737488351232 := by rw [ByteArray.size_extract]; omega
  have h2 : (a.extract i j).size ≤ 140737488351232 := by rw [ByteArray.size_extract]; omega
  refine Ev.step (f := fun k => (chinoiserieref04_IsName.f k (a.extract 0 p)).bind fun t337 => (if t337 = true then ((chinoiserieref04_IsValue.f k (a.extract i j)).bind fun t338 => (if t338 = true then (some (a.extract 0 p, a.extract i j, 0)) else (some ((⟨#[]⟩ : ByteArray), (⟨#[]⟩ : ByteArray), 40)))) else (some ((⟨#[]⟩ : ByteArray), (⟨#[]⟩ : ByteArray), 40)))) (fun k => ?_) ?_
  · rw [chinoiserieref04_Line.j5, if_pos (by omega), if_pos (by omega), if_pos (by omega), if_pos (by omega), if_pos (by omega)]
    rfl
  · refine Ev.bind (refIsName_ev _ h1) ?_
    by_cases g1 : isNam (a.extract 0 p) = true
    · simp only [g1, if_pos, true_and]
      refine Ev.bind (refIsValue_ev _ h2) ?_
      by_cases g2 : isVal (a.extract i j) = true
      · simp only [g2, if_pos]; exact Ev.now _
      · simp only [g2]; exact Ev.now _
    · simp only [g1, false_and]; exact Ev.now _

theorem l2_ev (a : ByteArray) (hs : a.size ≤ 400) (p i : Nat) (hp : p ≤ a.size) : ∀ (j : Nat), i ≤ j → j ≤ a.size →
    ∃ j', i ≤ j' ∧ j' ≤ j ∧ (a.data.toList.take j').drop i = ((((a.data.toList.take j).drop i).reverse).dropWhile blk).reverse ∧
    Ev (fun k => chinoiserieref04_Line.l2 k a p i j) (if isNam (a.extract 0 p) = true ∧ isVal (a.extract i j') = true then (a.extract 0 p, a.extract i j', 0) else (⟨#[]⟩, ⟨#[]⟩, 40)) := by
  intro j
  induction j with
  | zero =>
    intro h1 h2
    refine ⟨0, h1, Nat.le_refl _, by simp, ?_⟩
    refine Ev.step (fun k => ?_) (j5_ev a hs p i 0 hp h1 h2)
    rw [chinoiserieref04_Line.l2, if_neg (by omega)]
  | succ j ih =>
    intro h1 h2
    by_cases hij : i = j + 1
    · refine ⟨j + 1, h1, Nat.le_refl _, ?_, ?_⟩
      · rw [hij, List.drop_eq_nil_of_le (by rw [List.length_take]; omega)]; rfl
      refine Ev.step (fun k => ?_) (j5_ev a hs p i (j + 1) hp h1 h2)
      rw [chinoiserieref04_Line.l2, if_neg (by omega)]
    · have hlt : j < a.data.toList.length := by rw [data_length]; omega
      have ed : (a.data.toList.take (j + 1)).drop i = (a.data.toList.take j).drop i ++ [a.data.toList[j]] := by
        rw [List.take_succ_eq_append_getElem hlt, List.drop_append_of_le_length (by rw [List.length_take]; omega)]
      rw [ed, List.reverse_append]
      by_cases hb : blk a.data.toList[j] = true
      · obtain ⟨j', g1, g2, g3, g4⟩ := ih (by omega) (by omega)
        refine ⟨j', g1, by omega, by rw [g3, List.reverse_singleton, List.singleton_append, List.dropWhile_cons_of_pos hb], ?_⟩
        refine Ev.step (fun k => ?_) g4
        rw [chinoiserieref04_Line.l2, if_pos (by omega), dn1 (j + 1) (by omega) (by omega), Nat.add_sub_cancel, if_pos (by omega), if_pos (by omega), bt_nat a j hlt, blank_f, Option.bind_some, hb, if_pos rfl]
      · have hb' : blk a.data.toList[j] = false := by simpa using hb
        refine ⟨j + 1, h1, Nat.le_refl _, ?_, ?_⟩
        · rw [ed, List.reverse_singleton, List.singleton_append, List.dropWhile_cons_of_neg (by simpa using hb), List.reverse_cons, List.reverse_reverse]
        · refine Ev.step (fun k => ?_) (j5_ev a hs p i (j + 1) hp h1 h2)
          rw [chinoiserieref04_Line.l2, if_pos (by omega), dn1 (j + 1) (by omega) (by omega), Nat.add_sub_cancel, if_pos (by omega), if_pos (by omega), bt_nat a j hlt, blank_f, Option.bind_some, hb']
          rfl

theorem l1_ev (a : ByteArray) (hs : a.size ≤ 400) (p : Nat) (hp : p ≤ a.size) : ∀ (n i : Nat), i + n = a.size →
    ∃ i' j', i' ≤ j' ∧ j' ≤ a.size ∧ (a.data.toList.take j').drop i' = ((((a.data.toList.drop i).dropWhile blk).reverse).dropWhile blk).reverse ∧
    Ev (fun k => chinoiserieref04_Line.l1 k a p i a.size) (if isNam (a.extract 0 p) = true ∧ isVal (a.extract i' j') = true then (a.extract 0 p, a.extract i' j', 0) else (⟨#[]⟩, ⟨#[]⟩, 40)) := by
  have hend : ∀ i : Nat, i ≤ a.size → (a.data.toList.drop i).dropWhile blk = a.data.toList.drop i → (∀ k, chinoiserieref04_Line.l1 (k + 1) a p i a.size = chinoiserieref04_Line.j3 k a p i a.size) → ∃ i' j', i' ≤ j' ∧ j' ≤ a.size ∧ (a.data.toList.take j').drop i' = ((((a.data.toList.drop i).dropWhile blk).reverse).dropWhile blk).reverse ∧
    Ev (fun k => chinoiserieref04_Line.l1 k a p i a.size) (if isNam (a.extract 0 p) = true ∧ isVal (a.extract i' j') = true then (a.extract 0 p, a.extract i' j', 0) else (⟨#[]⟩, ⟨#[]⟩, 40)) := by
    intro i hi hd hk
    obtain ⟨j', g1, g2, g3, g4⟩ := l2_ev a hs p i hp a.size hi (Nat.le_refl _)
    refine ⟨i, j', g1, g2, ?_, ?_⟩
    · rw [g3, hd, List.take_of_length_le (by rw [data_length]; omega)]
    · exact Ev.step hk (Ev.step (fun k => by rw [chinoiserieref04_Line.j3]) g4)
  intro n
  induction n with
  | zero =>
    intro i hi
    refine hend i (by omega) (by rw [List.drop_eq_nil_of_le (by rw [data_length]; omega)]; rfl) (fun k => ?_)
    rw [chinoiserieref04_Line.l1, if_neg (by omega)]
  | succ n ih =>
    intro i hi
    have hlt : i < a.data.toList.length := by rw [data_length]; omega
    by_cases hb : blk a.data.toList[i] = true
    · obtain ⟨i', j', g1, g2, g3, g4⟩ := ih (i + 1) (by omega)
      refine ⟨i', j', g1, g2, ?_, ?_⟩
      · rw [g3, List.drop_eq_getElem_cons hlt, List.dropWhile_cons_of_pos hb]
      · refine Ev.step (fun k => ?_) g4
        rw [chinoiserieref04_Line.l1, if_pos (by omega), if_pos (by omega), if_pos (by omega), bt_nat a i hlt, blank_f, Option.bind_some, hb, if_pos rfl, up1 i (by omega)]
    · have hb' : blk a.data.toList[i] = false := by simpa using hb
      refine hend i (by omega) (by rw [List.drop_eq_getElem_cons hlt, List.dropWhile_cons_of_neg (by simpa using hb)]) (fun k => ?_)
      rw [chinoiserieref04_Line.l1, if_pos (by omega), if_pos (by omega), if_pos (by omega), bt_nat a i hlt, blank_f, Option.bind_some, hb']
      rfl

theorem l0_ev (a : ByteArray) (hs : a.size ≤ 400) (r : ByteArray × ByteArray × Int) : ∀ (n i : Nat), i + n = a.size →
    Ev (fun k => chinoiserieref04_Line.j1 k a ((i + (cutB (a.data.toList.drop i) 58).1.length : Nat) : Int)) r → Ev (fun k => chinoiserieref04_Line.l0 k a i) r := by
  intro n
  induction n with
  | zero =>
    intro i hi h
    rw [List.drop_eq_nil_of_le (by rw [data_length]; omega)] at h
    refine Ev.step (fun k => ?_) h
    rw [chinoiserieref04_Line.l0, if_neg (by omega)]
    rfl
  | succ n ih =>
    intro i hi h
    have hlt : i < a.data.toList.length := by rw [data_length]; omega
    rw [List.drop_eq_getElem_cons hlt, cutB] at h
    by_cases hb : a.data.toList[i] = 58
    · rw [if_pos hb] at h
      refine Ev.step (fun k => ?_) h
      rw [chinoiserieref04_Line.l0, if_pos (by omega), if_pos (by omega), bt_nat a i hlt, hb]
      rfl
    · rw [if_neg hb] at h
      have hb' : ¬ ((a.data.toList[i]).toNat : Int) = 58 := fun e => hb (UInt8.toNat_inj.mp (by
        have : (a.data.toList[i]).toNat = 58 := by omega
        rw [this]; rfl))
      refine Ev.step (fun k => ?_) (ih (i + 1) (by omega) (by
        rw [List.length_cons] at h
        rw [show i + 1 + (cutB (a.data.toList.drop (i + 1)) 58).1.length = i + ((cutB (a.data.toList.drop (i + 1)) 58).1.length + 1) by omega]
        exact h))
      rw [chinoiserieref04_Line.l0, if_pos (by omega), if_pos (by omega), bt_nat a i hlt, if_neg hb', up1 i (by omega)]

theorem cutB_no (l : List UInt8) (c : UInt8) (h : (cutB l c).2.2 = false) : (cutB l c).1.length = l.length := by
  induction l with
  | nil => rfl
  | cons x l ih =>
    unfold cutB at h ⊢
    by_cases hx : x = c
    · rw [if_pos hx] at h; cases h
    · rw [if_neg hx] at h ⊢
      simp only [List.length_cons]
      rw [ih h]
theorem cutB_yes (l : List UInt8) (c : UInt8) (h : (cutB l c).2.2 = true) : l = (cutB l c).1 ++ c :: (cutB l c).2.1 := by
  induction l with
  | nil => simp [cutB] at h
  | cons x l ih =>
    unfold cutB at h ⊢
    by_cases hx : x = c
    · rw [if_pos hx] at h ⊢; simp [hx]
    · rw [if_neg hx] at h ⊢
      simp only [List.cons_append]
      rw [← ih h]

theorem refLine_ev (a : ByteArray) (hs : a.size ≤ 400) : Ev (fun k => chinoiserieref04_Line.f k a) (lineR a) := by
  unfold chinoiserieref04_Line.f
  by_cases h3 : a.size ≤ 300
  · have e : ∀ k, (if (a.size : Int) > 300 then some ((⟨#[]⟩ : ByteArray), (⟨#[]⟩ : ByteArray), (40 : Int)) else chinoiserieref04_Line.l0 k a 0) = chinoiserieref04_Line.l0 k a ((0 : Nat) : Int) := fun k => by rw [if_neg (by omega)]; rfl
    refine Ev.congr e (l0_ev a hs _ a.size 0 (by omega) ?_)
    rw [List.drop_zero, Nat.zero_add]
    unfold lineR cutV
    by_cases hc : (cutB a.data.toList 58).2.2 = true
    · have hy := cutB_yes _ _ hc
      have hlen : (cutB a.data.toList 58).1.length + 1 + (cutB a.data.toList 58).2.1.length = a.size := by
        have := congrArg List.length hy
        rw [data_length, List.length_append, List.length_cons] at this
        omega
      generalize cutB a.data.toList 58 = c at *
      obtain ⟨c1, c2, c3⟩ := c
      simp only at *
      have hd : a.data.toList.drop (c1.length + 1) = c2 := by rw [hy]; simp
      obtain ⟨i', j', g1, g2, g3, g4⟩ := l1_ev a hs c1.length (by omega) c2.length (c1.length + 1) (by omega)
      rw [hd] at g3
      have ev : a.extract i' j' = ⟨(trimSet c2 [32, 9]).toArray⟩ := by
        apply ba_eq
        rw [ext_data a hs i' j' g2, g3]
        unfold trimSet
        exact (trim_comm c2 blk).symm
      have en : a.extract 0 c1.length = ⟨c1.toArray⟩ := by
        apply ba_eq
        rw [ext_data a hs 0 c1.length (by omega), hy]; simp
      rw [ev, en] at g4
      simp only [hc, h3, true_and]
      refine Ev.step (fun k => ?_) g4
      rw [chinoiserieref04_Line.j1, if_neg (by omega), up1 _ (by omega)]
    · have hn := cutB_no a.data.toList 58 (by simpa using hc)
      rw [if_neg (fun h => hc h.1), hn, data_length]
      refine Ev.step (fun k => ?_) (Ev.now _)
      rw [chinoiserieref04_Line.j1, if_pos rfl]
  · unfold lineR
    rw [if_neg (by omega)]
    refine Ev.congr (fun k => ?_) (Ev.now _)
    rw [if_pos (by omega)]
end Go.Proofs.YtbdafijdfpmdiaaDoor.PHead
