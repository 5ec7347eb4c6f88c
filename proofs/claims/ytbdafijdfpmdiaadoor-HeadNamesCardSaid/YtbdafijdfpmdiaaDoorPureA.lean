/- Plain laws of the reference's functions: what the loops over a text answer. -/
import Derived.Test.YtbdafijdfpmdiaaDoorPHeadx3
import Derived.Test.YtbdafijdfpmdiaaDoorExtB
set_option linter.unusedVariables false
set_option linter.unusedSimpArgs false
namespace Go.Proofs.YtbdafijdfpmdiaaDoor.PHead
open Go.RowKit Go.Proofs.YtbdafijdfpmdiaaDoorW.PrintWords Go.Proofs.YtbdafijdfpmdiaaDoorW.PrintLast Go.Proofs.YtbdafijdfpmdiaaDoorW.PrintMore

theorem up1 (n : Nat) (h : n < 9223372036854775807) : wrap64 ((n : Int) + 1) = ((n + 1 : Nat) : Int) := by unfold wrap64; omega
theorem dn1 (n : Nat) (h0 : 1 ≤ n) (h : n < 9223372036854775807) : wrap64 ((n : Int) - 1) = ((n - 1 : Nat) : Int) := by unfold wrap64; omega
theorem bt_nat (s : ByteArray) (i : Nat) (h : i < s.data.toList.length) : bt s (i : Int) = ((s.data.toList[i]).toNat : Int) := by
  have hz : i < s.size := by rw [← data_length]; exact h
  unfold bt
  rw [dif_pos (by simpa using hz)]
  rfl
theorem nums_snoc (l : List UInt8) (b : UInt8) : numsB l ++ [(b.toNat : Int)] = numsB (l ++ [b]) := by simp [numsB]
theorem numsB_length (l : List UInt8) : (numsB l).length = l.length := by simp [numsB]
theorem toList_eq (s : ByteArray) : s.toList = s.data.toList := Lib.toList_data s
theorem ba_eq {s t : ByteArray} (h : s.data.toList = t.data.toList) : s = t := by
  cases s with | mk a => cases t with | mk b => cases a with | mk x => cases b with | mk y => simpa using h
theorem ba_mk (s : ByteArray) : (⟨s.data.toList.toArray⟩ : ByteArray) = s := ba_eq rfl
theorem up_plus (b : UInt8) (h1 : 65 ≤ b.toNat) (h2 : b.toNat ≤ 90) : ((b.toNat : Int) + 32) % 256 = ((lowB b).toNat : Int) := by
  rw [lowB_up b (by omega) (by omega)]; omega

theorem low_ev (s : ByteArray) (hs : s.size ≤ 140737488351232) : ∀ (n i : Nat) (acc : List UInt8), i + n = s.size → acc.length = i →
    Ev (fun k => chinoiserieref04_Lower.l0 k s (numsB acc) (i : Int)) ⟨(acc ++ (s.data.toList.drop i).map lowB).toArray⟩ := by
  intro n
  induction n with
  | zero =>
    intro i acc hi hl
    have hd : s.data.toList.drop i = [] := List.drop_eq_nil_of_le (by rw [data_length]; omega)
    rw [hd]
    refine Ev.step (fun k => ?_) (Ev.now _)
    rw [chinoiserieref04_Lower.l0, if_neg (by omega), strOf_numsB]
    simp
  | succ n ih =>
    intro i acc hi hl
    have hlt : i < s.data.toList.length := by rw [data_length]; omega
    have hh := ih (i + 1) (acc ++ [lowB s.data.toList[i]]) (by omega) (by simp [hl])
    rw [List.drop_eq_getElem_cons hlt]
    rw [List.append_assoc] at hh
    refine Ev.step (fun k => ?_) hh
    have hb := UInt8.toNat_lt s.data.toList[i]
    rw [chinoiserieref04_Lower.l0, if_pos (by omega), if_pos (by omega), bt_nat s i hlt, up1 i (by omega)]
    have hlen : (numsB acc).length < 140737488355328 := by rw [numsB_length]; omega
    by_cases h1 : (s.data.toList[i]).toNat ≥ 65
    · rw [if_pos (by omega)]
      by_cases h2 : (s.data.toList[i]).toNat ≤ 90
      · rw [if_pos (by omega), if_pos hlen, up_plus _ h1 h2, nums_snoc]
      · rw [if_neg (by omega), if_pos hlen, nums_snoc, lowB_no _ (by omega)]
    · rw [if_neg (by omega), if_pos hlen, nums_snoc, lowB_no _ (by omega)]

theorem refLower_ev (s : ByteArray) (hs : s.size ≤ 140737488351232) : Ev (fun k => chinoiserieref04_Lower.f k s) (lowS s) := by
  have := low_ev s hs s.size 0 [] (by omega) rfl
  simpa [chinoiserieref04_Lower.f, lowS, numsB] using this

set_option maxRecDepth 100000 in
theorem named_f (b : UInt8) : chinoiserieref04_named.f (b.toNat : Int) = some (namB b) := by
  have h : ∀ n : Fin 256, chinoiserieref04_named.f (n.1 : Int) = some (namB (UInt8.ofNat n.1)) := by decide
  have := h ⟨b.toNat, UInt8.toNat_lt b⟩
  rw [UInt8.ofNat_toNat] at this
  exact this

theorem isName_ev (s : ByteArray) (hs : s.size ≤ 140737488351232) : ∀ (n i : Nat), i + n = s.size →
    Ev (fun k => chinoiserieref04_IsName.l0 k s (i : Int)) (decide (1 ≤ s.size) && decide (s.size ≤ 30) && (s.data.toList.drop i).all namB) := by
  intro n
  induction n with
  | zero =>
    intro i hi
    have hd : s.data.toList.drop i = [] := List.drop_eq_nil_of_le (by rw [data_length]; omega)
    rw [hd]
    refine Ev.step (fun k => ?_) (Ev.now _)
    rw [chinoiserieref04_IsName.l0, if_neg (by omega)]
    by_cases h1 : s.size ≥ 1
    · rw [if_pos (by omega)]
      by_cases h2 : s.size ≤ 30
      · rw [decide_eq_true (show (s.size : Int) ≤ 30 by omega)]; simp [h1, h2]
      · rw [decide_eq_false (show ¬ (s.size : Int) ≤ 30 by omega)]; simp [h1, h2]
    · rw [if_neg (by omega)]; simp [h1]
  | succ n ih =>
    intro i hi
    have hlt : i < s.data.toList.length := by rw [data_length]; omega
    have hh := ih (i + 1) (by omega)
    rw [List.drop_eq_getElem_cons hlt, List.all_cons]
    by_cases hn : namB s.data.toList[i] = true
    · rw [hn, Bool.true_and]
      refine Ev.step (fun k => ?_) hh
      rw [chinoiserieref04_IsName.l0, if_pos (by omega), if_pos (by omega), bt_nat s i hlt, up1 i (by omega), named_f, Option.bind_some, hn, if_pos rfl]
    · have hn' : namB s.data.toList[i] = false := by simpa using hn
      rw [hn']
      refine Ev.step (fun k => ?_) (Ev.now _)
      rw [chinoiserieref04_IsName.l0, if_pos (by omega), if_pos (by omega), bt_nat s i hlt, named_f, Option.bind_some, hn']
      simp

theorem refIsName_ev (s : ByteArray) (hs : s.size ≤ 140737488351232) : Ev (fun k => chinoiserieref04_IsName.f k s) (isNam s) := by
  have := isName_ev s hs s.size 0 (by omega)
  simpa [chinoiserieref04_IsName.f, isNam] using this

theorem isValue_ev (s : ByteArray) (hs : s.size ≤ 140737488351232) : ∀ (n i : Nat), i + n = s.size →
    Ev (fun k => chinoiserieref04_IsValue.l0 k s (i : Int)) (decide (s.size ≤ 200) && (s.data.toList.drop i).all (fun b => decide (32 ≤ b.toNat ∧ b.toNat ≤ 126)) && (s.data.toList.head? != some 32) && (s.data.toList.getLast? != some 32)) := by
  intro n
  induction n with
  | zero =>
    intro i hi
    have hd : s.data.toList.drop i = [] := List.drop_eq_nil_of_le (by rw [data_length]; omega)
    rw [hd]
    refine Ev.step (fun k => ?_) (Ev.now _)
    rw [chinoiserieref04_IsValue.l0, if_neg (by omega)]
    by_cases h1 : s.size ≤ 200
    · rw [if_pos (by omega), decide_eq_true h1]
      by_cases h0 : s.size = 0
      · have hnil : s.data.toList = [] := List.eq_nil_of_length_eq_zero (by rw [data_length]; exact h0)
        rw [if_pos (by omega), hnil]
        rfl
      · have hl0 : 0 < s.data.toList.length := by rw [data_length]; omega
        have hlz : s.size - 1 < s.data.toList.length := by rw [data_length]; omega
        have e0 : bt s 0 = ((s.data.toList[0]).toNat : Int) := bt_nat s 0 hl0
        rw [if_neg (by omega), if_pos (by omega), e0, dn1 s.size (by omega) (by omega), bt_nat s (s.size - 1) hlz]
        have eh : s.data.toList.head? = some s.data.toList[0] := by rw [List.head?_eq_getElem?, List.getElem?_eq_getElem hl0]
        have el : s.data.toList.getLast? = some s.data.toList[s.size - 1] := by rw [List.getLast?_eq_getElem?, data_length, List.getElem?_eq_getElem hlz]
        rw [eh, el]
        have h32 : ∀ b : UInt8, ((some b != some 32) : Bool) = decide (¬ b.toNat = 32) := by
          intro b
          by_cases hb : b.toNat = 32
          · have : b = 32 := UInt8.toNat_inj.mp (by simpa using hb)
            subst this; rfl
          · have : b ≠ 32 := fun e => hb (by rw [e]; rfl)
            simp [hb, this]
        rw [h32, h32]
        generalize (s.data.toList[0]).toNat = p at *
        generalize (s.data.toList[s.size - 1]).toNat = q at *
        by_cases hh : p = 32
        · rw [if_pos (by omega)]; simp [hh]
        · rw [if_neg (by omega), if_pos (by omega), if_pos (by omega)]
          by_cases hg : q = 32
          · have : (((q : Nat) : Int) != 32) = false := by rw [bne_eq_false_iff_eq]; omega
            rw [this]; simp [hg]
          · have : (((q : Nat) : Int) != 32) = true := by rw [bne_iff_ne]; omega
            rw [this]; simp [hg, hh]
    · rw [if_neg (by omega)]; simp [h1]
  | succ n ih =>
    intro i hi
    have hlt : i < s.data.toList.length := by rw [data_length]; omega
    have hh := ih (i + 1) (by omega)
    rw [List.drop_eq_getElem_cons hlt, List.all_cons]
    by_cases h1 : (s.data.toList[i]).toNat < 32
    · rw [decide_eq_false (show ¬ (32 ≤ (s.data.toList[i]).toNat ∧ (s.data.toList[i]).toNat ≤ 126) by omega)]
      refine Ev.step (fun k => ?_) (Ev.now _)
      rw [chinoiserieref04_IsValue.l0, if_pos (by omega), if_pos (by omega), bt_nat s i hlt, if_pos (by omega)]
      simp
    · by_cases h2 : (s.data.toList[i]).toNat > 126
      · rw [decide_eq_false (show ¬ (32 ≤ (s.data.toList[i]).toNat ∧ (s.data.toList[i]).toNat ≤ 126) by omega)]
        refine Ev.step (fun k => ?_) (Ev.now _)
        rw [chinoiserieref04_IsValue.l0, if_pos (by omega), if_pos (by omega), bt_nat s i hlt, if_neg (by omega), if_pos (by omega)]
        simp
      · rw [decide_eq_true (show (32 ≤ (s.data.toList[i]).toNat ∧ (s.data.toList[i]).toNat ≤ 126) by omega), Bool.true_and]
        refine Ev.step (fun k => ?_) hh
        rw [chinoiserieref04_IsValue.l0, if_pos (by omega), if_pos (by omega), bt_nat s i hlt, if_neg (by omega), if_neg (by omega), up1 i (by omega)]

theorem refIsValue_ev (s : ByteArray) (hs : s.size ≤ 140737488351232) : Ev (fun k => chinoiserieref04_IsValue.f k s) (isVal s) := by
  have := isValue_ev s hs s.size 0 (by omega)
  simpa [chinoiserieref04_IsValue.f, isVal] using this

theorem refAlike_ev (a b : ByteArray) (ha : a.size ≤ 140737488351232) (hb : b.size ≤ 140737488351232) : Ev (fun k => chinoiserieref04_Alike.f k a b) (alk a b) := by
  unfold chinoiserieref04_Alike.f
  refine Ev.bind (refIsName_ev a ha) ?_
  unfold alk
  by_cases h : isNam a = true
  · simp only [h, if_pos, Bool.true_and]
    refine Ev.bind (refIsName_ev b hb) ?_
    by_cases h' : isNam b = true
    · simp only [h', if_pos, Bool.true_and]
      refine Ev.bind (refLower_ev a ha) (Ev.bind (refLower_ev b hb) ?_)
      simp only [toList_eq]
      exact Ev.now _
    · have h2 : isNam b = false := by simpa using h'
      simp only [h2]
      exact Ev.now _
  · have h2 : isNam a = false := by simpa using h
    simp only [h2]
    exact Ev.now _
end Go.Proofs.YtbdafijdfpmdiaaDoor.PHead
