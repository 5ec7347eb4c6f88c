/- Plain laws: Norm, Write, Pattern, Match, and the chapter's examples. -/
import Derived.Test.YtipmnecfbbjahaaDoorPureB
import Derived.Test.YtipmnecfbbjahaaDoorExtF
set_option linter.unusedVariables false
set_option linter.unusedSimpArgs false
namespace Go.Proofs.YtipmnecfbbjahaaDoor.PHost
open Go.RowKit Go.Proofs.YtipmnecfbbjahaaDoorW.PrintWords Go.Proofs.YtipmnecfbbjahaaDoorW.PrintLast Go.Proofs.YtipmnecfbbjahaaDoorW.PrintMore

theorem norm_f (s : ByteArray) (h : s.size ≤ 140737488351232) : host_Norm.f s = some (normR s) := by unfold host_Norm.f; rw [if_pos h]
theorem small_f (b : UInt8) : chinoiserieref06_small.f (b.toNat : Int) = some ((lowB b).toNat : Int) := by
  have hb := UInt8.toNat_lt b
  unfold chinoiserieref06_small.f
  by_cases h1 : b.toNat ≥ 65
  · rw [if_pos (by omega)]
    by_cases h2 : b.toNat ≤ 90
    · rw [if_pos (by omega), lowB_up b (by omega) (by omega)]
      congr 1
      omega
    · rw [if_neg (by omega), lowB_no b (by omega)]
  · rw [if_neg (by omega), lowB_no b (by omega)]
theorem cutB_no (l : List UInt8) (c : UInt8) (h : (cutB l c).2.2 = false) : (cutB l c).1 = l := by
  induction l with
  | nil => rfl
  | cons x l ih =>
    unfold cutB at h ⊢
    by_cases hx : x = c
    · rw [if_pos hx] at h; cases h
    · rw [if_neg hx] at h ⊢
      simp only
      rw [ih h]
theorem cutB_yes (l : List UInt8) (c : UInt8) (h : (cutB l c).2.2 = true) : l = (cutB l c).1 ++ c :: (cutB l c).2.1 := by
  induction l with
  | nil => simp [cutB] at h
  | cons x l ih =>
    unfold cutB at h ⊢
    by_cases hx : x = c
    · rw [if_pos hx] at h ⊢; simp [hx]
    · rw [if_neg hx] at h ⊢
      simp only [List.cons_append]
      rw [← ih h]
/-- What Norm answers of what lies ahead of the colon, and the port. -/
def normA (n : List UInt8) (p : Int) : ByteArray × Int × Int := if p ≠ 0 ∧ plainB ⟨(n.map lowB).toArray⟩ = true then (⟨(n.map lowB).toArray⟩, p, 0) else (⟨#[]⟩, 0, 60)
theorem normA_pos {n : List UInt8} {p : Int} (h : p ≠ 0) (hb : plainB ⟨(n.map lowB).toArray⟩ = true) : normA n p = (⟨(n.map lowB).toArray⟩, p, 0) := by unfold normA; rw [if_pos ⟨h, hb⟩]
theorem normA_neg {n : List UInt8} {p : Int} (h : ¬ (p ≠ 0 ∧ plainB ⟨(n.map lowB).toArray⟩ = true)) : normA n p = (⟨#[]⟩, 0, 60) := by unfold normA; rw [if_neg h]
theorem normR_eq (s : ByteArray) : normR s = normA (cutB s.data.toList 58).1 (normPort (cutB s.data.toList 58)) := rfl
theorem norml1_ev (s : ByteArray) (hs : s.size ≤ 1000) (p : Nat) (hp : p ≤ s.size) (port : Int) : ∀ (n i : Nat), i + n = p →
    Ev (fun k => chinoiserieref06_Norm.l1 k s (p : Int) port (numsB ((s.data.toList.take i).map lowB)) (i : Int)) (normA (s.data.toList.take p) port) := by
  intro n
  induction n with
  | zero =>
    intro i hi
    have : i = p := by omega
    subst this
    have est : strOfNums (numsB ((s.data.toList.take i).map lowB)) = ⟨((s.data.toList.take i).map lowB).toArray⟩ := strOf_numsB _
    by_cases h0 : port = 0
    · rw [normA_neg (fun h => h.1 h0)]
      refine Ev.step (fun k => ?_) (Ev.now _)
      rw [chinoiserieref06_Norm.l1, if_neg (by omega), if_pos h0]
    · refine Ev.step (f := fun k => (chinoiserieref06_Plain.f k ⟨((s.data.toList.take i).map lowB).toArray⟩).bind fun t107 => (if t107 = 0 then (some ((⟨((s.data.toList.take i).map lowB).toArray⟩ : ByteArray), port, 0)) else (some ((⟨#[]⟩ : ByteArray), 0, 60)))) (fun k => by
        rw [chinoiserieref06_Norm.l1, if_neg (by omega), if_neg h0, est]) ?_
      refine Ev.bind (refPlain_ev _) ?_
      unfold plainN
      by_cases hb : plainB ⟨((s.data.toList.take i).map lowB).toArray⟩ = true
      · rw [normA_pos h0 hb]
        simp only [hb, if_true]
        exact Ev.now _
      · rw [normA_neg (fun h => hb h.2)]
        simp only [hb, if_false]
        exact Ev.now _
  | succ n ih =>
    intro i hi
    have hlt : i < s.data.toList.length := by rw [data_length]; omega
    have hh := ih (i + 1) (by omega)
    rw [List.take_succ_eq_append_getElem hlt, List.map_append] at hh
    refine Ev.step (fun k => ?_) hh
    have hlen : (numsB ((s.data.toList.take i).map lowB)).length < 140737488355328 := by rw [numsB_length, List.length_map, List.length_take]; omega
    rw [chinoiserieref06_Norm.l1, if_pos (by omega), if_pos (by omega), if_pos (by omega), bt_nat s i hlt, small_f, Option.bind_some, if_pos hlen, up1 i (by omega), nums_snoc]
    rfl
theorem norml0_ev (s : ByteArray) (hs : s.size ≤ 1000) (r : ByteArray × Int × Int) : ∀ (n i : Nat), i + n = s.size →
    Ev (fun k => chinoiserieref06_Norm.j1 k s ((i + (cutB (s.data.toList.drop i) 58).1.length : Nat) : Int)) r → Ev (fun k => chinoiserieref06_Norm.l0 k s (i : Int)) r := by
  intro n
  induction n with
  | zero =>
    intro i hi h
    rw [List.drop_eq_nil_of_le (by rw [data_length]; omega)] at h
    refine Ev.step (fun k => ?_) h
    rw [chinoiserieref06_Norm.l0, if_neg (by omega)]
    rfl
  | succ n ih =>
    intro i hi h
    have hlt : i < s.data.toList.length := by rw [data_length]; omega
    rw [List.drop_eq_getElem_cons hlt, cutB] at h
    have t0 : ((s.data.toList[i]).toNat : Int) = 58 ↔ s.data.toList[i] = 58 := toNat_eq (n := 58) (by omega)
    by_cases hb : s.data.toList[i] = 58
    · rw [if_pos hb] at h
      refine Ev.step (fun k => ?_) h
      rw [chinoiserieref06_Norm.l0, if_pos (by omega), if_pos (by omega), bt_nat s i hlt, if_pos (t0.2 hb)]
      rfl
    · rw [if_neg hb] at h
      refine Ev.step (fun k => ?_) (ih (i + 1) (by omega) (by
        rw [List.length_cons] at h
        rw [show i + 1 + (cutB (s.data.toList.drop (i + 1)) 58).1.length = i + ((cutB (s.data.toList.drop (i + 1)) 58).1.length + 1) by omega]
        exact h))
      rw [chinoiserieref06_Norm.l0, if_pos (by omega), if_pos (by omega), bt_nat s i hlt, if_neg (fun e => hb (t0.1 e)), up1 i (by omega)]
theorem refNorm_ev (s : ByteArray) (hs : s.size ≤ 1000) : Ev (fun k => chinoiserieref06_Norm.f k s) (normR s) := by
  rw [normR_eq]
  refine norml0_ev s hs _ s.size 0 (by omega) ?_
  rw [List.drop_zero, Nat.zero_add]
  by_cases hc : (cutB s.data.toList 58).2.2 = true
  · have hy := cutB_yes _ _ hc
    have hlen : (cutB s.data.toList 58).1.length + 1 + (cutB s.data.toList 58).2.1.length = s.size := by
      have := congrArg List.length hy
      rw [data_length, List.length_append, List.length_cons] at this
      omega
    have hnp : normPort (cutB s.data.toList 58) = portB (cutB s.data.toList 58).2.1 := by unfold normPort; rw [if_pos hc]
    rw [hnp]
    generalize cutB s.data.toList 58 = c at *
    obtain ⟨c1, c2, c3⟩ := c
    simp only at *
    have hd : s.data.toList.drop (c1.length + 1) = c2 := by rw [hy]; simp
    have ht : s.data.toList.take c1.length = c1 := by rw [hy]; simp
    have hx : (s.extract (c1.length + 1) s.size).data.toList = c2 := by rw [ext_data, List.take_of_length_le (by rw [data_length]; exact Nat.le_refl _), hd]
    have hpz : (s.extract (c1.length + 1) s.size).size ≤ 1000 := by rw [ByteArray.size_extract]; omega
    have hp := refPort_ev _ hpz
    rw [hx] at hp
    refine Ev.step (f := fun k => (chinoiserieref06_port.f k (s.extract (c1.length + 1) s.size)).bind fun t102 => (chinoiserieref06_Norm.j2 k s (c1.length : Int) t102)) (fun k => by
      rw [chinoiserieref06_Norm.j1, if_pos (by omega), up1 _ (by omega), if_pos (by omega), if_pos (by omega), Int.toNat_natCast]) ?_
    refine Ev.bind hp ?_
    have := norml1_ev s hs c1.length (by omega) (portB c2) c1.length 0 (by omega)
    rw [ht] at this
    exact Ev.step (fun k => by rw [chinoiserieref06_Norm.j2]; rfl) this
  · have hn := cutB_no s.data.toList 58 (by simpa using hc)
    have hnp : normPort (cutB s.data.toList 58) = 80 := by unfold normPort; rw [if_neg hc]
    rw [hnp, hn, data_length]
    have := norml1_ev s hs s.size (Nat.le_refl _) 80 s.size 0 (by omega)
    rw [show s.data.toList.take s.size = s.data.toList from List.take_of_length_le (by rw [data_length]; exact Nat.le_refl _)] at this
    refine Ev.step (f := fun k => chinoiserieref06_Norm.j2 k s (s.size : Int) 80) (fun k => by rw [chinoiserieref06_Norm.j1, if_neg (by omega)]) ?_
    exact Ev.step (fun k => by rw [chinoiserieref06_Norm.j2]; rfl) this

/-- A pattern without its star. -/
def bare (s : ByteArray) : ByteArray := if (⟨#[42, 46]⟩ : ByteArray).data.toList.isPrefixOf s.data.toList = true then s.extract 2 s.size else s
def patN (s : ByteArray) : Int := if s.size > 60 then 60 else plainN (bare s)
theorem pattern_f (s : ByteArray) (hs : s.size ≤ 140737488351232) : host_Pattern.f s = some (patN s) := by
  unfold host_Pattern.f patN
  by_cases h : s.size > 60
  · rw [if_pos (by omega), if_pos h]
  · rw [if_neg (by omega), if_neg h]
    have e : strings_TrimPrefix.f s ⟨#[42, 46]⟩ = some (bare s) := by
      unfold strings_TrimPrefix.f bare
      rw [if_pos (⟨hs, by decide⟩ : _ ∧ _)]
      rfl
    have hb : (bare s).size ≤ 140737488351232 := by
      unfold bare
      split
      · rw [ByteArray.size_extract]; omega
      · exact hs
    rw [e, Option.bind_some, plain_f _ hb, Option.bind_some]
theorem take_two (l : List UInt8) : ([42, 46] : List UInt8).isPrefixOf l = (l.take 2 == [42, 46]) := by
  match l with
  | [] => rfl
  | [a] => simp [List.isPrefixOf]
  | a :: b :: l =>
    simp only [List.isPrefixOf, List.take_succ_cons, List.take_zero, Bool.and_true]
    rw [Bool.eq_iff_iff]
    simp only [Bool.and_eq_true, beq_iff_eq, List.cons.injEq, and_true]
    exact ⟨fun h => ⟨h.1.symm, h.2.symm⟩, fun h => ⟨h.1.symm, h.2.symm⟩⟩
theorem refPattern_ev (s : ByteArray) : Ev (fun k => chinoiserieref06_Pattern.f k s) (patN s) := by
  unfold chinoiserieref06_Pattern.f patN
  by_cases h : s.size > 60
  · rw [if_pos h]
    exact Ev.congr (fun k => by rw [if_pos (by omega)]) (Ev.now _)
  · rw [if_neg h]
    have hfalse : Ev (fun k => chinoiserieref06_Pattern.j0 k s false) (plainN s) :=
      Ev.step (f := fun k => (chinoiserieref06_Plain.f k s).bind fun t111 => (some t111)) (fun k => by rw [chinoiserieref06_Pattern.j0, if_neg (by simp)]) (Ev.bind (refPlain_ev s) (Ev.now _))
    by_cases h2 : s.size > 2
    · have e2 : ((s.extract 0 2).toList == ([42, 46] : List UInt8)) = (⟨#[42, 46]⟩ : ByteArray).data.toList.isPrefixOf s.data.toList := by
        rw [toList_eq, ext_data, List.drop_zero]
        exact (take_two _).symm
      refine Ev.congr (f := fun k => chinoiserieref06_Pattern.j0 k s ((⟨#[42, 46]⟩ : ByteArray).data.toList.isPrefixOf s.data.toList)) (fun k => by rw [if_neg (by omega), if_pos (by omega), if_pos (by omega), if_pos (by omega), e2]) ?_
      unfold bare
      cases (⟨#[42, 46]⟩ : ByteArray).data.toList.isPrefixOf s.data.toList with
      | true =>
        simp only [if_true]
        exact Ev.step (f := fun k => (chinoiserieref06_Plain.f k (s.extract 2 s.size)).bind fun t110 => (some t110)) (fun k => by rw [chinoiserieref06_Pattern.j0, if_pos rfl, if_pos (by omega)]) (Ev.bind (refPlain_ev _) (Ev.now _))
      | false => simp only [Bool.false_eq_true, if_false]; exact hfalse
    · refine Ev.congr (f := fun k => chinoiserieref06_Pattern.j0 k s false) (fun k => by rw [if_neg (by omega), if_neg (by omega)]) ?_
      have eb : plainN (bare s) = plainN s := by
        unfold bare
        split
        · rename_i hp
          rw [take_two, beq_iff_eq] at hp
          have hl : s.data.toList.length ≤ 2 := by rw [data_length]; omega
          rw [List.take_of_length_le hl] at hp
          have es : s = ⟨#[42, 46]⟩ := ba_eq hp
          subst es
          rfl
        · rfl
      rw [eb]
      exact hfalse

/-- Is a pattern for a host? -/
def matchB (p h : ByteArray) : Bool :=
  decide (patN p = 0) && decide (plainN h = 0) && (decide (p.data.toList = h.data.toList) || ((cutB h.data.toList 46).2.2 && decide (p.data.toList = [42, 46] ++ (cutB h.data.toList 46).2.1)))
theorem cut_dot (h : ByteArray) (hs : h.size ≤ 140737488351232) : strings_Cut.f h ⟨#[46]⟩ = some (⟨(cutB h.data.toList 46).1.toArray⟩, ⟨(cutB h.data.toList 46).2.1.toArray⟩, (cutB h.data.toList 46).2.2) := by
  unfold strings_Cut.f
  rw [if_pos ⟨rfl, hs⟩]; rfl
theorem match_f (p h : ByteArray) (hp : p.size ≤ 140737488351232) (hs : h.size ≤ 140737488351232) : host_Match.f p h = some (matchB p h) := by
  unfold host_Match.f matchB
  rw [pattern_f p hp, Option.bind_some]
  by_cases h1 : patN p = 0
  · rw [if_pos h1, plain_f h hs, Option.bind_some, decide_eq_true h1]
    by_cases h2 : plainN h = 0
    · rw [if_pos h2, cut_dot h hs, Option.bind_some, decide_eq_true h2]
      simp only [toList_eq]
      by_cases h3 : p.data.toList = h.data.toList
      · rw [if_pos h3, decide_eq_true h3]; rfl
      · rw [if_neg h3, decide_eq_false h3]
        have hl := cutB_len2 h.data.toList 46
        rw [data_length] at hl
        cases (cutB h.data.toList 46).2.2 with
        | false => rfl
        | true =>
          have hz : (⟨(cutB h.data.toList 46).2.1.toArray⟩ : ByteArray).size = (cutB h.data.toList 46).2.1.length := mk_size _
          rw [if_pos rfl, hz, if_pos (by omega), ByteArray.data_append]
          simp
          rw [Bool.eq_iff_iff]
          simp
    · rw [if_neg h2, decide_eq_false h2]; simp
  · rw [if_neg h1, decide_eq_false h1]; rfl
theorem matchl_ev (p h : ByteArray) (hs : h.size ≤ 60) : ∀ (n i : Nat), i + n = h.size →
    Ev (fun k => chinoiserieref06_Match.l0 k p h (i : Int)) (decide (p.data.toList = h.data.toList) || ((cutB (h.data.toList.drop i) 46).2.2 && decide (p.data.toList = [42, 46] ++ (cutB (h.data.toList.drop i) 46).2.1))) := by
  intro n
  induction n with
  | zero =>
    intro i hi
    rw [List.drop_eq_nil_of_le (by rw [data_length]; omega)]
    simp only [cutB, Bool.false_and, Bool.or_false]
    refine Ev.step (fun k => ?_) (Ev.now _)
    rw [chinoiserieref06_Match.l0, if_neg (by omega), toList_eq, toList_eq]
    by_cases g : p.data.toList = h.data.toList
    · rw [if_pos g, decide_eq_true g]
    · rw [if_neg g, decide_eq_false g]
  | succ n ih =>
    intro i hi
    have hlt : i < h.data.toList.length := by rw [data_length]; omega
    have hh := ih (i + 1) (by omega)
    have t0 : ((h.data.toList[i]).toNat : Int) = 46 ↔ h.data.toList[i] = 46 := toNat_eq (n := 46) (by omega)
    by_cases hb : h.data.toList[i] = 46
    · rw [List.drop_eq_getElem_cons hlt, cutB, if_pos hb]
      refine Ev.step (fun k => ?_) (Ev.now _)
      rw [chinoiserieref06_Match.l0, if_pos (by omega), if_pos (by omega), bt_nat h i hlt, if_pos (t0.2 hb), toList_eq, toList_eq]
      by_cases g : p.data.toList = h.data.toList
      · rw [if_pos g, decide_eq_true g]; rfl
      · rw [if_neg g, decide_eq_false g, if_pos (by omega), if_pos (by rw [ByteArray.size_extract]; omega), toList_eq, ByteArray.data_append, Array.toList_append, Int.toNat_natCast, ext_data, List.take_of_length_le (by rw [data_length]; exact Nat.le_refl _), List.drop_eq_getElem_cons hlt, hb]
        simp only [Bool.false_or, Bool.true_and, Option.some.injEq]
        rw [Bool.eq_iff_iff, beq_iff_eq, decide_eq_true_iff]
        exact Iff.rfl
    · rw [List.drop_eq_getElem_cons hlt, cutB, if_neg hb]
      refine Ev.step (fun k => ?_) hh
      rw [chinoiserieref06_Match.l0, if_pos (by omega), if_pos (by omega), bt_nat h i hlt, if_neg (fun e => hb (t0.1 e)), up1 i (by omega)]
theorem plain_small {h : ByteArray} (e : plainN h = 0) : h.size ≤ 60 := by
  unfold plainN plainB at e
  by_cases g : h.size ≤ 60
  · exact g
  · rw [decide_eq_false g, Bool.and_false] at e; exact absurd e (by decide)
theorem refMatch_ev (p h : ByteArray) : Ev (fun k => chinoiserieref06_Match.f k p h) (matchB p h) := by
  have hno : Ev (fun k => chinoiserieref06_Match.j0 k p h true) false := Ev.step (fun k => by rw [chinoiserieref06_Match.j0, if_pos rfl]) (Ev.now _)
  unfold chinoiserieref06_Match.f matchB
  refine Ev.bind (refPattern_ev p) ?_
  by_cases h1 : patN p = 0
  · simp only [h1, if_true, decide_true, Bool.true_and]
    refine Ev.bind (refPlain_ev h) ?_
    by_cases h2 : plainN h = 0
    · simp only [h2, decide_true, Bool.true_and, bne_self_eq_false]
      refine Ev.step (fun k => ?_) (matchl_ev p h (plain_small h2) h.size 0 (by omega))
      rw [chinoiserieref06_Match.j0, if_neg (by simp)]
      rfl
    · have : (plainN h != 0) = true := bne_iff_ne.mpr h2
      simp only [this, h2, decide_false, Bool.false_and]
      exact hno
  · simp only [h1, if_false, decide_false, Bool.false_and]
    exact hno

/-- What Write writes. -/
def writeR (h : ByteArray) (p : Int) : ByteArray × Int :=
  if plainB h = true ∧ 1 ≤ p ∧ p ≤ 65535 then (if p = 80 then (h, 0) else ((h ++ (⟨#[58]⟩ : ByteArray)) ++ (⟨(Lib.itoa p).toArray⟩ : ByteArray), 0)) else (⟨#[]⟩, 60)
theorem itoa_len (p : Int) (h0 : 1 ≤ p) (h : p ≤ 65535) : (Lib.itoa p).length ≤ 5 := by
  unfold Lib.itoa
  rw [if_neg (by omega)]
  exact nd_five _ (by omega)
theorem write_ev (h : ByteArray) (p : Int) (hs : h.size ≤ 140737488351232) : Ev (fun k => host_Write.f k h p) (writeR h p) := by
  have hno : ∀ b, b = true → Ev (fun k => host_Write.j0 k h p b) (⟨#[]⟩, 60) := fun b hb => Ev.step (fun k => by rw [host_Write.j0, hb, if_pos rfl]) (Ev.now _)
  unfold host_Write.f writeR
  rw [plain_f h hs]
  simp only [Option.bind_some]
  unfold plainN
  by_cases hb : plainB h = true
  · simp only [hb, if_true, true_and]
    by_cases h1 : p < 1
    · simp only [h1, if_true]
      rw [if_neg (by omega)]
      exact hno _ (by simp)
    · simp only [h1, if_false]
      by_cases h2 : p > 65535
      · rw [if_neg (by omega)]
        exact hno _ (by simp [h2])
      · rw [if_pos ⟨by omega, by omega⟩, decide_eq_false h2]
        have hl := itoa_len p (by omega) (by omega)
        by_cases h80 : p = 80
        · rw [if_pos h80]
          refine Ev.step (fun k => ?_) (Ev.now _)
          rw [host_Write.j0, if_neg (by simp), if_pos h80]
        · rw [if_neg h80]
          refine Ev.step (fun k => ?_) (Ev.now _)
          have ei : strconv_Itoa.f p = some ⟨(Lib.itoa p).toArray⟩ := by unfold strconv_Itoa.f; rw [if_pos ⟨by omega, by omega⟩]
          have e1 : (⟨#[58]⟩ : ByteArray).size = 1 := rfl
          rw [host_Write.j0, if_neg (by simp), if_neg h80, if_pos (by omega), ei, Option.bind_some, if_pos (by rw [ByteArray.size_append, mk_size (Lib.itoa p), e1]; omega)]
  · have e60 : (60 : Int) ≠ 0 := by decide
    simp only [hb, if_false, false_and, e60]
    exact hno _ rfl
theorem refWrite_ev (h : ByteArray) (p : Int) (hs : h.size ≤ 140737488351232) : Ev (fun k => chinoiserieref06_Write.f k h p) (writeR h p) := by
  have hno : Ev (fun k => chinoiserieref06_Write.j0 k h p true) (⟨#[]⟩, 60) := Ev.step (fun k => by rw [chinoiserieref06_Write.j0, if_pos rfl]) (Ev.now _)
  unfold chinoiserieref06_Write.f writeR
  refine Ev.bind (refPlain_ev h) ?_
  unfold plainN
  by_cases hb : plainB h = true
  · simp only [hb, if_true, true_and]
    by_cases h1 : p < 1
    · simp only [h1, if_true]
      rw [if_neg (by omega)]
      exact hno
    · simp only [h1, if_false]
      by_cases h2 : p > 65535
      · rw [if_neg (by omega), decide_eq_true h2]
        exact hno
      · rw [if_pos ⟨by omega, by omega⟩, decide_eq_false h2]
        by_cases h80 : p = 80
        · rw [if_pos h80]
          refine Ev.step (fun k => ?_) (Ev.now _)
          rw [chinoiserieref06_Write.j0, if_neg (by simp), if_pos h80]
        · rw [if_neg h80]
          have hl := itoa_len p (by omega) (by omega)
          have e1 : (⟨#[58]⟩ : ByteArray).size = 1 := rfl
          have hd := refDigits_ev p.toNat (by omega)
          rw [show ((p.toNat : Nat) : Int) = p by omega] at hd
          refine Ev.step (f := fun k => (chinoiserieref01_Digits.f k p).bind fun bt154 => (if h.size + 1 ≤ 9223372036854775807 then (if (h ++ (⟨#[58]⟩ : ByteArray)).size + bt154.1.size ≤ 9223372036854775807 then (some ((h ++ (⟨#[58]⟩ : ByteArray)) ++ bt154.1, 0)) else (none)) else (none))) (fun k => by
            rw [chinoiserieref06_Write.j0, if_neg (by simp), if_neg h80]) (Ev.bind hd ?_)
          refine Ev.congr (fun k => ?_) (Ev.now _)
          rw [if_pos (by omega), if_pos (by rw [ByteArray.size_append, mk_size (Lib.itoa p), e1]; omega)]
  · have e60 : ¬ (60 : Int) = 0 := by decide
    simp only [hb, if_false, false_and, e60]
    exact hno
end Go.Proofs.YtipmnecfbbjahaaDoor.PHost
