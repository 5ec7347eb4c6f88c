/- Plain law: a pattern with *. is for just the hosts that have one part more. -/
import Derived.Test.YtipmnecfbbjahaaDoorPureF
import Derived.Test.YtipmnecfbbjahaaDoorPHostx7
set_option linter.unusedVariables false
set_option linter.unusedSimpArgs false
namespace Go.Proofs.YtipmnecfbbjahaaDoor.PHost
open Go.RowKit Go.Proofs.YtipmnecfbbjahaaDoorW.PrintWords Go.Proofs.YtipmnecfbbjahaaDoorW.PrintLast Go.Proofs.YtipmnecfbbjahaaDoorW.PrintMore

/-- A pattern that stands for hosts of one part more. -/
def wildS (s : ByteArray) : ByteArray := (⟨#[42, 46]⟩ : ByteArray) ++ s
theorem wild_data (s : ByteArray) : (wildS s).data.toList = [42, 46] ++ s.data.toList := by unfold wildS; rw [ByteArray.data_append]; simp
theorem wild_size (s : ByteArray) : (wildS s).size = s.size + 2 := by
  have e2 : (⟨#[42, 46]⟩ : ByteArray).size = 2 := rfl
  unfold wildS; rw [ByteArray.size_append, e2]; omega
theorem wild_pat {s : ByteArray} (h : hostOk s) : patN (wildS s) = 0 := by
  have hz := h.2
  unfold patN
  rw [if_neg (by rw [wild_size]; omega)]
  have e : bare (wildS s) = s := by
    unfold bare
    rw [if_pos (by rw [take_two, wild_data]; simp)]
    apply ba_eq
    rw [ext_data, List.take_of_length_le (by rw [data_length]; exact Nat.le_refl _), wild_data]
    rfl
  rw [e]
  unfold plainN
  rw [if_pos (host_plain h)]
theorem star_no {s : ByteArray} (h : (42 : UInt8) ∈ s.data.toList) : plainN s = 60 := by
  unfold plainN
  rw [if_neg]
  intro hp
  exact (plain_bytes hp 42 h).2.1 rfl
theorem wild_plain (s : ByteArray) : plainN (wildS s) = 60 := star_no (by rw [wild_data]; simp)
theorem wild_match {own h : ByteArray} (ho : hostOk own) (hh : plainB h = true) : matchB (wildS own) h = ((cutB h.data.toList 46).2.2 && decide ((cutB h.data.toList 46).2.1 = own.data.toList)) := by
  have hb := plain_bytes hh
  unfold matchB
  have e0 : plainN h = 0 := by unfold plainN; rw [if_pos hh]
  have e1 : ¬ (wildS own).data.toList = h.data.toList := fun e => (hb 42 (by rw [← e, wild_data]; simp)).2.1 rfl
  rw [wild_pat ho, e0, decide_eq_false e1, wild_data]
  simp only [decide_true, Bool.true_and, Bool.false_or]
  congr 1
  rw [Bool.eq_iff_iff, decide_eq_true_iff, decide_eq_true_iff]
  constructor
  · intro e
    have := List.append_cancel_left e
    exact this.symm
  · intro e; rw [e]
theorem wild_match_no {own h : ByteArray} (hh : ¬ plainB h = true) : matchB (wildS own) h = false := by
  have e0 : plainN h = 60 := by unfold plainN; rw [if_neg hh]
  unfold matchB
  rw [e0]
  simp
theorem own_match {own h : ByteArray} (ho : plainB own = true) (hh : plainB h = true) : matchB own h = (own.toList == h.toList) := by
  have hb := plain_bytes ho
  unfold matchB
  have e0 : plainN h = 0 := by unfold plainN; rw [if_pos hh]
  have e1 : ¬ own.data.toList = [42, 46] ++ (cutB h.data.toList 46).2.1 := fun e => (hb 42 (by rw [e]; simp)).2.1 rfl
  rw [host_pat ho, e0, decide_eq_false e1, toList_eq, toList_eq]
  simp only [decide_true, Bool.true_and, Bool.and_false, Bool.or_false]
  rw [Bool.eq_iff_iff, decide_eq_true_iff, beq_iff_eq]
/-- One part more. -/
def moreS (p own : ByteArray) : ByteArray := (p ++ (⟨#[46]⟩ : ByteArray)) ++ own
theorem more_data (p own : ByteArray) : (moreS p own).data.toList = p.data.toList ++ 46 :: own.data.toList := by
  unfold moreS; rw [ByteArray.data_append, ByteArray.data_append]; simp
theorem more_size (p own : ByteArray) : (moreS p own).size = p.size + 1 + own.size := by
  have e1 : (⟨#[46]⟩ : ByteArray).size = 1 := rfl
  unfold moreS; rw [ByteArray.size_append, ByteArray.size_append, e1]
theorem more_plain {p own : ByteArray} (hp : p ∈ partsL) (ho : hostOk own) : plainB (moreS p own) = decide ((moreS p own).size ≤ 60) := by
  obtain ⟨h1, h2, h3⟩ := partsL_ok p hp
  rw [plain_ref, more_data, ref_ahead _ _ h2, h1, ho.1]
  rfl
theorem more_match {p own : ByteArray} (hp : p ∈ partsL) (ho : hostOk own) : matchB (wildS own) (moreS p own) = decide ((moreS p own).size ≤ 60) := by
  have hm := more_plain hp ho
  by_cases h : (moreS p own).size ≤ 60
  · rw [decide_eq_true h] at hm ⊢
    rw [wild_match ho hm, more_data, cut_first _ _ (partsL_ok p hp).2.1]
    simp
  · rw [decide_eq_false h] at hm ⊢
    exact wild_match_no (by rw [hm]; simp)
theorem z_match {p own : ByteArray} (ho : hostOk own) : matchB (wildS own) ((⟨#[122, 46]⟩ : ByteArray) ++ moreS p own) = false := by
  by_cases hh : plainB ((⟨#[122, 46]⟩ : ByteArray) ++ moreS p own) = true
  · rw [wild_match ho hh]
    have e : ((⟨#[122, 46]⟩ : ByteArray) ++ moreS p own).data.toList = [122] ++ 46 :: (moreS p own).data.toList := by rw [ByteArray.data_append]; simp
    rw [e, cut_first _ _ (by decide), decide_eq_false]
    · rfl
    · intro hc
      have := congrArg List.length hc
      rw [data_length, data_length, more_size] at this
      omega
  · exact wild_match_no hh
theorem self_match {own : ByteArray} (ho : hostOk own) : matchB (wildS own) own = false := by
  rw [wild_match ho (host_plain ho)]
  cases hc : (cutB own.data.toList 46).2.2 with
  | false => rfl
  | true =>
    rw [Bool.true_and, decide_eq_false]
    intro e
    have hy := congrArg List.length (cutB_yes _ _ hc)
    rw [e, List.length_append, List.length_cons] at hy
    omega
theorem wildj_ev (own other longer : ByteArray) (ho : hostOk own) (hh : hostOk other) (p : ByteArray) (hp : p ∈ partsL) (hl : longer = moreS p own) (tail : Bool) (ht : tail = ((cutB other.data.toList 46).2.2 && decide ((cutB other.data.toList 46).2.1 = own.data.toList))) :
    Ev (fun k => chinoiserielaw06_HostWild.j2 k own other (wildS own) longer tail) true := by
  have h1 := ho.2
  have h2 := hh.2
  have h3 := (partsL_ok p hp).2.2
  have hz := wild_size own
  have hlz : longer.size = p.size + 1 + own.size := by rw [hl, more_size]
  have e2 : (⟨#[122, 46]⟩ : ByteArray).size = 2 := rfl
  have hz2 : ((⟨#[122, 46]⟩ : ByteArray) ++ longer).size ≤ 140737488351232 := by rw [ByteArray.size_append, e2]; omega
  have hd : (decide ((longer.size : Int) ≤ 60)) = decide (longer.size ≤ 60) := by
    by_cases h : longer.size ≤ 60
    · rw [decide_eq_true h, decide_eq_true (by omega)]
    · rw [decide_eq_false h, decide_eq_false (by omega)]
  refine Ev.step (f := fun k => (chinoiserielaw06_works.f k).bind fun t226 => (some t226)) (fun k => ?_) (Ev.bind works_ev (Ev.now _))
  rw [chinoiserielaw06_HostWild.j2, match_f _ longer (by omega) (by omega), Option.bind_some, hd, if_pos (by rw [hl, more_match hp ho]; simp), match_f _ other (by omega) (by omega), Option.bind_some, if_pos (by rw [wild_match ho (host_plain hh), ht]; simp), match_f _ own (by omega) (by omega), Option.bind_some, self_match ho, if_neg (by simp), if_pos (by omega), match_f _ _ (by omega) hz2, Option.bind_some, hl, z_match ho, if_neg (by simp), match_f own other (by omega) (by omega), Option.bind_some, own_match (host_plain ho) (host_plain hh), if_pos (by simp)]
theorem wildl_ev (own other longer : ByteArray) (ho : hostOk own) (hh : hostOk other) (p : ByteArray) (hp : p ∈ partsL) (hl : longer = moreS p own) : ∀ (n i : Nat), i + n = other.size → (cutB other.data.toList 46).2 = (cutB (other.data.toList.drop i) 46).2 →
    Ev (fun k => chinoiserielaw06_HostWild.l0 k own other (wildS own) longer false (i : Int)) true := by
  have h2 := hh.2
  intro n
  induction n with
  | zero =>
    intro i hi hc
    refine Ev.step (fun k => ?_) (wildj_ev own other longer ho hh p hp hl false ?_)
    · rw [chinoiserielaw06_HostWild.l0, if_neg (by omega)]
    · rw [hc, List.drop_eq_nil_of_le (by rw [data_length]; omega)]
      rfl
  | succ n ih =>
    intro i hi hc
    have hlt : i < other.data.toList.length := by rw [data_length]; omega
    have t0 : ((other.data.toList[i]).toNat : Int) = 46 ↔ other.data.toList[i] = 46 := toNat_eq (n := 46) (by omega)
    rw [List.drop_eq_getElem_cons hlt, cutB] at hc
    by_cases hb : other.data.toList[i] = 46
    · rw [if_pos hb] at hc
      refine Ev.step (fun k => ?_) (wildj_ev own other longer ho hh p hp hl (decide (other.data.toList.drop (i + 1) = own.data.toList)) ?_)
      · rw [chinoiserielaw06_HostWild.l0, if_pos (by omega), if_pos (by omega), bt_nat other i hlt, if_pos (t0.2 hb), up1 i (by omega), if_pos (by omega), if_pos (by omega)]
        congr 1
        rw [toList_eq, toList_eq, Int.toNat_natCast, ext_data, List.take_of_length_le (by rw [data_length]; exact Nat.le_refl _), Bool.eq_iff_iff, beq_iff_eq, decide_eq_true_iff]
      · rw [hc, Bool.true_and]
    · rw [if_neg hb] at hc
      refine Ev.step (fun k => ?_) (ih (i + 1) (by omega) hc)
      rw [chinoiserielaw06_HostWild.l0, if_pos (by omega), if_pos (by omega), bt_nat other i hlt, if_neg (fun e => hb (t0.1 e)), up1 i (by omega)]
theorem wild_ev (l m : List Int) (c : Int) : Ev (fun k => chinoiserielaw06_HostWild.f k l m c) true := by
  obtain ⟨own, ho, hv⟩ := plainF_ev l
  obtain ⟨other, hh, hw⟩ := plainF_ev m
  obtain ⟨p, hpf, hp⟩ := part_f c
  have h1 := ho.2
  have h3 := (partsL_ok p hp).2.2
  have e1 : (⟨#[46]⟩ : ByteArray).size = 1 := rfl
  have hz := wild_size own
  have hzI : ¬ ((wildS own).size : Int) > 60 := by omega
  unfold chinoiserielaw06_HostWild.f
  refine Ev.bind hv (Ev.bind hw ?_)
  rw [show (⟨#[42, 46]⟩ : ByteArray) ++ own = wildS own from rfl, pattern_f _ (by omega), plain_f _ (by omega), wild_pat ho, wild_plain]
  have c0 : (2 + own.size ≤ 9223372036854775807) = True := eq_true (by omega)
  simp only [c0, hzI, if_true, if_false, Option.bind_some, bne_self_eq_false]
  refine Ev.step (fun k => ?_) (wildl_ev own other (moreS p own) ho hh p hp rfl other.size 0 (by omega) (by rw [List.drop_zero]))
  rw [chinoiserielaw06_HostWild.j0, if_neg (by simp), hpf, Option.bind_some, if_pos (by omega), if_pos (by rw [ByteArray.size_append, e1]; omega)]
  rfl
end Go.Proofs.YtipmnecfbbjahaaDoor.PHost
