/- Plain law: what was set is got, alone, and is the last one; all others stay. -/
import Derived.Test.YtbdafijdfpmdiaaDoorPureF
import Derived.Test.YtbdafijdfpmdiaaDoorPHeadx13
set_option linter.unusedVariables false
set_option linter.unusedSimpArgs false
namespace Go.Proofs.YtbdafijdfpmdiaaDoor.PHead
open Go.RowKit Go.Proofs.YtbdafijdfpmdiaaDoorW.PrintWords Go.Proofs.YtbdafijdfpmdiaaDoorW.PrintLast Go.Proofs.YtbdafijdfpmdiaaDoorW.PrintMore

theorem same_it (l : List S28) (h : l.length ≤ 4000) : Ev (fun k => head_Same.f k l l) true := by
  have := headSame_ev l l (by omega)
  rwa [sameL_refl] at this
theorem get_dropped (l : List S28) (a : ByteArray) : getH (dropR l a) a = [] := by
  unfold getH dropR
  rw [List.filter_filter, List.filter_eq_nil_iff]
  intro h _
  simp
theorem alk_self {a : ByteArray} (h : isNam a = true) : alk a a = true := by unfold alk; simp [h]
theorem others_end (l : List S28) (hl : fineOk l) (a v : ByteArray) (ha : a.size ≤ 250) (hv : v.size ≤ 250) (b : Bool) (hb : b = (isNam a && isVal v)) (n : Int) (hn : ¬ n < (l.length : Int)) :
    Ev (fun k => chinoiserielaw04_HeadOthers.l0 k l a v b (dropR l a) n) true := by
  have hok := fine_okL hl
  have hd : okL (dropR l a) := hok.filter _
  have hdl : (dropR l a).length ≤ 12 := Nat.le_trans (List.length_filter_le _ _) hl.1
  have hw : Ev (fun k => (chinoiserielaw04_works.f k).bind fun t => (some t)) true := Ev.bind works_ev (Ev.now _)
  refine Ev.step (f := fun k => (head_Same.f k (dropR l a) (dropR l a)).bind fun t397 => (if t397 = true then ((head_Get.f (dropR l a) a).bind fun bt398 => (if bt398.2 = 0 then ((head_Set.f l a v).bind fun bt400 => (if b = true then ((head_Get.f bt400.1 a).bind fun bt404 => (if bt400.2 = 0 then (if bt404.1.toList = v.toList then (if bt404.2 = 1 then (if (dropR l a).length < 4398046511104 then ((head_Same.f k bt400.1 ((dropR l a) ++ [(⟨a, v⟩ : S28)])).bind fun t409 => (if t409 = true then ((chinoiserielaw04_works.f k).bind fun t410 => (some t410)) else (some false))) else (none)) else (some false)) else (some false)) else (some false))) else (if bt400.2 = 40 then (if (bt400.1.length : Int) = 0 then ((chinoiserielaw04_works.f k).bind fun t411 => (some t411)) else (some false)) else (some false)))) else (some false))) else (some false))) (fun k => ?_) ?_
  · rw [chinoiserielaw04_HeadOthers.l0, if_neg hn, drop_f l hok, Option.bind_some]
  · refine Ev.bind (same_it _ hd.1) ?_
    have eg : getR (dropR l a) a = (⟨#[]⟩, 0) := by unfold getR; rw [get_dropped]; rfl
    rw [get_f _ hd, eg, set_f l hok]
    simp only [if_true, Option.bind_some]
    by_cases hm : isNam a = true ∧ isVal v = true
    · have hbt : b = true := by rw [hb]; simp [hm.1, hm.2]
      have hset : setR l a v = (dropR l a ++ [⟨a, v⟩], 0) := by
        unfold setR
        rw [if_pos hm, if_neg (by simp; omega)]
      have hok2 : okL (dropR l a ++ [⟨a, v⟩]) := by
        refine ⟨by simp; omega, fun h hh => ?_⟩
        rcases List.mem_append.mp hh with h1 | h1
        · exact hd.2 h h1
        · rw [List.mem_singleton.mp h1]
          exact ⟨by show a.size ≤ 1000; omega, by show v.size ≤ 1000; omega⟩
      have hget : getR (dropR l a ++ [⟨a, v⟩]) a = (v, 1) := by
        have : getH (dropR l a ++ [⟨a, v⟩]) a = [⟨a, v⟩] := by
          have e := get_dropped l a
          unfold getH at e ⊢
          rw [List.filter_append, e]
          simp [alk_self hm.1]
        unfold getR; rw [this]; rfl
      rw [hset]
      simp only [hbt, if_true]
      rw [get_f _ hok2, hget]
      simp only [Option.bind_some, if_true]
      refine Ev.congr (f := fun k => (head_Same.f k (dropR l a ++ [⟨a, v⟩]) ((dropR l a) ++ [(⟨a, v⟩ : S28)])).bind fun t409 => (if t409 = true then ((chinoiserielaw04_works.f k).bind fun t410 => (some t410)) else (some false))) (fun k => by rw [if_pos (by omega)]) ?_
      refine Ev.bind (same_it _ hok2.1) ?_
      simp only [if_true]
      exact hw
    · have hbf : b = false := by
        rw [hb]
        by_cases g : isNam a = true
        · have g2 : ¬ isVal v = true := fun e => hm ⟨g, e⟩
          simp [g, g2]
        · simp [g]
      have hset : setR l a v = ([], 40) := by unfold setR; rw [if_neg hm]
      rw [hset]
      simp only [hbf, Bool.false_eq_true, if_false, if_true, List.length_nil]
      exact hw
theorem others_ev0 (l : List S28) (hl : fineOk l) (a v : ByteArray) (ha : a.size ≤ 250) (hv : v.size ≤ 250) (b : Bool) (hb : b = (isNam a && isVal v)) : ∀ (n i : Nat), i + n = l.length →
    Ev (fun k => chinoiserielaw04_HeadOthers.l0 k l a v b (dropR (l.take i) a) (i : Int)) true := by
  have hok := fine_okL hl
  have h12 := hl.1
  intro n
  induction n with
  | zero =>
    intro i hi
    rw [List.take_of_length_le (by omega)]
    exact others_end l hl a v ha hv b hb _ (by omega)
  | succ n ih =>
    intro i hi
    have hlt : i < l.length := by omega
    have hh := ih (i + 1) (by omega)
    have ht : l.take (i + 1) = l.take i ++ [l[i]] := List.take_succ_eq_append_getElem hlt
    refine Ev.step (f := fun k => chinoiserielaw04_HeadOthers.l0 k l a v b (dropR (l.take (i + 1)) a) ((i + 1 : Nat) : Int)) (fun k => ?_) hh
    have hacc : (dropR (l.take i) a).length ≤ 12 := Nat.le_trans (List.length_filter_le _ _) (by rw [List.length_take]; omega)
    rw [chinoiserielaw04_HeadOthers.l0, if_pos (by omega), if_pos (by omega), rd_nat l i hlt, alike_f, Option.bind_some, up1 i (by omega), ht]
    unfold dropR at hacc ⊢
    rw [List.filter_append]
    by_cases g : alk (l[i]).f0 a = true
    · rw [if_pos g]
      simp [g]
    · rw [if_neg g, if_pos (by omega)]
      simp [g]
theorem others_ev (l : List S28) (a v : ByteArray) (hz : l.length ≤ 9223372036854775807) : Ev (fun k => chinoiserielaw04_HeadOthers.f k l a v) true := by
  obtain ⟨r, hr, hv⟩ := fineF_ev l hz
  unfold chinoiserielaw04_HeadOthers.f
  refine Ev.bind hv ?_
  rw [short_f, short_f]
  simp only [Option.bind_some, check_f]
  refine others_ev0 r hr (shortB a) (shortB v) (shortB_size a) (shortB_size v) _ ?_ r.length 0 (by omega)
  rw [check_one]
  unfold mayH
  by_cases h : (isNam (shortB a) && isVal (shortB v)) = true
  · rw [if_pos h, h]; rfl
  · rw [if_neg h]; simp only [Bool.not_eq_true] at h; rw [h]; rfl
end Go.Proofs.YtbdafijdfpmdiaaDoor.PHead
