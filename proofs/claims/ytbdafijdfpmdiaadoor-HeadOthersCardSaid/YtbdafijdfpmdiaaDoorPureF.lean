/- Plain laws: what 'fine' leaves: heads that may be, twelve at most. -/
import Derived.Test.YtbdafijdfpmdiaaDoorPureC
import Derived.Test.YtbdafijdfpmdiaaDoorPHeadx12
set_option linter.unusedVariables false
set_option linter.unusedSimpArgs false
namespace Go.Proofs.YtbdafijdfpmdiaaDoor.PHead
open Go.RowKit Go.Proofs.YtbdafijdfpmdiaaDoorW.PrintWords Go.Proofs.YtbdafijdfpmdiaaDoorW.PrintLast Go.Proofs.YtbdafijdfpmdiaaDoorW.PrintMore

/-- Heads that may be, twelve at most. -/
def fineOk (l : List S28) : Prop := l.length ≤ 12 ∧ ∀ h ∈ l, mayH h = true
theorem check_one (h : S28) : checkR [h] = if mayH h = true then 0 else 40 := by
  unfold checkR
  rw [if_neg (by simp)]
  simp
theorem fine_ev (l : List S28) (hz : l.length ≤ 9223372036854775807) : ∀ (n i : Nat) (acc : List S28), i + n = l.length → fineOk acc →
    ∃ r, fineOk r ∧ Ev (fun k => chinoiserielaw04_fine.l0 k l acc (i : Int)) r := by
  have hend : ∀ (i : Nat) (acc : List S28), fineOk acc → (∀ k, chinoiserielaw04_fine.l0 (k + 1) l acc (i : Int) = chinoiserielaw04_fine.j1 k l acc (i : Int) false) → ∃ r, fineOk r ∧ Ev (fun k => chinoiserielaw04_fine.l0 k l acc (i : Int)) r := by
    intro i acc ha h
    refine ⟨acc, ha, Ev.step h (Ev.step (fun k => ?_) (Ev.now _))⟩
    rw [chinoiserielaw04_fine.j1, if_neg (by simp)]
  intro n
  induction n with
  | zero =>
    intro i acc hi ha
    refine hend i acc ha (fun k => ?_)
    rw [chinoiserielaw04_fine.l0, if_neg (by omega)]
  | succ n ih =>
    intro i acc hi ha
    have hlt : i < l.length := by omega
    by_cases hc : acc.length < 12
    · have e : ∀ k, chinoiserielaw04_fine.l0 (k + 1) l acc (i : Int) = chinoiserielaw04_fine.j1 k l acc (i : Int) true := fun k => by
        rw [chinoiserielaw04_fine.l0, if_pos (by omega), decide_eq_true (by omega)]
      by_cases hm : mayH (shortH l[i]) = true
      · have hacc : fineOk (acc ++ [shortH l[i]]) := by
          refine ⟨by simp; omega, fun h hh => ?_⟩
          rcases List.mem_append.mp hh with h1 | h1
          · exact ha.2 h h1
          · rw [List.mem_singleton.mp h1]; exact hm
        obtain ⟨r, hr, hv⟩ := ih (i + 1) (acc ++ [shortH l[i]]) (by omega) hacc
        refine ⟨r, hr, Ev.step e (Ev.step (fun k => ?_) hv)⟩
        have hck : head_Check.f [(⟨shortB (l[i]).f0, shortB (l[i]).f1⟩ : S28)] = some 0 := by
          rw [check_f, check_one, if_pos (by exact hm)]
        rw [chinoiserielaw04_fine.j1, if_pos rfl, if_pos (by omega), if_pos (by omega), rd_nat l i hlt, short_f, short_f, Option.bind_some, Option.bind_some, hck, Option.bind_some, if_pos rfl, if_pos (by omega), up1 i (by omega)]
        rfl
      · obtain ⟨r, hr, hv⟩ := ih (i + 1) acc (by omega) ha
        refine ⟨r, hr, Ev.step e (Ev.step (fun k => ?_) hv)⟩
        have hck : head_Check.f [(⟨shortB (l[i]).f0, shortB (l[i]).f1⟩ : S28)] = some 40 := by
          rw [check_f, check_one, if_neg (by exact hm)]
        rw [chinoiserielaw04_fine.j1, if_pos rfl, if_pos (by omega), if_pos (by omega), rd_nat l i hlt, short_f, short_f, Option.bind_some, Option.bind_some, hck, Option.bind_some, if_neg (by decide), up1 i (by omega)]
    · refine hend i acc ha (fun k => ?_)
      rw [chinoiserielaw04_fine.l0, if_pos (by omega), decide_eq_false (by omega)]
theorem fineF_ev (l : List S28) (hz : l.length ≤ 9223372036854775807) : ∃ r, fineOk r ∧ Ev (fun k => chinoiserielaw04_fine.f k l) r :=
  fine_ev l hz l.length 0 [] (by omega) ⟨by simp, by simp⟩
theorem nam_size {s : ByteArray} (h : isNam s = true) : 1 ≤ s.size ∧ s.size ≤ 30 ∧ s.data.toList.all namB = true := by
  unfold isNam at h
  simp only [Bool.and_eq_true, decide_eq_true_eq] at h
  exact ⟨h.1.1, h.1.2, h.2⟩
theorem val_size {s : ByteArray} (h : isVal s = true) : s.size ≤ 200 ∧ s.data.toList.all (fun b => decide (32 ≤ b.toNat ∧ b.toNat ≤ 126)) = true ∧ s.data.toList.head? ≠ some 32 ∧ s.data.toList.getLast? ≠ some 32 := by
  unfold isVal at h
  simp only [Bool.and_eq_true, decide_eq_true_eq, bne_iff_ne] at h
  exact ⟨h.1.1.1, h.1.1.2, h.1.2, h.2⟩
theorem may_parts {h : S28} (hm : mayH h = true) : isNam h.f0 = true ∧ isVal h.f1 = true := by
  unfold mayH at hm
  simpa using hm
theorem fine_okL {l : List S28} (h : fineOk l) : okL l := by
  refine ⟨by have := h.1; omega, fun x hx => ?_⟩
  obtain ⟨h1, h2⟩ := may_parts (h.2 x hx)
  have := nam_size h1
  have := val_size h2
  omega
theorem fine_check {l : List S28} (h : fineOk l) : checkR l = 0 := by
  unfold checkR
  rw [if_neg (by have := h.1; omega), if_pos (List.all_eq_true.mpr h.2)]
end Go.Proofs.YtbdafijdfpmdiaaDoor.PHead
