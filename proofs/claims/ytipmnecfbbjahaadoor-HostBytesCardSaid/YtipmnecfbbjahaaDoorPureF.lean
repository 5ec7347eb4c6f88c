/- Plain laws: hosts and their parts: a byte put in; a part put ahead. -/
import Derived.Test.YtipmnecfbbjahaaDoorLawBack
set_option linter.unusedVariables false
set_option linter.unusedSimpArgs false
namespace Go.Proofs.YtipmnecfbbjahaaDoor.PHost
open Go.RowKit Go.Proofs.YtipmnecfbbjahaaDoorW.PrintWords Go.Proofs.YtipmnecfbbjahaaDoorW.PrintLast Go.Proofs.YtipmnecfbbjahaaDoorW.PrintMore

theorem ref_one : ∀ (p l cur : List UInt8), 46 ∉ p → refGo (p ++ l) cur = refGo l (cur ++ p) := by
  intro p
  induction p with
  | nil => intro l cur _; rw [List.nil_append, List.append_nil]
  | cons x p ih =>
    intro l cur h
    rw [List.cons_append, refGo, if_neg (fun e => h (by rw [e]; exact List.mem_cons_self ..)), ih _ _ (fun e => h (List.mem_cons_of_mem _ e))]
    simp
theorem ref_ahead (p l : List UInt8) (h : 46 ∉ p) : refGo (p ++ 46 :: l) [] = (partOk p && refGo l []) := by
  have e : refGo (46 :: l) p = (partOk p && refGo l []) := by rw [refGo, if_pos rfl]
  rw [ref_one p _ [] h, List.nil_append, e]
theorem cut_first (p l : List UInt8) (h : 46 ∉ p) : cutB (p ++ 46 :: l) 46 = (p, l, true) := by
  induction p with
  | nil => rw [List.nil_append, cutB, if_pos rfl]
  | cons x p ih =>
    rw [List.cons_append, cutB, if_neg (fun e => h (by rw [e]; exact List.mem_cons_self ..)), ih (fun e => h (List.mem_cons_of_mem _ e))]

/-- What a host's beginning is: whether its whole parts may be, and the part under way. -/
def preGo : List UInt8 → List UInt8 → Bool × List UInt8
  | [], cur => (true, cur)
  | c :: l, cur => if c = 46 then (partOk cur && (preGo l []).1, (preGo l []).2) else preGo l (cur ++ [c])
theorem pre_ref : ∀ (l r cur : List UInt8), refGo (l ++ r) cur = ((preGo l cur).1 && refGo r (preGo l cur).2) := by
  intro l
  induction l with
  | nil => intro r cur; rw [List.nil_append, preGo, Bool.true_and]
  | cons c l ih =>
    intro r cur
    rw [List.cons_append, refGo, preGo]
    by_cases h : c = 46
    · rw [if_pos h, if_pos h, ih, Bool.and_assoc]
    · rw [if_neg h, if_neg h, ih]
theorem pre_snoc : ∀ (l cur : List UInt8) (x : UInt8), (preGo (l ++ [x]) cur).2 = if x = 46 then [] else (preGo l cur).2 ++ [x] := by
  intro l
  induction l with
  | nil =>
    intro cur x
    rw [List.nil_append, preGo, preGo, preGo]
    by_cases h : x = 46
    · rw [if_pos h, if_pos h]
    · rw [if_neg h, if_neg h]; rfl
  | cons c l ih =>
    intro cur x
    rw [List.cons_append, preGo, preGo]
    by_cases h : c = 46
    · rw [if_pos h, if_pos h, ih]
    · rw [if_neg h, if_neg h, ih]
/-- The part that stands at a text's head, and what is left of the host behind it. -/
def nxtOf (l : List UInt8) : List UInt8 := l.takeWhile (fun b => b != 46)
def tailOk : List UInt8 → Bool
  | [] => true
  | c :: l => if c = 46 then refGo l [] else tailOk l
theorem ref_nxt : ∀ (r cur : List UInt8), refGo r cur = (partOk (cur ++ nxtOf r) && tailOk r) := by
  intro r
  induction r with
  | nil => intro cur; rw [refGo, nxtOf, tailOk]; simp
  | cons c r ih =>
    intro cur
    rw [refGo, tailOk, nxtOf]
    by_cases h : c = 46
    · rw [if_pos h, if_pos h, List.takeWhile_cons_of_neg (by simp [h]), List.append_nil]
    · rw [if_neg h, if_neg h, List.takeWhile_cons_of_pos (by simp [h]), ih]
      unfold nxtOf
      simp
theorem part_iff (p : List UInt8) : partOk p = true ↔ (1 ≤ p.length ∧ p.length ≤ 20 ∧ p.head? ≠ some 45 ∧ p.getLast? ≠ some 45 ∧ p.all inP = true) := by
  unfold partOk
  simp only [Bool.and_eq_true, decide_eq_true_eq, bne_iff_ne, and_assoc]
theorem in_dash : inP 45 = true := by decide
theorem in_dot : inP 46 = false := by decide
/-- A byte put into a part. -/
theorem part_in {cur nxt : List UInt8} (c : UInt8) (h : partOk (cur ++ nxt) = true) :
    partOk (cur ++ c :: nxt) = (inP c && (c != 45 || (!cur.isEmpty && !nxt.isEmpty)) && decide (1 + nxt.length + cur.length ≤ 20)) := by
  rw [part_iff] at h
  obtain ⟨h1, h2, h3, h4, h5⟩ := h
  rw [Bool.eq_iff_iff, part_iff]
  simp only [Bool.and_eq_true, Bool.or_eq_true, Bool.not_eq_true', decide_eq_true_eq, bne_iff_ne, List.length_append, List.length_cons, List.all_append, List.all_cons] at h5 ⊢
  have hh : (cur ++ c :: nxt).head? = (if cur.isEmpty = true then some c else (cur ++ nxt).head?) := by
    cases cur <;> simp
  have hl : (cur ++ c :: nxt).getLast? = (if nxt.isEmpty = true then some c else (cur ++ nxt).getLast?) := by
    cases nxt with
    | nil => simp
    | cons x n => simp [List.getLast?_append, List.getLast?_cons_cons]
  rw [hh, hl]
  cases hc : cur.isEmpty <;> cases hn : nxt.isEmpty <;> simp only [if_true, if_false, Bool.false_eq_true, Bool.true_eq_false, ne_eq, Option.some.injEq, and_true, true_and, and_false, false_and, or_false, or_true]
  · constructor
    · rintro ⟨a1, a2, a3, a4, a5, a6, a7⟩; exact ⟨a6, by omega⟩
    · rintro ⟨a1, a2⟩; exact ⟨by omega, by omega, h3, h4, h5.1, a1, h5.2⟩
  · constructor
    · rintro ⟨a1, a2, a3, a4, a5, a6, a7⟩; exact ⟨⟨a6, a4⟩, by omega⟩
    · rintro ⟨⟨a1, a3⟩, a2⟩; exact ⟨by omega, by omega, h3, a3, h5.1, a1, h5.2⟩
  · constructor
    · rintro ⟨a1, a2, a3, a4, a5, a6, a7⟩; exact ⟨⟨a6, a3⟩, by omega⟩
    · rintro ⟨⟨a1, a3⟩, a2⟩; exact ⟨by omega, by omega, a3, h4, h5.1, a1, h5.2⟩
  · constructor
    · rintro ⟨a1, a2, a3, a4, a5, a6, a7⟩; exact ⟨⟨a6, a3⟩, by omega⟩
    · rintro ⟨⟨a1, a3⟩, a2⟩; exact ⟨by omega, by omega, a3, a3, h5.1, a1, h5.2⟩
theorem part_two {cur nxt : List UInt8} (h : partOk (cur ++ nxt) = true) :
    (partOk cur && partOk nxt) = (!cur.isEmpty && !nxt.isEmpty && (cur.getLast? != some 45) && (nxt.head? != some 45)) := by
  rw [part_iff] at h
  obtain ⟨h1, h2, h3, h4, h5⟩ := h
  rw [Bool.eq_iff_iff]
  simp only [Bool.and_eq_true, part_iff, Bool.not_eq_true', bne_iff_ne, List.length_append, List.all_append] at h1 h2 h5 ⊢
  cases cur with
  | nil => simp
  | cons x cur =>
    cases nxt with
    | nil => simp
    | cons y nxt =>
      have hl : (x :: cur ++ y :: nxt).getLast? = (y :: nxt).getLast? := by rw [List.getLast?_append, List.getLast?_cons]; rfl
      rw [hl] at h4
      have hh : (x :: cur ++ y :: nxt).head? = (x :: cur).head? := by simp
      rw [hh] at h3
      simp only [List.isEmpty_cons, true_and]
      simp only [List.length_cons] at h1 h2 ⊢
      constructor
      · rintro ⟨⟨a1, a2, a3, a4, a5⟩, b1, b2, b3, b4, b5⟩; exact ⟨a4, b3⟩
      · rintro ⟨a, b⟩; exact ⟨⟨by omega, by omega, h3, a, h5.1⟩, by omega, by omega, b, h4, h5.2⟩
/-- A BYTE PUT INTO A HOST. -/
theorem byte_in {a b : List UInt8} (c : UInt8) (h : refGo (a ++ b) [] = true) :
    refGo (a ++ c :: b) [] = (if c = 46 then !(preGo a []).2.isEmpty && !(nxtOf b).isEmpty && ((preGo a []).2.getLast? != some 45) && ((nxtOf b).head? != some 45) else inP c && (c != 45 || (!(preGo a []).2.isEmpty && !(nxtOf b).isEmpty)) && decide (1 + (nxtOf b).length + (preGo a []).2.length ≤ 20)) := by
  rw [pre_ref, ref_nxt] at h
  simp only [Bool.and_eq_true] at h
  obtain ⟨h1, h2, h3⟩ := h
  rw [pre_ref, h1, Bool.true_and]
  by_cases hc : c = 46
  · have e : ∀ cur, refGo (c :: b) cur = (partOk cur && refGo b []) := fun cur => by rw [refGo, if_pos hc]
    rw [if_pos hc, e, ref_nxt b [], List.nil_append, h3, Bool.and_true]
    exact part_two h2
  · have e : ∀ cur, refGo (c :: b) cur = refGo b (cur ++ [c]) := fun cur => by rw [refGo, if_neg hc]
    rw [if_neg hc, e, ref_nxt, h3, Bool.and_true]
    have := part_in c h2
    rw [← this]
    simp
end Go.Proofs.YtipmnecfbbjahaaDoor.PHost
