/- head.value: is a text a value? -/
import Derived.Test.YtbdafijdfpmdiaaDoorExtD
import Derived.Test.YtbdafijdfpmdiaaDoorExtS
import Derived.Lib.Hide
import Derived.Laws.RangeString
import Derived.Laws.RangeAny
namespace Go.Proofs.YtbdafijdfpmdiaaDoor.PHead
open Go.RowKit Go.Shelf Go.Proofs.YtbdafijdfpmdiaaDoorW.PrintWords Go.Proofs.YtbdafijdfpmdiaaDoorW.PrintLast Go.Proofs.YtbdafijdfpmdiaaDoorW.PrintMore

def oddR (r : Nat) : Bool := decide (r < 32) || decide (126 < r)
theorem odd71 (w : World) : PredAt Tryd.prog 71 #[] encR oddR w := fun W r _ => by
  unfold FnGives
  by_cases h1 : r < 32 <;> by_cases h2 : 126 < r
  all_goals
    have z1 : (r : Int) < 32 ↔ r < 32 := by omega
    have z2 : (126 : Int) < (r : Int) ↔ 126 < r := by omega
    go_enter Tryd.func71, Tryd.ntmps71
    go_wp2
    all_goals first | (exfalso; omega) | (go_ret; exact ⟨by simp [oddR, h1, h2], 0, rfl⟩)

def plainB (b : UInt8) : Bool := decide (32 ≤ b.toNat ∧ b.toNat ≤ 126)
theorem odd_at (s : ByteArray) (pos : Nat) (h : pos < s.size) : (plainB s[pos] = true → oddR (Utf8.decode s pos).1 = false ∧ (Utf8.decode s pos).2 = 1) ∧ (plainB s[pos] = false → oddR (Utf8.decode s pos).1 = true) := by
  by_cases ha : (s[pos]'h).toNat < 128
  · rw [decode_ascii s pos h ha]
    unfold plainB oddR
    constructor
    · intro hp
      simp only [decide_eq_true_eq] at hp
      refine ⟨?_, rfl⟩
      simp only [Bool.or_eq_false_iff, decide_eq_false_iff_not]
      omega
    · intro hp
      simp only [decide_eq_false_iff_not] at hp
      simp only [Bool.or_eq_true, decide_eq_true_eq]
      omega
  · have := decode_high s pos h (by omega)
    unfold plainB oddR
    constructor
    · intro hp
      simp only [decide_eq_true_eq] at hp
      omega
    · intro _
      simp only [Bool.or_eq_true, decide_eq_true_eq]
      omega
theorem idx_odd (s : ByteArray) : ∀ (f pos : Nat), s.size ≤ f + pos → pos ≤ s.size → (Lib.idxFuncFrom oddR true s f pos < 0 ↔ (s.data.toList.drop pos).all plainB = true)
  | 0, pos, hf, hp => by
    have hl : s.data.toList.length = s.size := by rw [Array.length_toList]; rfl
    rw [List.drop_of_length_le (by omega)]
    simp [Lib.idxFuncFrom]
  | f + 1, pos, hf, hp => by
    have hl : s.data.toList.length = s.size := by rw [Array.length_toList]; rfl
    unfold Lib.idxFuncFrom
    by_cases h : pos < s.size
    · rw [if_pos h]
      obtain ⟨h1, h2⟩ := odd_at s pos h
      have hd : s.data.toList.drop pos = s[pos] :: s.data.toList.drop (pos + 1) := by
        rw [List.drop_eq_getElem_cons (by omega), Array.getElem_toList]
        rfl
      rw [hd, List.all_cons]
      by_cases hc : plainB s[pos] = true
      · obtain ⟨h3, h4⟩ := h1 hc
        rw [if_neg (by rw [h3]; decide), h4, hc, Bool.true_and]
        exact idx_odd s f (pos + 1) (by omega) (by omega)
      · have hc' : plainB s[pos] = false := by simpa using hc
        rw [if_pos (h2 hc'), hc', Bool.false_and]
        simp
    · rw [if_neg h, List.drop_of_length_le (by omega)]
      simp
theorem idx_odd0 (s : ByteArray) : Lib.idxFunc oddR true s < 0 ↔ s.data.toList.all plainB = true := by
  have := idx_odd s s.size 0 (by omega) (Nat.zero_le _)
  simpa [Lib.idxFunc] using this

theorem dropWhile_self {l : List UInt8} {p : UInt8 → Bool} : l.dropWhile p = l ↔ ∀ b, l.head? = some b → p b = false := by
  cases l with
  | nil => simp
  | cons x l =>
    by_cases h : p x = true
    · simp only [List.dropWhile_cons, h, if_true, List.head?_cons, Option.some.injEq, forall_eq', Bool.true_eq_false, iff_false]
      intro e
      have := congrArg List.length e
      have h2 := (List.dropWhile_suffix (l := l) p).length_le
      simp at this
      omega
    · simp [h]
theorem trimB_self (l : List UInt8) : Lib.trimB l 32 = l ↔ (l.head? ≠ some 32 ∧ l.getLast? ≠ some 32) := by
  unfold Lib.trimB Lib.trimLeftB Lib.trimRightB
  constructor
  · intro h
    have hlen := congrArg List.length h
    have h1 := (List.dropWhile_suffix (l := (l.reverse.dropWhile (· == (32 : UInt8))).reverse) (· == (32 : UInt8))).length_le
    have h2 := (List.dropWhile_suffix (l := l.reverse) (· == (32 : UInt8))).length_le
    rw [List.length_reverse] at h1
    rw [List.length_reverse] at h2
    have h3 : l.reverse.dropWhile (· == 32) = l.reverse := by
      have hs := List.dropWhile_suffix (l := l.reverse) (· == (32 : UInt8))
      exact hs.eq_of_length (by rw [List.length_reverse]; omega)
    rw [h3, List.reverse_reverse] at h
    constructor
    · intro e
      have := dropWhile_self.1 h 32 e
      simp at this
    · intro e
      rw [← List.head?_reverse] at e
      have := dropWhile_self.1 h3 32 e
      simp at this
  · rintro ⟨h1, h2⟩
    have h3 : l.reverse.dropWhile (· == 32) = l.reverse := dropWhile_self.2 fun b hb => by
      rw [List.head?_reverse] at hb
      rcases Decidable.em (b = 32) with rfl | hne
      · exact absurd hb h2
      · simpa using hne
    rw [h3, List.reverse_reverse]
    exact dropWhile_self.2 fun b hb => by
      rcases Decidable.em (b = 32) with rfl | hne
      · exact absurd hb h1
      · simpa using hne

set_option maxHeartbeats 1000000 in
set_option maxRecDepth 100000 in
theorem head_value.calls (a0 : ByteArray) (r : Bool) (w : World) (h : head_value.f a0 = some r) :
    Calls Tryd.prog 58 #[.string a0] w fun e w' => e = .returned (.bool r) ∧ Below w.heap.size w w' := by
  obtain rfl := Option.some.inj h
  clear h
  by_cases hz : a0.size ≤ 200
  · have hzi : (a0.size : Int) ≤ 200 := by omega
    have hI := fun w => Tryd.strings_IndexFunc 71 #[] (enters_of Tryd.func71 (by kernel_rfl) rfl) _ a0 w (odd71 w)
    have hio := idx_odd0 a0
    by_cases hp : a0.data.toList.all plainB = true
    · have hneg := hio.2 hp
      have hT := fun w => Tryd.strings_Trim_one a0 32 (by decide) w (by omega)
      have HI := Lib.hid hI
      have HT := Lib.hid hT
      clear hI hT hio
      obtain ⟨ix, hix⟩ : ∃ ix, Lib.idxFunc oddR true a0 = ix := ⟨_, rfl⟩
      have HX := Lib.hid hix
      rw [hix] at hneg
      clear hix
      have hts := trimB_self a0.data.toList
      obtain ⟨tl, htl⟩ : ∃ tl, Lib.trimB a0.data.toList 32 = tl := ⟨_, rfl⟩
      have HTL := Lib.hid htl
      rw [htl] at hts
      have HTS := Lib.hid hts
      have HP := Lib.hid hp
      clear htl hts hp
      go_enter Tryd.func58, Tryd.ntmps58
      go_wp2_with (first | (go_at_call 72; refine (HI.out _).mono ?_; rintro e w1 ⟨rfl, hb⟩; rw [HX.out]) | (go_at_call 54; refine (HT.out _).mono ?_; rintro e w2 ⟨rfl, hb2⟩; rw [HTL.out]))
      go_ret
      refine ⟨?_, ?_⟩
      · have he : (tl == a0.toList) = isVal a0 := by
          have hlt := HTS.out
          rw [Lib.toList_data, Bool.eq_iff_iff, beq_iff_eq, hlt]
          have h3 : a0.data.toList.all (fun b => decide (32 ≤ b.toNat ∧ b.toNat ≤ 126)) = true := HP.out
          simp only [isVal, hz, h3, decide_true, Bool.true_and, Bool.and_eq_true, bne_iff_ne]
        rw [← he]
        rfl
      · rcases hb2 with rfl | rfl
        · exact hb
        · exact below_drew1 hb
    · have hneg : ¬ Lib.idxFunc oddR true a0 < 0 := fun hx => hp (hio.1 hx)
      have hv : isVal a0 = false := by
        have h3 : a0.data.toList.all (fun b => decide (32 ≤ b.toNat ∧ b.toNat ≤ 126)) = false := by
          rw [← Bool.not_eq_true]
          exact hp
        simp only [isVal, h3, Bool.and_false, Bool.false_and]
      have HI := Lib.hid hI
      have HV := Lib.hid hv
      clear hI hio hv hp
      obtain ⟨ix, hix⟩ : ∃ ix, Lib.idxFunc oddR true a0 = ix := ⟨_, rfl⟩
      have HX := Lib.hid hix
      rw [hix] at hneg
      clear hix
      go_enter Tryd.func58, Tryd.ntmps58
      go_wp2_with (first | (go_at_call 72; refine (HI.out _).mono ?_; rintro e w1 ⟨rfl, hb⟩; rw [HX.out]))
      go_ret
      exact ⟨by rw [HV.out]; rfl, hb⟩
  · have hv : isVal a0 = false := by simp only [isVal, hz, decide_false, Bool.false_and]
    have HV := Lib.hid hv
    have hzi : ¬ (a0.size : Int) ≤ 200 := by omega
    clear hv
    go_enter Tryd.func58, Tryd.ntmps58
    go_wp2
    go_ret
    exact ⟨by rw [HV.out]; rfl, Below.refl _ _⟩
end Go.Proofs.YtbdafijdfpmdiaaDoor.PHead
