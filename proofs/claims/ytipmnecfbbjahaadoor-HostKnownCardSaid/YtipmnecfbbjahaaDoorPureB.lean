/- Plain laws: ports, as strconv tells them and as the reference does; digits. -/
import Derived.Test.YtipmnecfbbjahaaDoorPureA
import Derived.Test.YtipmnecfbbjahaaDoorPHostx4
import Derived.Lib.AtoiTie
set_option linter.unusedVariables false
set_option linter.unusedSimpArgs false
namespace Go.Proofs.YtipmnecfbbjahaaDoor.PHost
open Go.RowKit Go.Proofs.YtipmnecfbbjahaaDoorW.PrintWords Go.Proofs.YtipmnecfbbjahaaDoorW.PrintLast Go.Proofs.YtipmnecfbbjahaaDoorW.PrintMore

theorem dec_snoc : ∀ (l : List UInt8) (acc : Nat) (b : UInt8), Lib.decFrom acc (l ++ [b]) = (Lib.decFrom acc l).bind fun m => (Lib.digitVal b).map fun d => m * 10 + d := by
  intro l
  induction l with
  | nil =>
    intro acc b
    simp only [List.nil_append, Lib.decFrom, Option.bind_some]
    cases Lib.digitVal b <;> rfl
  | cons c l ih =>
    intro acc b
    simp only [List.cons_append, Lib.decFrom]
    cases Lib.digitVal c with
    | none => rfl
    | some d => exact ih _ b
theorem digit_byte {b : UInt8} {d : Nat} (h : Lib.digitVal b = some d) : b = UInt8.ofNat (48 + d) ∧ d ≤ 9 := by
  obtain ⟨h1, h2, h3⟩ := Lib.digitVal_eq h
  refine ⟨UInt8.toNat_inj.mp ?_, by omega⟩
  rw [UInt8.toNat_ofNat']
  omega
theorem digit_of {d : Nat} (h : d ≤ 9) : Lib.digitVal (UInt8.ofNat (48 + d)) = some d := by
  unfold Lib.digitVal
  have e : (UInt8.ofNat (48 + d)).toNat = 48 + d := by rw [UInt8.toNat_ofNat']; omega
  rw [e, if_pos (by omega)]
  congr 1
  omega
theorem rev_ind {p : List UInt8 → Prop} (h0 : p []) (h1 : ∀ l b, p l → p (l ++ [b])) (l : List UInt8) : p l := by
  have key : ∀ (r : List UInt8), p r.reverse := by
    intro r
    induction r with
    | nil => exact h0
    | cons b r ih => rw [List.reverse_cons]; exact h1 _ b ih
  have := key l.reverse
  rwa [List.reverse_reverse] at this
/-- Digits without a nought ahead are their number's own. -/
theorem dec_own (l : List UInt8) : l ≠ [] → l.head? ≠ some 48 → ∀ n, Lib.decFrom 0 l = some n → Lib.decDigits n = l ∧ 1 ≤ n := by
  refine rev_ind (p := fun l => l ≠ [] → l.head? ≠ some 48 → ∀ n, Lib.decFrom 0 l = some n → Lib.decDigits n = l ∧ 1 ≤ n) ?_ ?_ l
  · intro h; exact absurd rfl h
  · intro l b ih _ hh n hn
    rw [dec_snoc] at hn
    obtain ⟨m, hm, hn⟩ := Option.bind_eq_some_iff.mp hn
    obtain ⟨d, hd, rfl⟩ := Option.map_eq_some_iff.mp hn
    obtain ⟨hb, hd9⟩ := digit_byte hd
    by_cases hl : l = []
    · subst hl
      have : m = 0 := by simpa [Lib.decFrom] using hm.symm
      subst this
      have hd1 : d ≠ 0 := by
        rintro rfl
        apply hh
        rw [hb]; rfl
      refine ⟨?_, by omega⟩
      rw [Lib.decDigits, dif_pos (by omega), hb]
      simp
    · have hh' : l.head? ≠ some 48 := by
        cases l with
        | nil => exact absurd rfl hl
        | cons x l => simpa using hh
      obtain ⟨h1, h2⟩ := ih hl hh' m hm
      refine ⟨?_, by omega⟩
      rw [Lib.decDigits, dif_neg (by omega), show (m * 10 + d) / 10 = m by omega, show (m * 10 + d) % 10 = d by omega, h1, ← hb]
theorem dec_back (n : Nat) : Lib.decFrom 0 (Lib.decDigits n) = some n ∧ (1 ≤ n → (Lib.decDigits n).head? ≠ some 48) ∧ Lib.decDigits n ≠ [] := by
  induction n using Nat.strongRecOn with
  | _ n ih =>
    by_cases h : n < 10
    · rw [Lib.decDigits, dif_pos h]
      have hd := digit_of (d := n) (by omega)
      refine ⟨?_, ?_, by simp⟩
      · simp only [Lib.decFrom, hd, Nat.zero_mul, Nat.zero_add]
      · intro h1 e
        simp only [List.head?_cons, Option.some.injEq] at e
        have : (UInt8.ofNat (48 + n)).toNat = (48 : UInt8).toNat := by rw [e]
        rw [UInt8.toNat_ofNat'] at this
        have e48 : (48 : UInt8).toNat = 48 := rfl
        omega
    · obtain ⟨h1, h2, h3⟩ := ih (n / 10) (by omega)
      rw [Lib.decDigits, dif_neg h]
      have hd := digit_of (d := n % 10) (by omega)
      refine ⟨?_, ?_, by simp⟩
      · rw [dec_snoc, h1, Option.bind_some, hd, Option.map_some]
        congr 1
        omega
      · intro _
        have := h2 (by omega)
        cases hx : Lib.decDigits (n / 10) with
        | nil => exact absurd hx h3
        | cons x l => rw [hx] at this; simpa using this
theorem nd_five (n : Nat) (h : n ≤ 65535) : (Lib.decDigits n).length ≤ 5 := by
  rw [Lib.decDigits_length]
  by_cases h1 : n < 10
  · rw [Lib.nDigits_small h1]; omega
  · rw [Lib.nDigits_big h1]
    by_cases h2 : n / 10 < 10
    · rw [Lib.nDigits_small h2]; omega
    · rw [Lib.nDigits_big h2]
      by_cases h3 : n / 10 / 10 < 10
      · rw [Lib.nDigits_small h3]; omega
      · rw [Lib.nDigits_big h3]
        by_cases h4 : n / 10 / 10 / 10 < 10
        · rw [Lib.nDigits_small h4]; omega
        · rw [Lib.nDigits_big h4, Lib.nDigits_small (by omega)]; omega

/-- The port that digits tell, as the reference has it. -/
def portE : Option Nat → Int
  | none => 0
  | some n => if n > 65535 then 0 else (n : Int)
def portR (d : List UInt8) : Int := if d.length < 1 ∨ d.length > 5 ∨ d.head? = some 48 then 0 else portE (Lib.decFrom 0 d)
theorem digit_head {b : UInt8} {l : List UInt8} {n : Nat} (h : Lib.decFrom 0 (b :: l) = some n) : b ≠ 45 ∧ b ≠ 43 := by
  simp only [Lib.decFrom] at h
  cases hd : Lib.digitVal b with
  | none => rw [hd] at h; cases h
  | some d =>
    obtain ⟨h1, h2, _⟩ := Lib.digitVal_eq hd
    constructor
    · rintro rfl; exact absurd h1 (by decide)
    · rintro rfl; exact absurd h1 (by decide)
theorem atoi_digits {d : List UInt8} {n : Nat} (hne : d ≠ []) (hl : d.length ≤ 18) (h : Lib.decFrom 0 d = some n) : Lib.atoiAll d = .ok (n : Int) := by
  rw [Lib.atoiAll_short d hl]
  cases d with
  | nil => exact absurd rfl hne
  | cons b l =>
    obtain ⟨h1, h2⟩ := digit_head h
    have : Lib.decNat (b :: l) = some n := by unfold Lib.decNat; simpa using h
    simp [Lib.atoi, h1, h2, this, Lib.NumEnd.ofOption]
theorem port_same (d : List UInt8) : portB d = portR d := by
  have caseA : portR d ≠ 0 → portB d = portR d := by
    intro h
    unfold portR at h ⊢
    by_cases hc : d.length < 1 ∨ d.length > 5 ∨ d.head? = some 48
    · rw [if_pos hc] at h; exact absurd rfl h
    · rw [if_neg hc] at h ⊢
      have hne : d ≠ [] := by rintro rfl; exact hc (Or.inl (by simp))
      cases hd : Lib.decFrom 0 d with
      | none => rw [hd] at h; exact absurd rfl h
      | some n =>
        rw [hd] at h
        unfold portE at h ⊢
        by_cases hn : n > 65535
        · simp only [hn, if_true] at h; exact absurd rfl h
        · simp only [hn, if_false] at h ⊢
          obtain ⟨e1, e2⟩ := dec_own d hne (fun e => hc (Or.inr (Or.inr e))) n hd
          unfold portB
          rw [atoi_digits hne (by omega) hd]
          have hi : Lib.itoa (n : Int) = d := by
            unfold Lib.itoa
            rw [if_neg (by omega), Int.toNat_natCast, e1]
          simp only
          rw [if_pos ⟨by omega, by omega, hi⟩]
  have caseB : portB d ≠ 0 → portR d ≠ 0 := by
    intro h
    unfold portB at h
    rcases ha : Lib.atoiAll d with v | _ | _
    rotate_left
    · rw [ha] at h; exact absurd rfl h
    · rw [ha] at h; exact absurd rfl h
    · rw [ha] at h
      simp only at h
      by_cases hv : 1 ≤ v ∧ v ≤ 65535 ∧ Lib.itoa v = d
      · obtain ⟨v1, v2, v3⟩ := hv
        unfold Lib.itoa at v3
        rw [if_neg (by omega)] at v3
        obtain ⟨b1, b2, b3⟩ := dec_back v.toNat
        have b4 := nd_five v.toNat (by omega)
        rw [v3] at b1 b2 b3 b4
        have hpos : 0 < d.length := List.length_pos_iff.mpr b3
        unfold portR
        rw [if_neg (fun hc => by
          rcases hc with hc | hc | hc
          · omega
          · omega
          · exact b2 (by omega) hc), b1]
        unfold portE
        simp only
        rw [if_neg (by omega)]
        omega
      · rw [if_neg hv] at h; exact absurd rfl h
  by_cases h : portR d = 0
  · by_cases h2 : portB d = 0
    · rw [h, h2]
    · exact absurd h (caseB h2)
  · exact caseA h

theorem portl_ev (s : ByteArray) (hs : s.size ≤ 5) : ∀ (n i acc : Nat), i + n = s.size → acc < 10 ^ i →
    Ev (fun k => chinoiserieref06_port.l0 k s (acc : Int) (i : Int)) (portE (Lib.decFrom acc (s.data.toList.drop i))) := by
  intro n
  induction n with
  | zero =>
    intro i acc hi ha
    have h5 : (10 : Nat) ^ i ≤ 10 ^ 5 := Nat.pow_le_pow_right (by decide) (by omega)
    rw [List.drop_eq_nil_of_le (by rw [data_length]; omega)]
    refine Ev.step (fun k => ?_) (Ev.now _)
    rw [chinoiserieref06_port.l0, if_neg (by omega)]
    simp only [Lib.decFrom, portE]
    by_cases h : acc > 65535
    · rw [if_pos (by omega), if_pos h]
    · rw [if_neg (by omega), if_neg h]
  | succ n ih =>
    intro i acc hi ha
    have hlt : i < s.data.toList.length := by rw [data_length]; omega
    have h5 : (10 : Nat) ^ i ≤ 10 ^ 4 := Nat.pow_le_pow_right (by decide) (by omega)
    have e4 : (10 : Nat) ^ 4 = 10000 := by decide
    rw [List.drop_eq_getElem_cons hlt]
    simp only [Lib.decFrom]
    have hbl := UInt8.toNat_lt s.data.toList[i]
    by_cases hd : 48 ≤ (s.data.toList[i]).toNat ∧ (s.data.toList[i]).toNat ≤ 57
    · have hv : Lib.digitVal s.data.toList[i] = some ((s.data.toList[i]).toNat - 48) := by unfold Lib.digitVal; rw [if_pos hd]
      rw [hv]
      have hh := ih (i + 1) (acc * 10 + ((s.data.toList[i]).toNat - 48)) (by omega) (by rw [Nat.pow_succ]; omega)
      refine Ev.step (fun k => ?_) hh
      have ha4 : acc < 10000 := by omega
      have ew : wrap64 (wrap64 (10 * (acc : Int)) + (((s.data.toList[i]).toNat : Int) - 48) % 256) = ((acc * 10 + ((s.data.toList[i]).toNat - 48) : Nat) : Int) := by
        clear hh ih h5 e4 ha hv
        generalize (s.data.toList[i]).toNat = b at *
        have e1 : wrap64 (10 * (acc : Int)) = 10 * (acc : Int) := by unfold wrap64; omega
        have e2 : ((b : Int) - 48) % 256 = (b : Int) - 48 := by omega
        rw [e1, e2]
        unfold wrap64
        omega
      rw [chinoiserieref06_port.l0, if_pos (by omega), if_pos (by omega), bt_nat s i hlt, if_neg (by omega), if_neg (by omega), up1 i (by omega), ew]
    · have hv : Lib.digitVal s.data.toList[i] = none := by unfold Lib.digitVal; rw [if_neg hd]
      rw [hv]
      refine Ev.step (fun k => ?_) (Ev.now _)
      rw [chinoiserieref06_port.l0, if_pos (by omega), if_pos (by omega), bt_nat s i hlt]
      by_cases h1 : (s.data.toList[i]).toNat < 48
      · rw [if_pos (by omega)]; rfl
      · rw [if_neg (by omega), if_pos (by omega)]; rfl
theorem refPort_ev (s : ByteArray) (hs : s.size ≤ 1000) : Ev (fun k => chinoiserieref06_port.f k s) (portB s.data.toList) := by
  rw [port_same]
  have hno : Ev (fun k => chinoiserieref06_port.j0 k s true) 0 := Ev.step (fun k => by rw [chinoiserieref06_port.j0, if_pos rfl]) (Ev.now _)
  unfold chinoiserieref06_port.f portR
  rw [data_length]
  by_cases h1 : s.size < 1
  · rw [if_pos (Or.inl h1)]
    exact Ev.congr (f := fun k => chinoiserieref06_port.j0 k s true) (fun k => by rw [if_pos (by omega)]) hno
  · by_cases h2 : s.size > 5
    · rw [if_pos (Or.inr (Or.inl h2))]
      exact Ev.congr (f := fun k => chinoiserieref06_port.j0 k s true) (fun k => by rw [if_neg (by omega), if_pos (by omega)]) hno
    · have hl0 : 0 < s.data.toList.length := by rw [data_length]; omega
      have e0 : bt s 0 = ((s.data.toList[0]).toNat : Int) := bt_nat s 0 hl0
      have eh : s.data.toList.head? = some s.data.toList[0] := by rw [List.head?_eq_getElem?, List.getElem?_eq_getElem hl0]
      have t0 : ((s.data.toList[0]).toNat : Int) = 48 ↔ s.data.toList[0] = 48 := toNat_eq (n := 48) (by omega)
      rw [eh]
      by_cases g : s.data.toList[0] = 48
      · rw [if_pos (Or.inr (Or.inr (by rw [g])))]
        exact Ev.congr (f := fun k => chinoiserieref06_port.j0 k s true) (fun k => by rw [if_neg (by omega), if_neg (by omega), if_pos (by omega), e0, t0.2 g]; rfl) hno
      · rw [if_neg (fun hc => by
          rcases hc with hc | hc | hc
          · exact h1 hc
          · exact h2 hc
          · exact g (Option.some.inj hc))]
        refine Ev.congr (f := fun k => chinoiserieref06_port.j0 k s false) (fun k => by
          rw [if_neg (by omega), if_neg (by omega), if_pos (by omega), e0, show (((s.data.toList[0]).toNat : Int) == 48) = false from beq_eq_false_iff_ne.mpr (fun e => g (t0.1 e))]) ?_
        refine Ev.step (fun k => ?_) (portl_ev s (by omega) s.size 0 0 (by omega) (by decide))
        rw [chinoiserieref06_port.j0, if_neg (by simp)]
        rfl

theorem one_digit (n : Nat) (h : n < 10) : (⟨#[48, 49, 50, 51, 52, 53, 54, 55, 56, 57]⟩ : ByteArray).extract n (n + 1) = ⟨#[UInt8.ofNat (48 + n)]⟩ := by
  have key : ∀ n : Fin 10, (⟨#[48, 49, 50, 51, 52, 53, 54, 55, 56, 57]⟩ : ByteArray).extract n.1 (n.1 + 1) = ⟨#[UInt8.ofNat (48 + n.1)]⟩ := by decide +kernel
  exact key ⟨n, h⟩
theorem one_cat (b : UInt8) (acc : List UInt8) : (⟨#[b]⟩ : ByteArray) ++ (⟨acc.toArray⟩ : ByteArray) = ⟨(b :: acc).toArray⟩ := by
  apply ba_eq
  rw [ByteArray.data_append]
  simp
theorem digits_ev (n : Nat) : ∀ (acc : List UInt8), n ≤ 1000000 → acc.length + n ≤ 100000000 → Ev (fun k => chinoiserieref01_Digits.l0 k (n : Int) ⟨acc.toArray⟩) (⟨(Lib.decDigits n ++ acc).toArray⟩, 0) := by
  induction n using Nat.strongRecOn with
  | _ n ih =>
    intro acc hn ha
    have hz : (⟨#[UInt8.ofNat (48 + n % 10)]⟩ : ByteArray).size = 1 := rfl
    by_cases h : n < 10
    · rw [Lib.decDigits, dif_pos h]
      refine Ev.step (fun k => ?_) (Ev.now _)
      have hz2 : (⟨#[UInt8.ofNat (48 + n)]⟩ : ByteArray).size = 1 := rfl
      rw [chinoiserieref01_Digits.l0, if_neg (by omega), if_pos (by omega), up1 n (by omega), if_pos (by omega), if_pos (by omega), Int.toNat_natCast, Int.toNat_natCast, one_digit n h, hz2, mk_size, if_pos (by omega), one_cat]
      rfl
    · rw [Lib.decDigits, dif_neg h]
      have hh := ih (n / 10) (by omega) (UInt8.ofNat (48 + n % 10) :: acc) (by omega) (by rw [List.length_cons]; omega)
      have e : Lib.decDigits (n / 10) ++ [UInt8.ofNat (48 + n % 10)] ++ acc = Lib.decDigits (n / 10) ++ UInt8.ofNat (48 + n % 10) :: acc := by simp
      rw [e]
      refine Ev.step (fun k => ?_) hh
      have em : Int.tmod (n : Int) 10 = ((n % 10 : Nat) : Int) := rfl
      have ed : wrap64 (Int.tdiv (n : Int) 10) = ((n / 10 : Nat) : Int) := by
        have : Int.tdiv (n : Int) 10 = ((n / 10 : Nat) : Int) := rfl
        rw [this]; unfold wrap64; omega
      rw [chinoiserieref01_Digits.l0, if_pos (by omega), em, if_pos (by omega), up1 (n % 10) (by omega), if_pos (by omega), if_pos (by omega), Int.toNat_natCast, Int.toNat_natCast, one_digit (n % 10) (by omega), hz, mk_size, if_pos (by omega), one_cat, ed]
theorem refDigits_ev (n : Nat) (h : n ≤ 65535) : Ev (fun k => chinoiserieref01_Digits.f k (n : Int)) (⟨(Lib.itoa (n : Int)).toArray⟩, 0) := by
  unfold chinoiserieref01_Digits.f
  have e : Lib.itoa (n : Int) = Lib.decDigits n ++ [] := by
    unfold Lib.itoa
    rw [if_neg (by omega), Int.toNat_natCast, List.append_nil]
  rw [e]
  refine Ev.congr (f := fun k => chinoiserieref01_Digits.j0 k (n : Int) false) (fun k => by rw [if_neg (by omega), decide_eq_false (by omega)]) ?_
  refine Ev.step (fun k => ?_) (digits_ev n [] (by omega) (by simp; omega))
  rw [chinoiserieref01_Digits.j0, if_neg (by simp)]
end Go.Proofs.YtipmnecfbbjahaaDoor.PHost
