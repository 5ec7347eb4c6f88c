/- Plain laws: what the reference's part and Plain answer, and that host.Plain answers the same. -/
import Derived.Test.YtipmnecfbbjahaaDoorPHostx1
import Derived.Test.YtipmnecfbbjahaaDoorExtE
set_option linter.unusedVariables false
set_option linter.unusedSimpArgs false
namespace Go.Proofs.YtipmnecfbbjahaaDoor.PHost
open Go.RowKit Go.Proofs.YtipmnecfbbjahaaDoorW.PrintWords Go.Proofs.YtipmnecfbbjahaaDoorW.PrintLast Go.Proofs.YtipmnecfbbjahaaDoorW.PrintMore

theorem up1 (n : Nat) (h : n < 9223372036854775807) : wrap64 ((n : Int) + 1) = ((n + 1 : Nat) : Int) := by unfold wrap64; omega
theorem dn1 (n : Nat) (h0 : 1 ≤ n) (h : n < 9223372036854775807) : wrap64 ((n : Int) - 1) = ((n - 1 : Nat) : Int) := by unfold wrap64; omega
theorem bt_nat (s : ByteArray) (i : Nat) (h : i < s.data.toList.length) : bt s (i : Int) = ((s.data.toList[i]).toNat : Int) := by
  have hz : i < s.size := by rw [← data_length]; exact h
  unfold bt
  rw [dif_pos (by simpa using hz)]
  rfl
theorem nums_snoc (l : List UInt8) (b : UInt8) : numsB l ++ [(b.toNat : Int)] = numsB (l ++ [b]) := by simp [numsB]
theorem numsB_length (l : List UInt8) : (numsB l).length = l.length := by simp [numsB]
theorem toList_eq (s : ByteArray) : s.toList = s.data.toList := Lib.toList_data s
theorem ba_eq {s t : ByteArray} (h : s.data.toList = t.data.toList) : s = t := by
  cases s with | mk a => cases t with | mk b => cases a with | mk x => cases b with | mk y => simpa using h
theorem ba_mk (s : ByteArray) : (⟨s.data.toList.toArray⟩ : ByteArray) = s := ba_eq rfl
theorem ext_data (a : ByteArray) (i j : Nat) : (a.extract i j).data.toList = (a.data.toList.take j).drop i := by
  rw [ByteArray.data_extract, Array.toList_extract, List.extract_eq_take_drop, List.drop_take]
theorem mk_size (l : List UInt8) : (⟨l.toArray⟩ : ByteArray).size = l.length := by simp [ByteArray.size]
theorem toNat_eq {a : UInt8} {n : Nat} (hn : n < 256) : ((a.toNat : Int) = (n : Int)) ↔ a = UInt8.ofNat n := by
  constructor
  · intro h
    apply UInt8.toNat_inj.mp
    rw [UInt8.toNat_ofNat']
    omega
  · rintro rfl
    rw [UInt8.toNat_ofNat']
    omega

/-- May a byte stand in a part? -/
def inP (b : UInt8) : Bool := decide (kindB b = 3) || decide (kindB b = 2)
theorem kind_one (b : UInt8) : kindB b = 1 ↔ b = 46 := by
  have h : ∀ n : Fin 256, kindB (UInt8.ofNat n.1) = 1 ↔ UInt8.ofNat n.1 = 46 := by decide +kernel
  have := h ⟨b.toNat, UInt8.toNat_lt b⟩
  rwa [UInt8.ofNat_toNat] at this
theorem kind_two (b : UInt8) : kindB b = 2 ↔ b = 45 := by
  have h : ∀ n : Fin 256, kindB (UInt8.ofNat n.1) = 2 ↔ UInt8.ofNat n.1 = 45 := by decide +kernel
  have := h ⟨b.toNat, UInt8.toNat_lt b⟩
  rwa [UInt8.ofNat_toNat] at this
/-- May that be a part? -/
def partOk (p : List UInt8) : Bool := decide (1 ≤ p.length) && decide (p.length ≤ 20) && (p.head? != some 45) && (p.getLast? != some 45) && p.all inP
/-- The rest of a host, given its part so far. -/
def refGo : List UInt8 → List UInt8 → Bool
  | [], cur => partOk cur
  | c :: l, cur => if c = 46 then partOk cur && refGo l [] else refGo l (cur ++ [c])
/-- A part's beginning: what may still come to be one. -/
def vp (cur : List UInt8) : Bool := decide (cur.length ≤ 20) && (cur.head? != some 45) && cur.all inP
def lastK (cur : List UInt8) : Nat := match cur.getLast? with | none => 1 | some b => kindB b

theorem vp_of_part {p : List UInt8} (h : partOk p = true) : vp p = true := by
  unfold partOk at h
  unfold vp
  simp only [Bool.and_eq_true] at h ⊢
  exact ⟨⟨h.1.1.1.2, h.1.1.2⟩, h.2⟩
theorem vp_pre {p q : List UInt8} (h : vp (p ++ q) = true) : vp p = true := by
  unfold vp at h ⊢
  simp only [Bool.and_eq_true, decide_eq_true_eq, List.length_append, List.all_append, bne_iff_ne] at h ⊢
  refine ⟨⟨by omega, ?_⟩, h.2.1⟩
  cases p with
  | nil => simp
  | cons x p => simpa using h.1.2
theorem ref_bad : ∀ (l cur : List UInt8), vp cur = false → refGo l cur = false := by
  intro l
  induction l with
  | nil =>
    intro cur h
    unfold refGo
    cases hp : partOk cur with
    | false => rfl
    | true => rw [vp_of_part hp] at h; cases h
  | cons c l ih =>
    intro cur h
    unfold refGo
    by_cases hc : c = 46
    · rw [if_pos hc]
      cases hp : partOk cur with
      | false => rfl
      | true => rw [vp_of_part hp] at h; cases h
    · rw [if_neg hc]
      refine ih _ ?_
      cases hv : vp (cur ++ [c]) with
      | false => rfl
      | true => rw [vp_pre hv] at h; cases h
theorem part_last {cur : List UInt8} (h : vp cur = true) : partOk cur = decide (lastK cur = 3) := by
  unfold vp at h
  simp only [Bool.and_eq_true, decide_eq_true_eq] at h
  obtain ⟨⟨h1, h2⟩, h3⟩ := h
  unfold partOk lastK
  rw [h2, h3, decide_eq_true h1]
  cases hl : cur.getLast? with
  | none =>
    have : cur = [] := List.getLast?_eq_none_iff.mp hl
    subst this; rfl
  | some b =>
    have hne : cur ≠ [] := by rintro rfl; simp at hl
    have h0 : 1 ≤ cur.length := List.length_pos_iff.mpr hne
    have hb : inP b = true := List.all_eq_true.mp h3 b (List.mem_of_getLast? hl)
    rw [decide_eq_true h0]
    unfold inP at hb
    simp only [Bool.or_eq_true, decide_eq_true_eq] at hb
    by_cases e : b = 45
    · have := (kind_two b).2 e
      simp [e]
      rw [← e, this]
      decide
    · have k3 : kindB b = 3 := hb.resolve_right (fun h => e ((kind_two b).1 h))
      simp [e, k3]
theorem go_ref : ∀ (l cur : List UInt8), vp cur = true → (decide (plainGo l cur.length (lastK cur) = some 3)) = refGo l cur := by
  intro l
  induction l with
  | nil =>
    intro cur h
    rw [plainGo, refGo, part_last h]
    simp
  | cons c l ih =>
    intro cur h
    rw [plainGo, refGo]
    have hvp := h
    unfold vp at h
    simp only [Bool.and_eq_true, decide_eq_true_eq] at h
    obtain ⟨⟨h1, h2⟩, h3⟩ := h
    have hl1 : lastK cur = 1 → cur = [] := by
      intro e
      unfold lastK at e
      cases hl : cur.getLast? with
      | none => exact List.getLast?_eq_none_iff.mp hl
      | some b =>
        rw [hl] at e
        have hb : inP b = true := List.all_eq_true.mp h3 b (List.mem_of_getLast? hl)
        unfold inP at hb
        simp only [Bool.or_eq_true, decide_eq_true_eq] at hb
        have e' : kindB b = 1 := e
        omega
    by_cases hc : c = 46
    · have k1 : kindB c = 1 := (kind_one c).2 hc
      rw [if_pos hc, k1, if_neg (show ¬ ((1 : Nat) = 3 ∨ ((1 : Nat) = 2 ∧ lastK cur ≠ 1)) by omega), part_last hvp]
      by_cases h3' : lastK cur = 3
      · rw [if_pos ⟨rfl, h3'⟩, decide_eq_true h3', Bool.true_and]
        exact ih [] rfl
      · rw [if_neg (fun e => h3' e.2), decide_eq_false h3']
        simp
    · have k1 : kindB c ≠ 1 := fun e => hc ((kind_one c).1 e)
      rw [if_neg hc]
      have hlast : lastK (cur ++ [c]) = kindB c := by unfold lastK; simp
      by_cases hk : kindB c = 3 ∨ (kindB c = 2 ∧ lastK cur ≠ 1)
      · rw [if_pos hk]
        by_cases h20 : cur.length + 1 > 20
        · rw [if_pos h20, ref_bad l (cur ++ [c])]
          · simp
          · unfold vp
            rw [decide_eq_false (by simp; omega)]; rfl
        · rw [if_neg h20]
          have hv : vp (cur ++ [c]) = true := by
            unfold vp
            simp only [Bool.and_eq_true, decide_eq_true_eq, List.all_append, bne_iff_ne]
            refine ⟨⟨by rw [List.length_append, List.length_singleton]; omega, ?_⟩, h3, ?_⟩
            · cases cur with
              | nil =>
                simp only [List.nil_append, List.head?_cons, ne_eq, Option.some.injEq]
                intro e
                have := (kind_two c).2 e
                rcases hk with hk | hk
                · omega
                · exact hk.2 rfl
              | cons x cur => simpa using h2
            · unfold inP
              rcases hk with hk | hk <;> simp [hk]
          have := ih (cur ++ [c]) hv
          rw [hlast, List.length_append] at this
          exact this
      · rw [if_neg hk, if_neg (fun e => k1 e.1), ref_bad l (cur ++ [c])]
        · simp
        · cases hv : vp (cur ++ [c]) with
          | false => rfl
          | true =>
            exfalso
            unfold vp at hv
            simp only [Bool.and_eq_true, List.all_append, List.all_cons, List.all_nil, Bool.and_true] at hv
            have hi := hv.2.2
            unfold inP at hi
            simp only [Bool.or_eq_true, decide_eq_true_eq] at hi
            rcases hi with hi | hi
            · exact hk (Or.inl hi)
            · have hc45 := (kind_two c).1 hi
              by_cases hn : cur = []
              · subst hn
                have := hv.1.2
                rw [hc45] at this
                exact absurd this (by decide)
              · exact hk (Or.inr ⟨hi, fun e => hn (hl1 e)⟩)
theorem plain_ref (s : ByteArray) : plainB s = (refGo s.data.toList [] && decide (s.size ≤ 60)) := by
  unfold plainB
  have := go_ref s.data.toList [] rfl
  have e : lastK [] = 1 := rfl
  rw [e, List.length_nil] at this
  rw [this]

theorem part_byte (b : UInt8) : inP b = (if (b.toNat : Int) < 97 then (if (b.toNat : Int) < 48 then decide ((b.toNat : Int) = 45) else (if (b.toNat : Int) > 57 then decide ((b.toNat : Int) = 45) else true)) else (if (b.toNat : Int) > 122 then (if (b.toNat : Int) < 48 then decide ((b.toNat : Int) = 45) else (if (b.toNat : Int) > 57 then decide ((b.toNat : Int) = 45) else true)) else true)) := by
  have h : ∀ n : Fin 256, inP (UInt8.ofNat n.1) = (if (n.1 : Int) < 97 then (if (n.1 : Int) < 48 then decide ((n.1 : Int) = 45) else (if (n.1 : Int) > 57 then decide ((n.1 : Int) = 45) else true)) else (if (n.1 : Int) > 122 then (if (n.1 : Int) < 48 then decide ((n.1 : Int) = 45) else (if (n.1 : Int) > 57 then decide ((n.1 : Int) = 45) else true)) else true)) := by decide +kernel
  have := h ⟨b.toNat, UInt8.toNat_lt b⟩
  rwa [UInt8.ofNat_toNat] at this
theorem partl_ev (s : ByteArray) (hs : s.size ≤ 1000) : ∀ (n i : Nat), i + n = s.size → Ev (fun k => chinoiserieref06_part.l0 k s (i : Int)) ((s.data.toList.drop i).all inP) := by
  intro n
  induction n with
  | zero =>
    intro i hi
    rw [List.drop_eq_nil_of_le (by rw [data_length]; omega)]
    refine Ev.step (fun k => ?_) (Ev.now _)
    rw [chinoiserieref06_part.l0, if_neg (by omega)]; rfl
  | succ n ih =>
    intro i hi
    have hlt : i < s.data.toList.length := by rw [data_length]; omega
    have hh := ih (i + 1) (by omega)
    rw [List.drop_eq_getElem_cons hlt, List.all_cons]
    have hb := part_byte s.data.toList[i]
    cases hp : inP s.data.toList[i] with
    | true =>
      rw [hp] at hb
      rw [Bool.true_and]
      refine Ev.step (fun k => ?_) hh
      rw [chinoiserieref06_part.l0, if_pos (by omega), if_pos (by omega), bt_nat s i hlt, up1 i (by omega)]
      generalize ((s.data.toList[i]).toNat : Int) = b at *
      by_cases c5 : b = 45
      · subst c5
        first | rfl | exact absurd hb (by decide)
      · by_cases c1 : b < 97 <;> by_cases c2 : b < 48 <;> by_cases c3 : b > 57 <;> by_cases c4 : b > 122 <;> simp only [c1, c2, c3, c4, c5, if_true, if_false, decide_true, decide_false, Bool.true_eq_false] at hb ⊢
    | false =>
      rw [hp] at hb
      rw [Bool.false_and]
      refine Ev.step (fun k => ?_) (Ev.now _)
      rw [chinoiserieref06_part.l0, if_pos (by omega), if_pos (by omega), bt_nat s i hlt]
      generalize ((s.data.toList[i]).toNat : Int) = b at *
      by_cases c5 : b = 45
      · subst c5
        first | rfl | exact absurd hb (by decide)
      · by_cases c1 : b < 97 <;> by_cases c2 : b < 48 <;> by_cases c3 : b > 57 <;> by_cases c4 : b > 122 <;> simp only [c1, c2, c3, c4, c5, if_true, if_false, decide_true, decide_false, Bool.false_eq_true] at hb ⊢
theorem refPart_ev (s : ByteArray) (hs : s.size ≤ 1000) : Ev (fun k => chinoiserieref06_part.f k s) (partOk s.data.toList) := by
  have hno : Ev (fun k => chinoiserieref06_part.j0 k s true) false := Ev.step (fun k => by rw [chinoiserieref06_part.j0, if_pos rfl]) (Ev.now _)
  unfold chinoiserieref06_part.f partOk
  by_cases h1 : s.size < 1
  · refine Ev.congr (f := fun k => chinoiserieref06_part.j0 k s true) (fun k => by rw [if_pos (by omega)]) ?_
    rw [decide_eq_false (by rw [data_length]; omega)]
    exact hno
  · by_cases h2 : s.size > 20
    · refine Ev.congr (f := fun k => chinoiserieref06_part.j0 k s true) (fun k => by rw [if_neg (by omega), if_pos (by omega)]) ?_
      rw [decide_eq_false (p := s.data.toList.length ≤ 20) (by rw [data_length]; omega), Bool.and_false, Bool.false_and]
      exact hno
    · have hl0 : 0 < s.data.toList.length := by rw [data_length]; omega
      have hlz : s.size - 1 < s.data.toList.length := by rw [data_length]; omega
      have e0 : bt s 0 = ((s.data.toList[0]).toNat : Int) := bt_nat s 0 hl0
      have eh : s.data.toList.head? = some s.data.toList[0] := by rw [List.head?_eq_getElem?, List.getElem?_eq_getElem hl0]
      have el : s.data.toList.getLast? = some s.data.toList[s.size - 1] := by rw [List.getLast?_eq_getElem?, data_length, List.getElem?_eq_getElem hlz]
      rw [decide_eq_true (by rw [data_length]; omega), decide_eq_true (p := s.data.toList.length ≤ 20) (by rw [data_length]; omega), eh, el, Bool.true_and, Bool.true_and]
      have t0 : ((s.data.toList[0]).toNat : Int) = 45 ↔ s.data.toList[0] = 45 := toNat_eq (n := 45) (by omega)
      have t1 : ((s.data.toList[s.size - 1]).toNat : Int) = 45 ↔ s.data.toList[s.size - 1] = 45 := toNat_eq (n := 45) (by omega)
      by_cases g0 : s.data.toList[0] = 45
      · refine Ev.congr (f := fun k => chinoiserieref06_part.j0 k s true) (fun k => by rw [if_neg (by omega), if_neg (by omega), if_pos (by omega), e0, if_pos (t0.2 g0)]) ?_
        rw [g0]
        exact hno
      · have hy : (((s.data.toList[s.size - 1]).toNat : Int) == 45) = decide (s.data.toList[s.size - 1] = 45) := by
          by_cases g1 : s.data.toList[s.size - 1] = 45
          · rw [g1]; rfl
          · rw [decide_eq_false g1]
            exact beq_eq_false_iff_ne.mpr (fun e => g1 (t1.1 e))
        refine Ev.congr (f := fun k => chinoiserieref06_part.j0 k s (decide (s.data.toList[s.size - 1] = 45))) (fun k => by
          rw [if_neg (by omega), if_neg (by omega), if_pos (by omega), e0, if_neg (fun e => g0 (t0.1 e)), dn1 s.size (by omega) (by omega), if_pos (by omega), if_pos (by omega), bt_nat s _ hlz, hy]) ?_
        by_cases g1 : s.data.toList[s.size - 1] = 45
        · rw [decide_eq_true g1, g1]
          simp only [bne_self_eq_false, Bool.and_false, Bool.false_and]
          exact hno
        · rw [decide_eq_false g1]
          have : ((some s.data.toList[0] != some 45) && (some s.data.toList[s.size - 1] != some 45)) = true := by
            rw [Bool.and_eq_true, bne_iff_ne, bne_iff_ne]
            exact ⟨fun e => g0 (Option.some.inj e), fun e => g1 (Option.some.inj e)⟩
          rw [this, Bool.true_and]
          refine Ev.step (fun k => ?_) (partl_ev s hs s.size 0 (by omega))
          rw [chinoiserieref06_part.j0, if_neg (by simp)]
          rfl
theorem plainl_ev (s : ByteArray) (hs : s.size ≤ 60) : ∀ (n i from' : Nat), i + n = s.size → from' ≤ i →
    Ev (fun k => chinoiserieref06_Plain.l0 k s (from' : Int) (i : Int)) (if refGo (s.data.toList.drop i) ((s.data.toList.take i).drop from') = true then (0 : Int) else 60) := by
  intro n
  induction n with
  | zero =>
    intro i from' hi hf
    have hie : i = s.size := by omega
    subst hie
    rw [List.drop_eq_nil_of_le (by rw [data_length]; exact Nat.le_refl _), refGo]
    have hz : (s.extract from' s.size).size ≤ 1000 := by rw [ByteArray.size_extract]; omega
    have hp := refPart_ev _ hz
    rw [ext_data] at hp
    refine Ev.step (f := fun k => chinoiserieref06_Plain.j1 k s (from' : Int) (s.size : Int) true) (fun k => by rw [chinoiserieref06_Plain.l0, if_pos (by omega), if_pos rfl]) ?_
    refine Ev.step (f := fun k => (chinoiserieref06_part.f k (s.extract from' s.size)).bind fun t101 => (if t101 = true then (chinoiserieref06_Plain.l0 k s ((s.size + 1 : Nat) : Int) ((s.size + 1 : Nat) : Int)) else (some 60))) (fun k => by
      rw [chinoiserieref06_Plain.j1, if_pos rfl, if_pos (by omega), if_pos (by omega), if_pos (by omega), Int.toNat_natCast, Int.toNat_natCast, up1 _ (by omega)]) ?_
    refine Ev.bind hp ?_
    cases partOk ((s.data.toList.take s.size).drop from') with
    | true =>
      simp only [if_true]
      refine Ev.step (fun k => ?_) (Ev.now _)
      rw [chinoiserieref06_Plain.l0, if_neg (by omega)]
    | false => simp only [Bool.false_eq_true, if_false]; exact Ev.now _
  | succ n ih =>
    intro i from' hi hf
    have hlt : i < s.data.toList.length := by rw [data_length]; omega
    rw [List.drop_eq_getElem_cons hlt, refGo]
    have t0 : ((s.data.toList[i]).toNat : Int) = 46 ↔ s.data.toList[i] = 46 := toNat_eq (n := 46) (by omega)
    by_cases hc : s.data.toList[i] = 46
    · rw [if_pos hc]
      have hz : (s.extract from' i).size ≤ 1000 := by rw [ByteArray.size_extract]; omega
      have hp := refPart_ev _ hz
      rw [ext_data] at hp
      have hh := ih (i + 1) (i + 1) (by omega) (Nat.le_refl _)
      rw [show (s.data.toList.take (i + 1)).drop (i + 1) = [] from List.drop_eq_nil_of_le (by rw [List.length_take]; omega)] at hh
      refine Ev.step (f := fun k => chinoiserieref06_Plain.j1 k s (from' : Int) (i : Int) true) (fun k => by
        rw [chinoiserieref06_Plain.l0, if_pos (by omega), if_neg (by omega), if_pos (by omega), if_pos (by omega), bt_nat s i hlt, show ((((s.data.toList[i]).toNat : Int)) == 46) = true from beq_iff_eq.mpr (t0.2 hc)]) ?_
      refine Ev.step (f := fun k => (chinoiserieref06_part.f k (s.extract from' i)).bind fun t101 => (if t101 = true then (chinoiserieref06_Plain.l0 k s ((i + 1 : Nat) : Int) ((i + 1 : Nat) : Int)) else (some 60))) (fun k => by
        rw [chinoiserieref06_Plain.j1, if_pos rfl, if_pos (by omega), if_pos (by omega), if_pos (by omega), Int.toNat_natCast, Int.toNat_natCast, up1 _ (by omega)]) ?_
      refine Ev.bind hp ?_
      cases partOk ((s.data.toList.take i).drop from') with
      | true => simp only [if_true, Bool.true_and]; exact hh
      | false => simp only [Bool.false_eq_true, if_false, Bool.false_and]; exact Ev.now _
    · rw [if_neg hc]
      have hh := ih (i + 1) from' (by omega) (by omega)
      rw [List.take_succ_eq_append_getElem hlt, List.drop_append_of_le_length (by rw [List.length_take]; omega)] at hh
      refine Ev.step (f := fun k => chinoiserieref06_Plain.j1 k s (from' : Int) (i : Int) false) (fun k => by
        rw [chinoiserieref06_Plain.l0, if_pos (by omega), if_neg (by omega), if_pos (by omega), if_pos (by omega), bt_nat s i hlt, show ((((s.data.toList[i]).toNat : Int)) == 46) = false from beq_eq_false_iff_ne.mpr (fun e => hc (t0.1 e))]) ?_
      refine Ev.step (fun k => ?_) hh
      rw [chinoiserieref06_Plain.j1, if_neg (by simp), up1 _ (by omega)]
/-- The number that Plain answers. -/
def plainN (s : ByteArray) : Int := if plainB s = true then 0 else 60
theorem plain_f (s : ByteArray) (h : s.size ≤ 140737488351232) : host_Plain.f s = some (plainN s) := by unfold host_Plain.f plainN; rw [if_pos h]
theorem refPlain_ev (s : ByteArray) : Ev (fun k => chinoiserieref06_Plain.f k s) (plainN s) := by
  unfold chinoiserieref06_Plain.f plainN
  rw [plain_ref]
  by_cases h : s.size > 60
  · refine Ev.congr (fun k => by rw [if_pos (by omega)]) ?_
    rw [decide_eq_false (by omega), Bool.and_false]
    exact Ev.now _
  · refine Ev.congr (f := fun k => chinoiserieref06_Plain.l0 k s ((0 : Nat) : Int) ((0 : Nat) : Int)) (fun k => by rw [if_neg (by omega)]; rfl) ?_
    rw [decide_eq_true (by omega), Bool.and_true]
    have := plainl_ev s (by omega) s.size 0 0 (by omega) (Nat.le_refl _)
    simpa using this
end Go.Proofs.YtipmnecfbbjahaaDoor.PHost
