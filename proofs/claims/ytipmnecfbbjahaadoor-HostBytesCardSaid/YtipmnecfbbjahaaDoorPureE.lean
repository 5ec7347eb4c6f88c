/- Plain laws: what was written is told again, in whatever letters. -/
import Derived.Test.YtipmnecfbbjahaaDoorPureD
set_option linter.unusedVariables false
set_option linter.unusedSimpArgs false
namespace Go.Proofs.YtipmnecfbbjahaaDoor.PHost
open Go.RowKit Go.Proofs.YtipmnecfbbjahaaDoorW.PrintWords Go.Proofs.YtipmnecfbbjahaaDoorW.PrintLast Go.Proofs.YtipmnecfbbjahaaDoorW.PrintMore

theorem go_kinds : ∀ (l : List UInt8) (long last x : Nat), plainGo l long last = some x → ∀ b ∈ l, kindB b = 1 ∨ kindB b = 2 ∨ kindB b = 3 := by
  intro l
  induction l with
  | nil => intro _ _ _ _ b hb; cases hb
  | cons c l ih =>
    intro long last x h b hb
    rw [plainGo] at h
    by_cases h1 : kindB c = 3 ∨ (kindB c = 2 ∧ last ≠ 1)
    · rw [if_pos h1] at h
      by_cases h2 : long + 1 > 20
      · rw [if_pos h2] at h; cases h
      · rw [if_neg h2] at h
        rcases List.mem_cons.mp hb with rfl | hb
        · rcases h1 with h1 | h1
          · exact Or.inr (Or.inr h1)
          · exact Or.inr (Or.inl h1.1)
        · exact ih _ _ _ h b hb
    · rw [if_neg h1] at h
      by_cases h2 : kindB c = 1 ∧ last = 3
      · rw [if_pos h2] at h
        rcases List.mem_cons.mp hb with rfl | hb
        · exact Or.inl h2.1
        · exact ih _ _ _ h b hb
      · rw [if_neg h2] at h; cases h
theorem kind_plain (b : UInt8) : (kindB b = 1 ∨ kindB b = 2 ∨ kindB b = 3) → b ≠ 58 ∧ b ≠ 42 ∧ lowB b = b := by
  have h : ∀ n : Fin 256, (kindB (UInt8.ofNat n.1) = 1 ∨ kindB (UInt8.ofNat n.1) = 2 ∨ kindB (UInt8.ofNat n.1) = 3) → UInt8.ofNat n.1 ≠ 58 ∧ UInt8.ofNat n.1 ≠ 42 ∧ lowB (UInt8.ofNat n.1) = UInt8.ofNat n.1 := by decide +kernel
  have := h ⟨b.toNat, UInt8.toNat_lt b⟩
  rwa [UInt8.ofNat_toNat] at this
theorem plain_parts {h : ByteArray} (hp : plainB h = true) : (plainGo h.data.toList 0 1 = some 3) ∧ h.size ≤ 60 := by
  unfold plainB at hp
  simpa using hp
theorem plain_bytes {h : ByteArray} (hp : plainB h = true) : ∀ b ∈ h.data.toList, b ≠ 58 ∧ b ≠ 42 ∧ lowB b = b :=
  fun b hb => kind_plain b (go_kinds _ _ _ _ (plain_parts hp).1 b hb)
theorem map_low {l : List UInt8} (h : ∀ b ∈ l, lowB b = b) : l.map lowB = l := by
  have : l.map lowB = l.map id := List.map_congr_left h
  rwa [List.map_id] at this
theorem low_colon (b : UInt8) : lowB b = 58 ↔ b = 58 := by
  have h : ∀ n : Fin 256, lowB (UInt8.ofNat n.1) = 58 ↔ UInt8.ofNat n.1 = 58 := by decide +kernel
  have := h ⟨b.toNat, UInt8.toNat_lt b⟩
  rwa [UInt8.ofNat_toNat] at this
theorem low_digit (b : UInt8) (h : 48 ≤ (lowB b).toNat ∧ (lowB b).toNat ≤ 57) : lowB b = b := by
  have hh : ∀ n : Fin 256, (48 ≤ (lowB (UInt8.ofNat n.1)).toNat ∧ (lowB (UInt8.ofNat n.1)).toNat ≤ 57) → lowB (UInt8.ofNat n.1) = UInt8.ofNat n.1 := by decide +kernel
  have := hh ⟨b.toNat, UInt8.toNat_lt b⟩
  rw [UInt8.ofNat_toNat] at this
  exact this h
theorem cut_low (l : List UInt8) : cutB (l.map lowB) 58 = ((cutB l 58).1.map lowB, (cutB l 58).2.1.map lowB, (cutB l 58).2.2) := by
  induction l with
  | nil => rfl
  | cons x l ih =>
    rw [List.map_cons, cutB, cutB]
    by_cases h : x = 58
    · rw [if_pos ((low_colon x).2 h), if_pos h]; rfl
    · rw [if_neg (fun e => h ((low_colon x).1 e)), if_neg h, ih]; rfl
theorem cut_at (n v : List UInt8) (h : ∀ b ∈ n, b ≠ 58) : cutB (n ++ 58 :: v) 58 = (n, v, true) := by
  induction n with
  | nil => simp [cutB]
  | cons x n ih =>
    rw [List.cons_append, cutB, if_neg (h x (List.mem_cons_self ..)), ih fun b hb => h b (List.mem_cons_of_mem _ hb)]
theorem cut_none (n : List UInt8) (h : ∀ b ∈ n, b ≠ 58) : cutB n 58 = (n, [], false) := by
  induction n with
  | nil => rfl
  | cons x n ih =>
    rw [cutB, if_neg (h x (List.mem_cons_self ..)), ih fun b hb => h b (List.mem_cons_of_mem _ hb)]
theorem dec_digits : ∀ (l : List UInt8) (acc n : Nat), Lib.decFrom acc l = some n → ∀ b ∈ l, 48 ≤ b.toNat ∧ b.toNat ≤ 57 := by
  intro l
  induction l with
  | nil => intro _ _ _ b hb; cases hb
  | cons c l ih =>
    intro acc n h b hb
    simp only [Lib.decFrom] at h
    cases hd : Lib.digitVal c with
    | none => rw [hd] at h; cases h
    | some d =>
      rw [hd] at h
      rcases List.mem_cons.mp hb with rfl | hb
      · obtain ⟨h1, h2, _⟩ := Lib.digitVal_eq hd
        exact ⟨h1, h2⟩
      · exact ih _ _ h b hb
theorem itoa_dec {p : Int} (h0 : 1 ≤ p) : Lib.itoa p = Lib.decDigits p.toNat := by unfold Lib.itoa; rw [if_neg (by omega)]
theorem port_itoa {p : Int} (h0 : 1 ≤ p) (h1 : p ≤ 65535) : portB (Lib.itoa p) = p := by
  rw [port_same, itoa_dec h0]
  obtain ⟨b1, b2, b3⟩ := dec_back p.toNat
  have b4 := nd_five p.toNat (by omega)
  have hpos : 0 < (Lib.decDigits p.toNat).length := List.length_pos_iff.mpr b3
  unfold portR
  rw [if_neg (fun hc => by
    rcases hc with hc | hc | hc
    · omega
    · omega
    · exact b2 (by omega) hc), b1]
  unfold portE
  simp only
  rw [if_neg (by omega)]
  omega
theorem map_digits {d e : List UInt8} (h : d.map lowB = e) (he : ∀ b ∈ e, 48 ≤ b.toNat ∧ b.toNat ≤ 57) : d = e := by
  rw [← h]
  symm
  refine map_low fun b hb => low_digit b (he (lowB b) ?_)
  rw [← h]
  exact List.mem_map_of_mem hb
/-- WHAT WAS WRITTEN IS TOLD AGAIN, in whatever letters. -/
theorem norm_back {h t : ByteArray} {p : Int} (hp : plainB h = true) (h0 : 1 ≤ p) (h1 : p ≤ 65535) (ht : t.data.toList.map lowB = (writeR h p).1.data.toList) : normR t = (h, p, 0) := by
  have hb := plain_bytes hp
  have hlow : h.data.toList.map lowB = h.data.toList := map_low fun b hb' => (hb b hb').2.2
  have hno : ∀ b ∈ h.data.toList, b ≠ 58 := fun b hb' => (hb b hb').1
  have hA : ∀ (n : List UInt8) (q : Int), n.map lowB = h.data.toList → q ≠ 0 → normA n q = (h, q, 0) := by
    intro n q hn hq
    have e : (⟨(n.map lowB).toArray⟩ : ByteArray) = h := ba_eq hn
    rw [normA_pos hq (by rw [e]; exact hp), e]
  have hc := cut_low t.data.toList
  rw [ht] at hc
  rw [normR_eq]
  unfold writeR at hc
  rw [if_pos ⟨hp, h0, h1⟩] at hc
  by_cases h80 : p = 80
  · rw [if_pos h80, cut_none _ hno] at hc
    simp only [Prod.mk.injEq] at hc
    unfold normPort
    rw [if_neg (by rw [← hc.2.2]; decide), h80]
    exact hA _ _ hc.1.symm (by decide)
  · rw [if_neg h80] at hc
    simp only at hc
    have ed : ((h ++ (⟨#[58]⟩ : ByteArray)) ++ (⟨(Lib.itoa p).toArray⟩ : ByteArray)).data.toList = h.data.toList ++ 58 :: Lib.itoa p := by
      rw [ByteArray.data_append, ByteArray.data_append]; simp
    rw [ed, cut_at _ _ hno] at hc
    simp only [Prod.mk.injEq] at hc
    have hd : (cutB t.data.toList 58).2.1 = Lib.itoa p := map_digits hc.2.1.symm (by
      rw [itoa_dec h0]
      exact dec_digits _ _ _ (dec_back p.toNat).1)
    unfold normPort
    rw [if_pos hc.2.2.symm, hd, port_itoa h0 h1]
    exact hA _ _ hc.1.symm (by omega)
theorem port_range (d : List UInt8) : portB d = 0 ∨ (1 ≤ portB d ∧ portB d ≤ 65535 ∧ Lib.itoa (portB d) = d) := by
  unfold portB
  rcases Lib.atoiAll d with v | _ | _
  rotate_left
  · exact Or.inl rfl
  · exact Or.inl rfl
  · simp only
    by_cases h : 1 ≤ v ∧ v ≤ 65535 ∧ Lib.itoa v = d
    · rw [if_pos h]; exact Or.inr h
    · rw [if_neg h]; exact Or.inl rfl
theorem map_back {h : ByteArray} (hp : plainB h = true) {p : Int} (h0 : 1 ≤ p) (h1 : p ≤ 65535) : (writeR h p).1.data.toList.map lowB = (writeR h p).1.data.toList := by
  refine map_low fun b hb => ?_
  unfold writeR at hb
  rw [if_pos ⟨hp, h0, h1⟩] at hb
  have hh := plain_bytes hp
  by_cases h80 : p = 80
  · rw [if_pos h80] at hb
    exact (hh b hb).2.2
  · rw [if_neg h80] at hb
    have ed : ((h ++ (⟨#[58]⟩ : ByteArray)) ++ (⟨(Lib.itoa p).toArray⟩ : ByteArray)).data.toList = h.data.toList ++ 58 :: Lib.itoa p := by
      rw [ByteArray.data_append, ByteArray.data_append]; simp
    simp only at hb
    rw [ed] at hb
    rcases List.mem_append.mp hb with hb | hb
    · exact (hh b hb).2.2
    · rcases List.mem_cons.mp hb with rfl | hb
      · rfl
      · have := dec_digits _ _ _ (dec_back p.toNat).1 b (by rw [← itoa_dec h0]; exact hb)
        exact lowB_no b (by omega)
theorem write_ok {h : ByteArray} {p : Int} (hp : plainB h = true) (h0 : 1 ≤ p) (h1 : p ≤ 65535) : (writeR h p).2 = 0 := by
  unfold writeR
  rw [if_pos ⟨hp, h0, h1⟩]
  split <;> rfl
theorem write_size {h : ByteArray} {p : Int} (hp : plainB h = true) (h0 : 1 ≤ p) (h1 : p ≤ 65535) : (writeR h p).1.size = if p = 80 then h.size else h.size + 1 + (Lib.itoa p).length := by
  have e1 : (⟨#[58]⟩ : ByteArray).size = 1 := rfl
  unfold writeR
  rw [if_pos ⟨hp, h0, h1⟩]
  by_cases h80 : p = 80
  · rw [if_pos h80, if_pos h80]
  · rw [if_neg h80, if_neg h80, ByteArray.size_append, ByteArray.size_append, e1, mk_size (Lib.itoa p)]
end Go.Proofs.YtipmnecfbbjahaaDoor.PHost
