/- host.Plain: is a text a plain host? -/
import Derived.Test.YtjcocepmmjmckaaDoorJHsB
set_option linter.unusedVariables false
namespace Go.Proofs.YtjcocepmmjmckaaDoor.PHello
open Go.RowKit Go.Proofs.YtjcocepmmjmckaaDoorW.PrintWords Go.Proofs.YtjcocepmmjmckaaDoorW.PrintLast Go.Proofs.YtjcocepmmjmckaaDoorW.PrintMore

theorem tabv_kind (b : UInt8) : tabv b.toNat = (kindB b : Int) := by
  have h : ∀ n : Fin 256, tabv n.1 = (kindB (UInt8.ofNat n.1) : Int) := by decide +kernel
  have := h ⟨b.toNat, UInt8.toNat_lt b⟩
  rw [UInt8.ofNat_toNat] at this
  exact this
theorem kindB_lt (b : UInt8) : kindB b ≤ 4 := by unfold kindB; split <;> (try split) <;> (try split) <;> (try split) <;> (try split) <;> omega

/-- What the rest of a host comes to. -/
def plainRest (s : ByteArray) (i long last : Nat) : Bool := decide (plainGo (s.data.toList.drop i) long last = some 3) && decide (s.size ≤ 60)
def errOf (b : Bool) : Ending := .returned (.int .i64 (if b = true then 0 else 60))

theorem numsB_at (l : List UInt8) (i : Nat) (h : i < l.length) : (numsB l).getD i 0 = ((l[i]).toNat : Int) := by
  simp only [numsB, List.getD, List.getElem?_map, List.getElem?_eq_getElem h, Option.map_some, Option.getD_some]
theorem rest_long (s : ByteArray) (i long last : Nat) (b : UInt8) (hd : s.data.toList.drop i = b :: s.data.toList.drop (i + 1)) (h : kindB b = 3 ∨ (kindB b = 2 ∧ last ≠ 1)) (hl : ¬ long + 1 > 20) : plainRest s i long last = plainRest s (i + 1) (long + 1) (kindB b) := by
  unfold plainRest
  rw [hd, plainGo, if_pos h, if_neg hl]
theorem rest_over (s : ByteArray) (i long last : Nat) (b : UInt8) (hd : s.data.toList.drop i = b :: s.data.toList.drop (i + 1)) (h : kindB b = 3 ∨ (kindB b = 2 ∧ last ≠ 1)) (hl : long + 1 > 20) : plainRest s i long last = false := by
  unfold plainRest
  rw [hd, plainGo, if_pos h, if_pos hl]
  simp
theorem rest_dot (s : ByteArray) (i long last : Nat) (b : UInt8) (hd : s.data.toList.drop i = b :: s.data.toList.drop (i + 1)) (h : kindB b = 1 ∧ last = 3) : plainRest s i long last = plainRest s (i + 1) 0 (kindB b) := by
  unfold plainRest
  rw [hd, plainGo, if_neg (by omega), if_pos h]
theorem rest_no (s : ByteArray) (i long last : Nat) (b : UInt8) (hd : s.data.toList.drop i = b :: s.data.toList.drop (i + 1)) (h1 : ¬ (kindB b = 3 ∨ (kindB b = 2 ∧ last ≠ 1))) (h2 : ¬ (kindB b = 1 ∧ last = 3)) : plainRest s i long last = false := by
  unfold plainRest
  rw [hd, plainGo, if_neg h1, if_neg h2]
  simp
theorem rest_end (s : ByteArray) (long last : Nat) : plainRest s s.size long last = (decide (last = 3) && decide (s.size ≤ 60)) := by
  unfold plainRest
  rw [List.drop_eq_nil_of_le (by rw [data_length]; exact Nat.le_refl _), plainGo]
  simp

set_option maxHeartbeats 4000000 in
set_option maxRecDepth 100000 in
theorem plain_in (a0 : ByteArray) (w : World) (hz : a0.size ≤ 140737488351232) :
    Calls Tryd.prog 69 #[.string a0] w fun e w' => e = errOf (plainB a0) ∧ Below w.heap.size w w' := by
  have hcv := fun (w : World) => Lib.run_convert_string_bytes (P := Tryd.prog) w 9 25 5 a0 Tryd.underlying9 Tryd.underlying25 Tryd.underlying5
  have HCV := Lib.hid hcv
  clear hcv
  go_enter Tryd.func69, Tryd.ntmps69
  go_upto_region 2 with (first | (go_at_call 78; refine (build32 _).mono ?_; rintro e W1 ⟨x, rfl, ht, hb⟩) | (refine wpList_store_row rfl 116 _ _ rfl W1.heap.size x rfl rfl 116 Tryd.zeroCells116 (heap_alloc_new W1 _) (by rw [ht.1]; kernel_rfl) (by rw [ht.1]; exact zero52_size) (tab_one ht) ?_))
  have Hg : ARow ((W1.alloc (.cells Tryd.zeroCells116 116)).setRow W1.heap.size x) W1.heap.size tabv := ⟨x, setRow_heap _ _ _ x 116 (0, 0) (heap_alloc_new W1 _), ht⟩
  have HB : Below w.heap.size w ((W1.alloc (.cells Tryd.zeroCells116 116)).setRow W1.heap.size x) := below_setRow (below_alloc hb _) hb.size x
  obtain ⟨g, hg⟩ : ∃ q, W1.heap.size = q := ⟨_, rfl⟩
  obtain ⟨W2, hW⟩ : ∃ q, (W1.alloc (.cells Tryd.zeroCells116 116)).setRow W1.heap.size x = q := ⟨_, rfl⟩
  rw [hW] at Hg HB ⊢
  rw [hg] at Hg ⊢
  clear hW hg hb ht
  have hcv := HCV.out
  go_wp2
  clear hcv
  have hrow := BRow.conv W2 a0
  have hbel := HB.trans ((conv_below W2 a0).mono HB.size)
  have hg2 : ARow (Lib.bytesWorld W2 5 a0) g tabv := Hg.below (conv_below W2 a0)
  obtain ⟨w1, hw1⟩ : ∃ w1, Lib.bytesWorld W2 5 a0 = w1 := ⟨_, rfl⟩
  rw [hw1] at hrow hbel hg2 ⊢
  clear hw1 Hg HB
  obtain ⟨m, hm⟩ : ∃ m, W2.heap.size = m := ⟨_, rfl⟩
  obtain ⟨cp, hcp⟩ : ∃ c, grownCap W2 a0.size 0 5 = c := ⟨_, rfl⟩
  rw [hcp, hm]
  rw [hm] at hrow
  clear hcp hm
  have hl : a0.size = a0.data.toList.length := (data_length a0).symm
  have HL := Lib.hid hl
  clear hl
  go_loopw [4, 5, 13] (fun v4 v5 v13 wr => ∃ i long last : Nat, v4 = .int .i64 long ∧ v5 = .int .u8 last ∧ v13 = .int .i64 i ∧ i ≤ a0.size ∧ long ≤ 20 ∧ last ≤ 4 ∧ ARow wr g tabv ∧ BRow wr m (numsB a0.data.toList) ∧ plainB a0 = plainRest a0 i long last ∧ Below w.heap.size w wr) (fun _ _ i _ => a0.size - (intOf i).toNat)
  case atStart => exact ⟨0, 0, 1, rfl, rfl, rfl, Nat.zero_le _, by omega, by omega, hg2, hrow, rfl, hbel⟩
  case round =>
    clear hrow hbel hg2
    obtain ⟨i, long, last, rfl, rfl, rfl, hi, hlo, hla, hA, hR, hP, hB⟩ := hrel
    by_cases hlt : i < a0.size
    · have hil : i < a0.data.toList.length := by have := HL.out; omega
      have hlen : (numsB a0.data.toList).length = a0.size := by unfold numsB; rw [List.length_map, ← HL.out]
      have hc := hR.cell i (by omega)
      have hgv := numsB_at a0.data.toList i hil
      rw [hgv] at hc
      have hd : a0.data.toList.drop i = a0.data.toList[i] :: a0.data.toList.drop (i + 1) := List.drop_eq_getElem_cons hil
      obtain ⟨b, hb⟩ : ∃ b, a0.data.toList[i] = b := ⟨_, rfl⟩
      rw [hb] at hc hd
      have hb1 : (b.toNat : Int) < 256 := by have := b.toNat_lt; omega
      have hc2 := hA.cell b.toNat (by omega)
      rw [tabv_kind] at hc2
      have hk4 := kindB_lt b
      have hst1 := rest_long a0 i long last b hd
      have hst2 := rest_over a0 i long last b hd
      have hst3 := rest_dot a0 i long last b hd
      have hst4 := rest_no a0 i long last b hd
      obtain ⟨k, hk⟩ : ∃ k, kindB b = k := ⟨_, rfl⟩
      rw [hk] at hc2 hk4 hst1 hst2 hst3 hst4
      have H1 := Lib.hid hst1
      have H2 := Lib.hid hst2
      have H3 := Lib.hid hst3
      have H4 := Lib.hid hst4
      have HA := Lib.hid hA
      have HR := Lib.hid hR
      have HP := Lib.hid hP
      have HB := Lib.hid hB
      clear hst1 hst2 hst3 hst4 hA hR hP hB hd hk hb hgv hlen hil
      have hii : (i : Int) < (a0.size : Int) := by omega
      have b0 : decide ((i : Int) < (a0.size : Int)) = true := decide_eq_true hii
      by_cases c3 : k = 3
      · have b3 : ((k : Int) == 3) = true := beq_iff_eq.2 (by omega)
        by_cases c20 : long + 1 > 20
        · have b20 : decide (20 < (long : Int) + 1) = true := decide_eq_true (by omega)
          go_wp2
          go_ret
          exact ⟨by rw [HP.out, H2.out (Or.inl c3) c20]; rfl, HB.out⟩
        · have b20 : decide (20 < (long : Int) + 1) = false := decide_eq_false (by omega)
          go_wp2
          go_roundw
          case rel => exact ⟨i + 1, long + 1, k, by go_num, by go_num, by go_num, by omega, by omega, by omega, HA.out, HR.out, by rw [HP.out, H1.out (Or.inl c3) c20], HB.out⟩
          case measure => simp [intOf]; omega
      · have b3 : ((k : Int) == 3) = false := beq_eq_false_iff_ne.2 (by omega)
        by_cases c2 : k = 2
        · have b2 : ((k : Int) == 2) = true := beq_iff_eq.2 (by omega)
          by_cases cl : last = 1
          · have bl : ((last : Int) != 1) = false := bne_eq_false_iff_eq.2 (by omega)
            have bk : ((k : Int) == 1) = false := beq_eq_false_iff_ne.2 (by omega)
            go_wp2
            go_ret
            exact ⟨by rw [HP.out, H4.out (by omega) (by omega)]; rfl, HB.out⟩
          · have bl : ((last : Int) != 1) = true := bne_iff_ne.2 (by omega)
            by_cases c20 : long + 1 > 20
            · have b20 : decide (20 < (long : Int) + 1) = true := decide_eq_true (by omega)
              go_wp2
              go_ret
              exact ⟨by rw [HP.out, H2.out (Or.inr ⟨c2, cl⟩) c20]; rfl, HB.out⟩
            · have b20 : decide (20 < (long : Int) + 1) = false := decide_eq_false (by omega)
              go_wp2
              go_roundw
              case rel => exact ⟨i + 1, long + 1, k, by go_num, by go_num, by go_num, by omega, by omega, by omega, HA.out, HR.out, by rw [HP.out, H1.out (Or.inr ⟨c2, cl⟩) c20], HB.out⟩
              case measure => simp [intOf]; omega
        · have b2 : ((k : Int) == 2) = false := beq_eq_false_iff_ne.2 (by omega)
          by_cases ck : k = 1
          · have bk : ((k : Int) == 1) = true := beq_iff_eq.2 (by omega)
            by_cases cl : last = 3
            · have bl : ((last : Int) == 3) = true := beq_iff_eq.2 (by omega)
              have b20 : decide ((20 : Int) < 0) = false := by decide
              go_wp2
              go_roundw
              case rel => exact ⟨i + 1, 0, k, by go_num, by go_num, by go_num, by omega, by omega, by omega, HA.out, HR.out, by rw [HP.out, H3.out ⟨ck, cl⟩], HB.out⟩
              case measure => simp [intOf]; omega
            · have bl : ((last : Int) == 3) = false := beq_eq_false_iff_ne.2 (by omega)
              go_wp2
              go_ret
              exact ⟨by rw [HP.out, H4.out (by omega) (by omega)]; rfl, HB.out⟩
          · have bk : ((k : Int) == 1) = false := beq_eq_false_iff_ne.2 (by omega)
            go_wp2
            go_ret
            exact ⟨by rw [HP.out, H4.out (by omega) (by omega)]; rfl, HB.out⟩
    · obtain rfl : i = a0.size := by omega
      have hend := rest_end a0 long last
      have HP := Lib.hid hP
      have HE := Lib.hid hend
      have HB := Lib.hid hB
      clear hP hend hB hA hR
      have b0 : decide ((a0.size : Int) < (a0.size : Int)) = false := decide_eq_false (by omega)
      by_cases cl : last = 3
      · have bl : ((last : Int) != 3) = false := bne_eq_false_iff_eq.2 (by omega)
        by_cases c60 : a0.size ≤ 60
        · have b60 : decide (60 < (a0.size : Int)) = false := decide_eq_false (by omega)
          go_wp2
          go_ret
          exact ⟨by rw [HP.out, HE.out, decide_eq_true cl, decide_eq_true c60]; rfl, HB.out⟩
        · have b60 : decide (60 < (a0.size : Int)) = true := decide_eq_true (by omega)
          go_wp2
          go_ret
          exact ⟨by rw [HP.out, HE.out, decide_eq_false c60, Bool.and_false]; rfl, HB.out⟩
      · have bl : ((last : Int) != 3) = true := bne_iff_ne.2 (by omega)
        go_wp2
        go_ret
        exact ⟨by rw [HP.out, HE.out, decide_eq_false cl, Bool.false_and]; rfl, HB.out⟩
theorem host_Plain.calls (a0 : ByteArray) (r : Int) (w : World) (h : host_Plain.f a0 = some r) :
    Calls Tryd.prog 69 #[.string a0] w fun e w' => e = .returned (.int .i64 r) ∧ Below w.heap.size w w' := by
  unfold host_Plain.f at h
  by_cases hz : a0.size ≤ 140737488351232
  · rw [if_pos hz] at h
    obtain rfl := Option.some.inj h
    exact plain_in a0 w hz
  · rw [if_neg hz] at h; cases h
end Go.Proofs.YtjcocepmmjmckaaDoor.PHello
