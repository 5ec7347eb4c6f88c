/- host.quiet: a text in small letters. -/
import Derived.Test.YtjcocepmmjmckaaDoorJHsC
set_option linter.unusedVariables false
namespace Go.Proofs.YtjcocepmmjmckaaDoor.PHello
open Go.RowKit Go.Proofs.YtjcocepmmjmckaaDoorW.PrintWords Go.Proofs.YtjcocepmmjmckaaDoorW.PrintLast Go.Proofs.YtjcocepmmjmckaaDoorW.PrintMore

theorem lowB_up (b : UInt8) (h1 : 65 ≤ (b.toNat : Int)) (h2 : (b.toNat : Int) ≤ 90) : ((lowB b).toNat : Int) = b.toNat + 32 := by
  unfold lowB
  rw [if_pos ⟨by omega, by omega⟩, UInt8.toNat_ofNat']
  omega
theorem lowB_no (b : UInt8) (h : ¬ (65 ≤ (b.toNat : Int) ∧ (b.toNat : Int) ≤ 90)) : lowB b = b := by
  unfold lowB
  rw [if_neg (by omega)]

theorem strOf_numsB (l : List UInt8) : strOfNums (numsB l) = ⟨l.toArray⟩ := by
  unfold strOfNums numsB
  rw [List.map_map]
  have : ((fun n : Int => UInt8.ofNat n.toNat) ∘ fun b : UInt8 => (b.toNat : Int)) = id := by
    funext b
    simp
  rw [this, List.map_id]


theorem ARow.far {W : World} {f : Nat → Int} (m g : Nat) (hne : m < g) (h : ARow W g f) (j : Nat) (v : Value) : ARow (W.setCell ⟨m, j, none⟩ v) g f := by
  obtain ⟨cells, h1, h2⟩ := h
  exact ⟨cells, by simp [World.setCell, Array.getElem?_modify, h1, show ¬ m = g by omega], h2⟩
theorem loud_iff (b : UInt8) : kindB b = 4 ↔ (65 ≤ (b.toNat : Int) ∧ (b.toNat : Int) ≤ 90) := by
  have h : ∀ n : Fin 256, kindB (UInt8.ofNat n.1) = 4 ↔ (65 ≤ n.1 ∧ n.1 ≤ 90) := by decide +kernel
  have := h ⟨b.toNat, UInt8.toNat_lt b⟩
  rw [UInt8.ofNat_toNat] at this
  rw [this]
  show (65 ≤ b.toNat ∧ b.toNat ≤ 90) ↔ _
  omega
set_option maxHeartbeats 4000000 in
set_option maxRecDepth 100000 in
theorem quiet29 (a0 : ByteArray) (w : World) (hz : a0.size ≤ 140737488351232) :
    Calls Tryd.prog 68 #[.string a0] w fun e w' => e = .returned (.string (lowS a0)) ∧ Below w.heap.size w w' := by
  have hcv := fun (w : World) => Lib.run_convert_string_bytes (P := Tryd.prog) w 9 25 5 a0 Tryd.underlying9 Tryd.underlying25 Tryd.underlying5
  go_enter Tryd.func68, Tryd.ntmps68
  go_upto_region 2 with (first | (go_at_call 78; refine (build32 _).mono ?_; rintro e W1 ⟨x, rfl, ht, hb⟩) | (refine wpList_store_row rfl 116 _ _ rfl (Lib.bytesWorld W1 5 a0).heap.size x rfl rfl 116 Tryd.zeroCells116 (heap_alloc_new _ _) (by rw [ht.1]; kernel_rfl) (by rw [ht.1]; exact zero52_size) (tab_one ht) ?_))
  clear hcv
  have hrow := BRow.conv W1 a0
  have hb1 : Below w.heap.size w (Lib.bytesWorld W1 5 a0) := hb.trans ((conv_below W1 a0).mono hb.size)
  obtain ⟨m, hm⟩ : ∃ m, W1.heap.size = m := ⟨_, rfl⟩
  have hwm : w.heap.size ≤ m := by rw [← hm]; exact hb.size
  have hmlt : m < (Lib.bytesWorld W1 5 a0).heap.size := by rw [Lib.bytesWorld_size, hm]; omega
  obtain ⟨cp, hcp⟩ : ∃ c, grownCap W1 a0.size 0 5 = c := ⟨_, rfl⟩
  rw [hcp, hm]
  rw [hm] at hrow
  clear hcp hm hb
  obtain ⟨W2, hW2⟩ : ∃ q, Lib.bytesWorld W1 5 a0 = q := ⟨_, rfl⟩
  rw [hW2] at hrow hb1 hmlt ⊢
  clear hW2
  have Hg : ARow ((W2.alloc (.cells Tryd.zeroCells116 116)).setRow W2.heap.size x) W2.heap.size tabv := ⟨x, setRow_heap _ _ _ x 116 (0, 0) (heap_alloc_new W2 _), ht⟩
  have HB : Below w.heap.size w ((W2.alloc (.cells Tryd.zeroCells116 116)).setRow W2.heap.size x) := below_setRow (below_alloc hb1 _) hb1.size x
  have hrow2 : BRow ((W2.alloc (.cells Tryd.zeroCells116 116)).setRow W2.heap.size x) m (numsB a0.data.toList) := hrow.below (below_setRow (below_alloc (Below.refl W2.heap.size W2) _) (Nat.le_refl _) x) hmlt
  obtain ⟨g, hg⟩ : ∃ q, W2.heap.size = q := ⟨_, rfl⟩
  have hmg : m < g := by rw [← hg]; exact hmlt
  obtain ⟨W3, hW⟩ : ∃ q, (W2.alloc (.cells Tryd.zeroCells116 116)).setRow W2.heap.size x = q := ⟨_, rfl⟩
  rw [hW] at Hg HB hrow2 ⊢
  rw [hg] at Hg ⊢
  clear hW hg hb1 hrow hmlt ht
  have hl : a0.size = a0.data.toList.length := (data_length a0).symm
  have HL := Lib.hid hl
  rw [← midL_zero a0.data.toList] at hrow2
  clear hl
  go_wp2
  go_loopw [12] (fun v12 wr => ∃ k : Nat, v12 = .int .i64 k ∧ k ≤ a0.size ∧ BRow wr m (numsB (midL a0.data.toList k)) ∧ ARow wr g tabv ∧ Below w.heap.size w wr) (fun i _ => a0.size - (intOf i).toNat)
  case atStart => exact ⟨0, rfl, Nat.zero_le _, hrow2, Hg, HB⟩
  case round =>
    clear hrow2 Hg HB
    obtain ⟨k, rfl, hk, hrow, hA, hbel⟩ := hrel
    by_cases hlt : k < a0.size
    · have hkl : k < a0.data.toList.length := by have := HL.out; omega
      have hat := midL_at a0.data.toList k hkl
      have hlen : (numsB (midL a0.data.toList k)).length = a0.size := by unfold numsB; rw [List.length_map, midL_len _ _ (by omega), ← HL.out]
      have hc := hrow.cell k (by omega)
      have hf := hrow.free k (by omega)
      rw [hat] at hc
      have hs := midL_succ a0.data.toList k hkl
      have hsm := midL_same a0.data.toList k hkl
      have hup := lowB_up (a0.data.toList[k])
      have hno := lowB_no (a0.data.toList[k])
      obtain ⟨b, hb⟩ : ∃ b, a0.data.toList[k] = b := ⟨_, rfl⟩
      rw [hb] at hc hs hsm hup hno
      have hb1 : (b.toNat : Int) < 256 := by have := b.toNat_lt; omega
      have hc2 := hA.cell b.toNat (by omega)
      rw [tabv_kind] at hc2
      have hli := loud_iff b
      obtain ⟨kd, hkd⟩ : ∃ kd, kindB b = kd := ⟨_, rfl⟩
      rw [hkd] at hc2 hli
      have HX := Lib.hid hs
      have HY := Lib.hid hsm
      have HU := Lib.hid hup
      have HN := Lib.hid hno
      have HLen := Lib.hid hlen
      have HR := Lib.hid hrow
      have HB := Lib.hid hbel
      have HA := Lib.hid hA
      have HI := Lib.hid hli
      clear hs hsm hup hno hat hlen hrow hb hbel hA hli hkd
      have hii : (k : Int) < (a0.size : Int) := by omega
      have b0 : decide ((k : Int) < (a0.size : Int)) = true := decide_eq_true hii
      by_cases c4 : kd = 4
      · have b4 : ((kd : Int) == 4) = true := beq_iff_eq.2 (by omega)
        obtain ⟨c1, c2⟩ := HI.out.1 c4
        go_wp2
        go_roundw
        case rel =>
          refine ⟨k + 1, by go_num, by omega, ?_, ARow.far m g hmg HA.out k _, HB.out.setCell (p := ⟨m, k, none⟩) hwm _⟩
          rw [HX.out, numsB_set, HU.out c1 c2]
          have e : (b.toNat : Int) + 32 = (b.toNat : Int) - 65 + 97 := by omega
          rw [e]
          exact HR.out.set k _
        case measure => simp [intOf]; omega
      · have b4 : ((kd : Int) == 4) = false := beq_eq_false_iff_ne.2 (by omega)
        go_wp2
        go_roundw
        case rel =>
          refine ⟨k + 1, by go_num, by omega, ?_, HA.out, HB.out⟩
          rw [HY.out (HN.out (fun hh => c4 (HI.out.2 hh)))]
          exact HR.out
        case measure => simp [intOf]; omega
    · obtain rfl : k = a0.size := by omega
      have b0 : decide ((a0.size : Int) < (a0.size : Int)) = false := decide_eq_false (by omega)
      have hlen : (numsB (midL a0.data.toList a0.size)).length = a0.size := by unfold numsB; rw [List.length_map, midL_len _ _ (by have := HL.out; omega), ← HL.out]
      have hcv2 := run_convert_bytes_arg (P := Tryd.prog) wr 25 5 Tryd.underlying25 Tryd.underlying5 m 0 a0.size cp _ hlen (fun i hi => by rw [Nat.zero_add]; exact hrow.cell i (by omega)) 9 Tryd.underlying9
      have hfin : strOfNums (numsB (midL a0.data.toList a0.size)) = lowS a0 := by
        rw [HL.out, midL_all, strOf_numsB]
        rfl
      rw [hfin] at hcv2
      have HB := Lib.hid hbel
      clear hfin hlen hrow hbel hA
      go_wp2
      go_ret
      exact ⟨rfl, HB.out⟩
end Go.Proofs.YtjcocepmmjmckaaDoor.PHello
