/- head.Lower: every text up to 2^47 bytes in small letters. -/
import Derived.Test.YtbdafijdfpmdiaaDoorExtD
import Derived.Lib.Hide
import Derived.Lib.ConvBytes
import Derived.Lib.Strings
import Derived.Laws.BytesArg
namespace Go.Proofs.YtbdafijdfpmdiaaDoor.PHead
open Go.RowKit Go.Proofs.YtbdafijdfpmdiaaDoorW.PrintWords Go.Proofs.YtbdafijdfpmdiaaDoorW.PrintLast Go.Proofs.YtbdafijdfpmdiaaDoorW.PrintMore

/-- Block g holds the numbers l (bytes), and then some; it bears a conversion's mark. -/
def BRow (W : World) (g : Nat) (l : List Int) : Prop := ∃ cur : Array Value, W.heap[g]? = some (.cells cur 5 (cur.size, cur.size + 1)) ∧ l.length ≤ cur.size ∧ ∀ j, j < l.length → cur[j]? = some (.int .u8 (l.getD j 0))

theorem BRow.cell {W : World} {g : Nat} {l : List Int} (h : BRow W g l) (j : Nat) (hj : j < l.length) : W.cell? ⟨g, j, none⟩ = some (.int .u8 (l.getD j 0)) := by
  obtain ⟨cur, h1, h2, h3⟩ := h
  simp [World.cell?, h1, h3 j hj]
theorem BRow.free {W : World} {g : Nat} {l : List Int} (h : BRow W g l) (j : Nat) (hj : j < l.length) : W.frozen? ⟨g, j, none⟩ = false := by
  obtain ⟨cur, h1, h2, h3⟩ := h
  simp [World.frozen?, h1]
  omega
theorem BRow.set {W : World} {g : Nat} {l : List Int} (h : BRow W g l) (j : Nat) (v : Int) : BRow (W.setCell ⟨g, j, none⟩ (.int .u8 v)) g (l.set j v) := by
  obtain ⟨cur, h1, h2, h3⟩ := h
  refine ⟨cur.setIfInBounds j (.int .u8 v), ?_, by simpa using h2, ?_⟩
  · simp [World.setCell, Array.getElem?_modify, h1]
  · intro i hi
    have hi' : i < l.length := by simpa using hi
    by_cases e : j = i
    · subst e
      have : j < cur.size := by omega
      simp [List.getD, this, hi']
    · rw [Array.getElem?_setIfInBounds_ne (by exact e), h3 i hi']
      simp [List.getD, List.getElem?_set_ne e]
theorem BRow.conv (w : World) (s : ByteArray) : BRow (Lib.bytesWorld w 5 s) w.heap.size (numsB s.data.toList) := by
  have hl : (numsB s.data.toList).length = s.data.size := by unfold numsB; rw [List.length_map, Array.length_toList]
  refine ⟨_, Lib.bytesWorld_at_new w 5 s, ?_, ?_⟩
  · rw [hl]
    unfold Lib.bytesCells
    rw [Array.size_append, Array.size_map]
    omega
  · intro j hj
    rw [hl] at hj
    unfold Lib.bytesCells
    rw [Array.getElem?_append_left (by rw [Array.size_map]; exact hj)]
    unfold numsB
    rw [Array.getElem?_map, Array.getElem?_eq_getElem hj, List.getD, List.getElem?_map, Array.getElem?_toList, Array.getElem?_eq_getElem hj]
    rfl
theorem BRow.below {W W1 : World} {g B : Nat} {l : List Int} (h : BRow W g l) (hb : Below B W W1) (hg : g < B) : BRow W1 g l := by
  obtain ⟨cur, h1, h2, h3⟩ := h
  exact ⟨cur, (hb.block g hg).trans h1, h2, h3⟩
theorem conv_below (w : World) (s : ByteArray) : Below w.heap.size w (Lib.bytesWorld w 5 s) :=
  ⟨rfl, rfl, rfl, by rw [Lib.bytesWorld_size]; omega, fun k hk => Lib.bytesWorld_at_old w 5 s k hk⟩

/-- The first k letters made small. -/
def midL (l : List UInt8) (k : Nat) : List UInt8 := (l.take k).map lowB ++ l.drop k
theorem midL_zero (l : List UInt8) : midL l 0 = l := by simp [midL]
theorem midL_all (l : List UInt8) : midL l l.length = l.map lowB := by simp [midL]
theorem midL_len (l : List UInt8) (k : Nat) (hk : k ≤ l.length) : (midL l k).length = l.length := by simp [midL]; omega
theorem midL_at (l : List UInt8) (k : Nat) (hk : k < l.length) : (numsB (midL l k)).getD k 0 = ((l[k]).toNat : Int) := by
  have h1 : ((l.take k).map lowB).length = k := by simp; omega
  have h2 : (midL l k)[k]? = some l[k] := by
    unfold midL
    rw [List.getElem?_append_right (by omega), h1]
    simp [hk]
  simp [numsB, List.getD, h2]
theorem midL_succ (l : List UInt8) (k : Nat) (hk : k < l.length) : midL l (k + 1) = (midL l k).set k (lowB l[k]) := by
  have h1 : ((l.take k).map lowB).length = k := by simp; omega
  unfold midL
  rw [List.take_succ_eq_append_getElem hk, List.map_append, List.set_append_right _ _ (by omega), h1, Nat.sub_self, List.drop_eq_getElem_cons hk, List.set_cons_zero]
  simp
theorem numsB_set (l : List UInt8) (k : Nat) (b : UInt8) : numsB (l.set k b) = (numsB l).set k (b.toNat : Int) := by simp [numsB, List.map_set]
theorem midL_same (l : List UInt8) (k : Nat) (hk : k < l.length) (h : lowB l[k] = l[k]) : midL l (k + 1) = midL l k := by
  rw [midL_succ l k hk, h]
  have h1 : ((l.take k).map lowB).length = k := by simp; omega
  unfold midL
  rw [List.set_append_right _ _ (by omega), h1, Nat.sub_self, List.drop_eq_getElem_cons hk, List.set_cons_zero]
theorem lowB_up (b : UInt8) (h1 : 65 ≤ (b.toNat : Int)) (h2 : (b.toNat : Int) ≤ 90) : ((lowB b).toNat : Int) = b.toNat + 32 := by
  unfold lowB
  rw [if_pos ⟨by omega, by omega⟩, UInt8.toNat_ofNat']
  omega
theorem lowB_no (b : UInt8) (h : ¬ (65 ≤ (b.toNat : Int) ∧ (b.toNat : Int) ≤ 90)) : lowB b = b := by
  unfold lowB
  rw [if_neg (by omega)]

theorem strOf_numsB (l : List UInt8) : strOfNums (numsB l) = ⟨l.toArray⟩ := by
  unfold strOfNums numsB
  rw [List.map_map]
  have : ((fun n : Int => UInt8.ofNat n.toNat) ∘ fun b : UInt8 => (b.toNat : Int)) = id := by
    funext b
    simp
  rw [this, List.map_id]

set_option maxHeartbeats 2000000 in
set_option maxRecDepth 100000 in
theorem head_Lower.calls (a0 : ByteArray) (r : ByteArray) (w : World) (h : head_Lower.f a0 = some r) :
    Calls Tryd.prog 18 #[.string a0] w fun e w' => e = .returned (.string r) ∧ Below w.heap.size w w' := by
  unfold head_Lower.f at h
  split at h
  case isFalse => simp at h
  rename_i hz
  obtain rfl := Option.some.inj h
  have hcv := fun (w : World) => Lib.run_convert_string_bytes (P := Tryd.prog) w 9 38 5 a0 Tryd.underlying9 Tryd.underlying38 Tryd.underlying5
  go_enter Tryd.func18, Tryd.ntmps18
  go_wp2
  clear hcv
  have hrow := BRow.conv w a0
  have hbel := conv_below w a0
  have hsz := Lib.bytesWorld_size w 5 a0
  obtain ⟨w1, hw1⟩ : ∃ w1, Lib.bytesWorld w 5 a0 = w1 := ⟨_, rfl⟩
  rw [hw1] at hrow hbel hsz ⊢
  clear hw1
  obtain ⟨g, hg⟩ : ∃ g, w.heap.size = g := ⟨_, rfl⟩
  have HG := Lib.hid hg
  obtain ⟨cp, hcp⟩ : ∃ c, grownCap w a0.size 0 5 = c := ⟨_, rfl⟩
  rw [hcp, hg]
  rw [hg] at hrow
  clear hcp hg
  have hl : a0.size = a0.data.toList.length := Lib.size_eq a0
  have HL := Lib.hid hl
  rw [← midL_zero a0.data.toList] at hrow
  clear hl
  go_loopw [10] (fun v10 wr => ∃ k : Nat, v10 = .int .i64 k ∧ k ≤ a0.size ∧ BRow wr g (numsB (midL a0.data.toList k)) ∧ Below w.heap.size w wr ∧ g < wr.heap.size) (fun i _ => a0.size - (intOf i).toNat)
  case atStart => exact ⟨0, rfl, Nat.zero_le _, hrow, hbel, by have := HG.out; omega⟩
  case round =>
    clear hrow hbel
    obtain ⟨k, rfl, hk, hrow, hbel, hgs⟩ := hrel
    by_cases hlt : k < a0.size
    · have hkl : k < a0.data.toList.length := by have := HL.out; omega
      have hat := midL_at a0.data.toList k hkl
      have hlen : (numsB (midL a0.data.toList k)).length = a0.size := by unfold numsB; rw [List.length_map, midL_len _ _ (by omega), ← HL.out]
      have hc := hrow.cell k (by omega)
      have hf := hrow.free k (by omega)
      rw [hat] at hc
      have hs := midL_succ a0.data.toList k hkl
      have hsm := midL_same a0.data.toList k hkl
      have hup := lowB_up (a0.data.toList[k])
      have hno := lowB_no (a0.data.toList[k])
      obtain ⟨b, hb⟩ : ∃ b, a0.data.toList[k] = b := ⟨_, rfl⟩
      rw [hb] at hc hs hsm hup hno
      have hb1 : (b.toNat : Int) < 256 := by have := b.toNat_lt; omega
      have HX := Lib.hid hs
      have HY := Lib.hid hsm
      have HU := Lib.hid hup
      have HN := Lib.hid hno
      have HLen := Lib.hid hlen
      have HR := Lib.hid hrow
      have HB := Lib.hid hbel
      clear hs hsm hup hno hat hlen hrow hb hbel
      by_cases c1 : 65 ≤ (b.toNat : Int)
      · by_cases c2 : (b.toNat : Int) ≤ 90
        · have b1 : decide (65 ≤ (b.toNat : Int)) = true := decide_eq_true c1
          have b2 : decide ((b.toNat : Int) ≤ 90) = true := decide_eq_true c2
          go_wp2
          go_roundw
          case rel =>
            refine ⟨k + 1, by go_num, by omega, ?_, HB.out.setCell (p := ⟨g, k, none⟩) (by rw [HG.out]; exact Nat.le_refl _) _, by simp; exact hgs⟩
            rw [HX.out, numsB_set, HU.out c1 c2, show (b.toNat : Int) + 32 = (b.toNat : Int) + 97 - 65 from by omega]
            exact HR.out.set k _
          case measure => simp [intOf]; omega
        · have b1 : decide (65 ≤ (b.toNat : Int)) = true := decide_eq_true c1
          have b2 : decide ((b.toNat : Int) ≤ 90) = false := decide_eq_false c2
          go_wp2
          go_roundw
          case rel =>
            refine ⟨k + 1, by go_num, by omega, ?_, HB.out, hgs⟩
            rw [HY.out (HN.out (fun hh => c2 hh.2))]
            exact HR.out
          case measure => simp [intOf]; omega
      · have b1 : decide (65 ≤ (b.toNat : Int)) = false := decide_eq_false c1
        go_wp2
        go_roundw
        case rel =>
          refine ⟨k + 1, by go_num, by omega, ?_, HB.out, hgs⟩
          rw [HY.out (HN.out (fun hh => c1 hh.1))]
          exact HR.out
        case measure => simp [intOf]; omega
    · obtain rfl : k = a0.size := by omega
      have hlen : (numsB (midL a0.data.toList a0.size)).length = a0.size := by unfold numsB; rw [List.length_map, midL_len _ _ (by have := HL.out; omega), ← HL.out]
      have hcv2 := run_convert_bytes_arg (P := Tryd.prog) wr 38 5 Tryd.underlying38 Tryd.underlying5 g 0 a0.size cp _ hlen (fun i hi => by rw [Nat.zero_add]; exact hrow.cell i (by omega)) 9 Tryd.underlying9
      have hfin : strOfNums (numsB (midL a0.data.toList a0.size)) = lowS a0 := by
        rw [HL.out, midL_all, strOf_numsB]
        rfl
      rw [hfin] at hcv2
      have HB := Lib.hid hbel
      clear hfin hlen hrow hbel
      go_wp2
      go_ret
      exact ⟨rfl, HB.out⟩
end Go.Proofs.YtbdafijdfpmdiaaDoor.PHead
