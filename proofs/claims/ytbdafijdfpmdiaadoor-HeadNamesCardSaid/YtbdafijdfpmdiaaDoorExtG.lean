/- The reference's Bytes: the lines of heads that may be. -/
import Derived.Test.YtbdafijdfpmdiaaDoorExtB
import Derived.Test.YtbdafijdfpmdiaaDoorPHeadx3
import Derived.Lib.Hide
import Derived.BigQuiet
import Derived.Outline
namespace Go.Proofs.YtbdafijdfpmdiaaDoor.PHead
open Go.RowKit Go.Proofs.YtbdafijdfpmdiaaDoorW.PrintWords Go.Proofs.YtbdafijdfpmdiaaDoorW.PrintLast Go.Proofs.YtbdafijdfpmdiaaDoorW.PrintMore

def chinoiserieref04_Bytes.f (k : Nat) (l : List S28) : Option (List Int × Int) := (chinoiserieref04_Check.f k l).bind fun e => if e = 0 then (if l.length ≤ 16 ∧ ∀ h ∈ l, h.f0.size ≤ 1000 ∧ h.f1.size ≤ 1000 then some (numsB (linesB l), 0) else none) else some ([], e)
theorem chinoiserieref04_Bytes.mono : ∀ a0 k, LeO (chinoiserieref04_Bytes.f k a0) (chinoiserieref04_Bytes.f (k + 1) a0) := fun a0 k r h => by
  unfold chinoiserieref04_Bytes.f at h ⊢
  obtain ⟨e, h1, h2⟩ := Option.bind_eq_some_iff.mp h
  rw [chinoiserieref04_Check.mono a0 k e h1]
  exact h2
theorem linesB_len (l : List S28) (n : Nat) (h : ∀ x ∈ l, x.f0.size ≤ 1000 ∧ x.f1.size ≤ 1000) (hn : l.length ≤ n) : (linesB l).length ≤ n * 2004 := by
  induction l generalizing n with
  | nil => simp [linesB]
  | cons x l ih =>
    obtain ⟨n, rfl⟩ : ∃ m, n = m + 1 := ⟨n - 1, by simp at hn; omega⟩
    have h1 := h x (List.mem_cons_self ..)
    have h2 := ih n (fun y hy => h y (List.mem_cons_of_mem _ hy)) (by simpa using hn)
    have e1 : x.f0.data.toList.length = x.f0.size := by rw [Array.length_toList]; rfl
    have e2 : x.f1.data.toList.length = x.f1.size := by rw [Array.length_toList]; rfl
    have : (lineB x).length = x.f0.size + x.f1.size + 4 := by unfold lineB; simp only [List.length_append, e1, e2, List.length_cons, List.length_nil]; omega
    unfold linesB at h2 ⊢
    rw [List.flatMap_cons, List.length_append, this]
    omega

set_option maxHeartbeats 4000000 in
set_option maxRecDepth 100000 in
theorem chinoiserieref04_Bytes.calls (k : Nat) (A0 : Option Addr) (c0 : Nat) (l0 : List S28) (r1 : List Int) (r2 : Int) (w : World) (hr0 : Kd.C k28 w A0 l0.length l0) (hc0 : l0.length ≤ c0) (h : chinoiserieref04_Bytes.f k l0 = some (r1, r2)) :
    Calls Tryd.prog 32 #[.slice A0 l0.length c0] w fun e w' => ∃ v0_ : Value, e = .returned (.tuple #[v0_, .int .i64 r2]) ∧ Kd.V (Kd.int .u8) 5 w' w.heap.size (fun k_ => w.heap.size ≤ k_) v0_ r1 ∧ Below w.heap.size w w' := by
  unfold chinoiserieref04_Bytes.f at h
  obtain ⟨e, hch, h⟩ := Option.bind_eq_some_iff.mp h
  have HC := Lib.hid hch
  have HR := Lib.hid hr0
  have HCap := Lib.hid hc0
  clear hch hr0 hc0
  by_cases he : e = 0
  · subst he
    rw [if_pos rfl] at h
    split at h
    case isFalse => simp at h
    rename_i hg
    obtain ⟨hl16, hsz⟩ := hg
    simp only [Option.some.injEq, Prod.mk.injEq] at h
    obtain ⟨rfl, rfl⟩ := h
    have HSZ := Lib.hid hsz
    clear hsz
    go_enter Tryd.func32, Tryd.ntmps32
    go_wp2_with (go_at_call 15; refine (chinoiserieref04_Check.calls k _ _ l0 0 _ HR.out HCap.out HC.out).mono ?_; rintro e w1 ⟨rfl, hd⟩)
    have hbel := hd.below
    have HS0 : linesB (l0.take 0) = [] := rfl
    go_loopw [5, 6] (fun v5 v6 wr => ∃ (j : Nat) (T : ByteArray), v5 = .string T ∧ v6 = .int .i64 j ∧ j ≤ l0.length ∧ T.data.toList = linesB (l0.take j) ∧ Below w.heap.size w wr) (fun _ i _ => l0.length - (intOf i).toNat)
    case atStart => exact ⟨0, ⟨#[]⟩, rfl, rfl, Nat.zero_le _, rfl, hbel⟩
    case round =>
      clear hbel hd HS0
      obtain ⟨j, T, rfl, rfl, hj, hT, hbel⟩ := hrel
      by_cases hlt : j < l0.length
      · have hread := Kd.C_below HR.out hbel
        obtain ⟨ad, eA, hc0, hc1⟩ := at_T28 hread (j : Int) (by omega) (by omega)
        have hget : rd_T28 l0 (j : Int) = l0[j] := by simp [rd_T28, List.getD, hlt]
        rw [hget] at hc0 hc1
        have hx := HSZ.out l0[j] (List.getElem_mem hlt)
        have htake : linesB (l0.take (j + 1)) = linesB (l0.take j) ++ lineB l0[j] := by
          unfold linesB
          rw [List.take_succ_eq_append_getElem hlt, List.flatMap_append]
          simp only [List.flatMap_cons, List.flatMap_nil, List.append_nil]
        have hTs : T.size ≤ 16 * 2004 := by
          have := linesB_len (l0.take j) 16 (fun x hx => HSZ.out x (List.mem_of_mem_take hx)) (by rw [List.length_take]; omega)
          rw [← hT, Array.length_toList] at this
          exact this
        obtain ⟨x, hxe⟩ : ∃ x, l0[j] = x := ⟨_, rfl⟩
        rw [hxe] at hc0 hc1 hx htake
        obtain ⟨hx0, hx1⟩ := hx
        have q1 : (9223372036854775807 < T.size + x.f0.size) = False := eq_false (by omega)
        have q2 : (9223372036854775807 < T.size + x.f0.size + 2) = False := eq_false (by omega)
        have q3 : (9223372036854775807 < T.size + x.f0.size + 2 + x.f1.size) = False := eq_false (by omega)
        have q4 : (9223372036854775807 < T.size + x.f0.size + 2 + x.f1.size + 2) = False := eq_false (by omega)
        have hnew : (T ++ x.f0 ++ ⟨#[58, 32]⟩ ++ x.f1 ++ ⟨#[13, 10]⟩ : ByteArray).data.toList = linesB (l0.take (j + 1)) := by
          rw [htake, ← hT]
          simp [lineB, ByteArray.data_append]
        have HN := Lib.hid hnew
        have HB := Lib.hid hbel
        rw [Int.toNat_natCast] at hc0 hc1
        clear hnew hbel hread hget htake hT hTs hxe
        subst eA
        have hji : (j : Int) < (l0.length : Int) := by omega
        go_wp2
        go_quiet (fail)
        go_wp2
        go_roundw
        case rel => exact ⟨j + 1, _, rfl, by go_num, by omega, HN.out, by apply pw_below_drewN; exact HB.out⟩
        case measure => simp [intOf]; omega
      · obtain rfl : j = l0.length := by omega
        rw [List.take_length] at hT
        have hcv := fun (w : World) => Lib.run_convert_string_bytes (P := Tryd.prog) w 9 38 5 T Tryd.underlying9 Tryd.underlying38 Tryd.underlying5
        have hV : Kd.V (Kd.int .u8) 5 (Lib.bytesWorld wr 5 T) w.heap.size (fun k_ => w.heap.size ≤ k_) (.slice (some ⟨wr.heap.size, 0, none⟩) T.size (grownCap wr T.size 0 5)) (numsB (linesB l0)) := by
          have hl : (numsB (linesB l0)).length = T.size := by unfold numsB; rw [← hT, List.length_map, Array.length_toList]; rfl
          have hrow := BRow.conv wr T
          rw [hT] at hrow
          rw [← hl]
          refine Kd.V_mk (by rw [hl]; exact grownCap_ge wr T.size 0 5) (fun W' hW' => ?_)
          have hrow' : BRow W' wr.heap.size (numsB (linesB l0)) := by
            obtain ⟨cur, h1, h2, h3⟩ := hrow
            exact ⟨cur, (hW' wr.heap.size hbel.size (by rw [Lib.bytesWorld_size]; omega)).trans h1, h2, h3⟩
          have hTs : T.size ≤ 16 * 2004 := by
            have := linesB_len l0 16 (fun x hx => HSZ.out x hx) hl16
            rw [← hT, Array.length_toList] at this
            exact this
          refine Kd.C_of_reads (enc := Value.int .u8) (d := (0 : Int)) (h1 := fun _ => rfl) ⟨rfl, by rw [hl]; omega, fun _ => ⟨_, rfl, fun i hi => ?_⟩⟩
          have := hrow'.cell i hi
          rw [show (⟨wr.heap.size, 0, none⟩ : Addr).add i = ⟨wr.heap.size, i, none⟩ from by unfold Addr.add; split <;> simp_all]
          exact this
        have hB2 : Below w.heap.size w (Lib.bytesWorld wr 5 T) := hbel.trans ((conv_below wr T).mono hbel.size)
        have HV := Lib.hid hV
        have HB := Lib.hid hB2
        clear hV hB2 hbel hT
        go_wp2
        go_ret2
        exact ⟨_, rfl, HV.out, HB.out⟩
  · rw [if_neg he] at h
    simp only [Option.some.injEq, Prod.mk.injEq] at h
    obtain ⟨rfl, rfl⟩ := h
    have b1 : (e != 0) = true := by rw [bne_iff_ne]; exact he
    clear he
    go_enter Tryd.func32, Tryd.ntmps32
    go_wp2_with (go_at_call 15; refine (chinoiserieref04_Check.calls k _ _ l0 e _ HR.out HCap.out HC.out).mono ?_; rintro e w1 ⟨rfl, hd⟩)
    go_ret2
    exact ⟨_, rfl, Kd.V_nil _ _ _ _ _, hd.below⟩
end Go.Proofs.YtbdafijdfpmdiaaDoor.PHead
