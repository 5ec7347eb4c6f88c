/- strings.Cut at one byte, strings.TrimPrefix, strconv.Itoa: what they answer, over this program. -/
import Derived.Test.YtjcocepmmjmckaaDoorJHsD
import Derived.Test.YtjcocepmmjmckaaDoorJHsS
import Derived.Lib.Hide
import Derived.Lib.TrimByte
import Derived.Lib.AppendIntMem
set_option linter.unusedVariables false
namespace Go.Proofs.YtjcocepmmjmckaaDoor.PHello
open Go.RowKit Go.Proofs.YtjcocepmmjmckaaDoorW.PrintWords Go.Proofs.YtjcocepmmjmckaaDoorW.PrintLast Go.Proofs.YtjcocepmmjmckaaDoorW.PrintMore

theorem cutB_cases (c : UInt8) : ∀ l : List UInt8, (Lib.indexByte l c = -1 ∧ cutB l c = (l, [], false)) ∨ ∃ i : Nat, Lib.indexByte l c = (i : Int) ∧ i < l.length ∧ cutB l c = (l.take i, l.drop (i + 1), true)
  | [] => .inl ⟨rfl, rfl⟩
  | b :: l => by
    by_cases h : b = c
    · exact .inr ⟨0, by simp [Lib.indexByte, h], by simp, by simp [cutB, h]⟩
    · rcases cutB_cases c l with ⟨h1, h2⟩ | ⟨i, h1, h2, h3⟩
      · exact .inl ⟨by simp [Lib.indexByte, h, h1], by simp [cutB, h, h2]⟩
      · refine .inr ⟨i + 1, ?_, by simp; omega, by simp [cutB, h, h3]⟩
        have : ¬ ((i : Int) = -1) := by omega
        simp [Lib.indexByte, h, h1, this]

theorem arr_size (l : List UInt8) : (⟨l.toArray⟩ : ByteArray).size = l.length := by simp [ByteArray.size]
theorem ba_eta (s : ByteArray) : (⟨s.data.toList.toArray⟩ : ByteArray) = s := by cases s; simp

set_option maxHeartbeats 2000000 in
set_option maxRecDepth 100000 in
theorem Cut37 (s : ByteArray) (c : UInt8) (w : World) (hz : s.size ≤ 140737488351232) :
    Calls Tryd.prog 74 #[.string s, .string ⟨#[c]⟩] w fun e w' => e = .returned (.tuple #[.string ⟨(cutB s.data.toList c).1.toArray⟩, .string ⟨(cutB s.data.toList c).2.1.toArray⟩, .bool (cutB s.data.toList c).2.2]) ∧ Below w.heap.size w w' := by
  rcases cutB_cases c s.data.toList with ⟨hi, hc⟩ | ⟨i, hi, hl, hc⟩
  · rw [hc]
    have HI := Lib.hid hi
    clear hi hc
    go_enter Tryd.func74, Tryd.ntmps74
    go_wp2_with (go_at_call 79; refine (Tryd.stringslite_Index_one s c _).mono ?_; rintro e w' ⟨rfl, rfl⟩; rw [HI.out])
    go_ret3
    exact ⟨by rw [ba_eta]; rfl, Below.refl _ _⟩
  · rw [hc]
    have HI := Lib.hid hi
    clear hi hc
    have hs := Lib.size_eq s
    have c1 : (0 : Int) ≤ ↑i := by omega
    have c2 : (↑i : Int) ≤ ↑s.size := by omega
    have c3 : (0 : Int) ≤ ↑i + 1 := by omega
    have c4 : (↑i + 1 : Int) ≤ ↑s.size := by omega
    have e1 : (⟨(s.data.toList.take i).toArray⟩ : ByteArray) = s.extract 0 i := (Lib.extract_upto s i).symm
    have e2 : (⟨(s.data.toList.drop (i + 1)).toArray⟩ : ByteArray) = s.extract (i + 1) s.size := (Lib.extract_from s (i + 1)).symm
    have c5 : (↑i + 1 : Int) ≤ 140737488351232 := by omega
    clear hs hl hz
    simp only [e1, e2]
    clear e1 e2
    go_enter Tryd.func74, Tryd.ntmps74
    go_wp2_with (go_at_call 79; refine (Tryd.stringslite_Index_one s c _).mono ?_; rintro e w' ⟨rfl, rfl⟩; rw [HI.out])
    go_region
    go_wp2
    go_ret3
    exact ⟨rfl, below_drew1 (Below.refl _ _)⟩

set_option maxHeartbeats 1000000 in
set_option maxRecDepth 100000 in
theorem strings_Cut.calls (a0 a1 : ByteArray) (r1 r2 : ByteArray) (r3 : Bool) (w : World) (h : strings_Cut.f a0 a1 = some (r1, r2, r3)) :
    Calls Tryd.prog 65 #[.string a0, .string a1] w fun e w' => e = .returned (.tuple #[.string r1, .string r2, .bool r3]) ∧ Below w.heap.size w w' := by
  unfold strings_Cut.f at h
  split at h
  · rename_i hg
    obtain ⟨h1, h2⟩ := hg
    simp only [Option.some.injEq, Prod.mk.injEq] at h
    obtain ⟨rfl, rfl, rfl⟩ := h
    obtain ⟨c, rfl⟩ : ∃ c, a1 = ⟨#[c]⟩ := by
      obtain ⟨⟨l⟩⟩ := a1
      match l, h1 with
      | [c], _ => exact ⟨c, rfl⟩
    simp only [List.headD_cons]
    clear h1
    have hC := Cut37 a0 c w h2
    have HC := Lib.hid hC
    clear hC h2
    go_enter Tryd.func65, Tryd.ntmps65
    go_wp2_with (go_at_call 74; refine (HC.out).mono ?_; rintro e w' ⟨rfl, hb⟩)
    go_ret3
    exact ⟨rfl, hb⟩
  · simp at h


theorem strconv_Itoa.calls (a0 : Int) (r : ByteArray) (w : World) (h : strconv_Itoa.f a0 = some r) (hL : LW w := by first | exact hL | exact LW.below hL (by repeat (first | (with_reducible first | exact HB.out | apply below_alloc | apply pw_below_drewN | apply below_drew1) | exact HB.out))) :
    Calls Tryd.prog 67 #[.int .i64 a0] w fun e w' => e = .returned (.string r) ∧ Below w.heap.size w w' := by
  unfold strconv_Itoa.f at h
  by_cases hz : -9223372036854775808 ≤ a0 ∧ a0 ≤ 9223372036854775807
  · rw [if_pos hz] at h
    obtain rfl := Option.some.inj h
    refine (Tryd.strconv_Itoa a0 hz.1 hz.2 w hL.1).mono ?_
    rintro e w' ⟨rfl, k, os, rfl⟩
    exact ⟨rfl, Lib.below_grow _ _ (Nat.le_refl _) k os⟩
  · rw [if_neg hz] at h; cases h
end Go.Proofs.YtjcocepmmjmckaaDoor.PHello
