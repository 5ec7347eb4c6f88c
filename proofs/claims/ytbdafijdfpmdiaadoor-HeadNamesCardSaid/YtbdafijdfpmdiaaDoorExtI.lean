/- head.others: what its predicate asks, and how it hands the heads on. -/
import Derived.RangeFuncNested
import Derived.RangeFuncBound
import Derived.RangeFuncCalls
import Derived.RangeFuncLeaves
import Derived.RangeFuncBox
import Derived.Shelf.Abstract
import Derived.Shelf.RegionOpen
import Derived.WalkKit
import Derived.OwnWalkIn
import Derived.TacticsInMore
import Derived.LoopNIn
import Derived.LoopIn
import Derived.Maps.AppendAt
import Derived.Deep.RegionWith
import Derived.Lib.Hide
import Derived.Test.YtbdafijdfpmdiaaDoorExtB
import Derived.Test.YtbdafijdfpmdiaaDoorExtS
import Derived.Test.YtbdafijdfpmdiaaDoorPHeadx3
set_option linter.unusedVariables false
namespace Go.Proofs.YtbdafijdfpmdiaaDoor.PHead
open Go.RowKit Go.Shelf Go.Proofs.YtbdafijdfpmdiaaDoorW.PrintWords Go.Proofs.YtbdafijdfpmdiaaDoorW.PrintLast Go.Proofs.YtbdafijdfpmdiaaDoorW.PrintMore

theorem alike_f (a b : ByteArray) : head_Alike.f a b = some (alk a b) := by
  unfold head_Alike.f head_folded.f alk
  by_cases h1 : isNam a = true
  · by_cases h2 : isNam b = true
    · simp [h1, h2, Lib.toList_data]
    · simp [h1, h2]
  · by_cases h2 : isNam b = true
    · simp [h1, h2]
    · simp [h1, h2]

set_option maxHeartbeats 1000000 in
set_option maxRecDepth 100000 in
theorem get41 (a nm : ByteArray) (B : Nat) (w : World) (hB : Boxed w B 9 (.string nm)) :
    Calls Tryd.prog 41 #[.string a, .pointer (some ⟨B, 0, none⟩)] w fun e w' => e = .returned (.bool (!alk a nm)) ∧ Below w.heap.size w w' := by
  have hm := fun w => head_Alike.calls a nm (alk a nm) w (alike_f a nm)
  have HM := Lib.hid hm
  have hc := hB.cell
  clear hm
  obtain ⟨b, hb⟩ : ∃ b, alk a nm = b := ⟨_, rfl⟩
  rw [hb] at HM ⊢
  clear hb hB
  go_enter Tryd.func41, Tryd.ntmps41
  go_wp2_with (go_at_call 16; refine (HM.out _).mono ?_; rintro e w1 ⟨rfl, hb⟩)
  go_ret
  exact ⟨rfl, hb⟩

set_option maxHeartbeats 1000000 in
set_option maxRecDepth 100000 in
theorem drop50 (a nm : ByteArray) (B : Nat) (w : World) (hB : Boxed w B 9 (.string nm)) :
    Calls Tryd.prog 50 #[.string a, .pointer (some ⟨B, 0, none⟩)] w fun e w' => e = .returned (.bool (alk a nm)) ∧ Below w.heap.size w w' := by
  have hm := fun w => head_Alike.calls a nm (alk a nm) w (alike_f a nm)
  have HM := Lib.hid hm
  have hc := hB.cell
  clear hm
  obtain ⟨b, hb⟩ : ∃ b, alk a nm = b := ⟨_, rfl⟩
  rw [hb] at HM ⊢
  clear hb hB
  go_enter Tryd.func50, Tryd.ntmps50
  go_wp2_with (go_at_call 16; refine (HM.out _).mono ?_; rintro e w1 ⟨rfl, hb⟩)
  go_ret
  exact ⟨rfl, hb⟩

theorem hasPrefix_iso (s p : List UInt8) : Lib.hasPrefix s p = p.isPrefixOf s := rfl

set_option maxHeartbeats 1000000 in
set_option maxRecDepth 100000 in
theorem strip51 (a p : ByteArray) (B : Nat) (w : World) (hB : Boxed w B 9 (.string p)) (hz : a.size ≤ 140737488351232) :
    Calls Tryd.prog 51 #[.string a, .pointer (some ⟨B, 0, none⟩)] w fun e w' => e = .returned (.bool (p.data.toList.isPrefixOf (lowS a).data.toList)) ∧ Below w.heap.size w w' := by
  have hm := fun w => head_Lower.calls a (lowS a) w (by unfold head_Lower.f; rw [if_pos hz])
  have HM := Lib.hid hm
  have hp := fun w => Tryd.strings_HasPrefix (lowS a) p w
  rw [hasPrefix_iso] at hp
  have HP := Lib.hid hp
  have hc := hB.cell
  have hlt := hB.lt
  clear hm hp hz
  obtain ⟨b, hb⟩ : ∃ b, p.data.toList.isPrefixOf (lowS a).data.toList = b := ⟨_, rfl⟩
  obtain ⟨lo, hlo⟩ : ∃ l, lowS a = l := ⟨_, rfl⟩
  rw [hb] at HP ⊢
  rw [hlo] at HP HM
  clear hb hB hlo
  go_enter Tryd.func51, Tryd.ntmps51
  go_wp2_with fail
  go_region_with (first | (go_at_call 18; refine (HM.out _).mono ?_; rintro e w1 ⟨rfl, hb⟩; have hc2 := (hb.cell (p := ⟨B, 0, none⟩) hlt).trans hc) | (go_at_call 52; refine (HP.out _).mono ?_; rintro e w2 ⟨rfl, rfl⟩))
  all_goals
    go_wp2
    go_ret
    exact ⟨rfl, below_step (below_drew1 (Below.refl w.heap.size w)) hb⟩

set_option maxHeartbeats 1000000 in
set_option maxRecDepth 100000 in
theorem others40 (A : Option Addr) (n c : Nat) (f : Value) (hf : ∃ g lb, f = .func (.func g) #[] lb) (w : World) :
    Calls Tryd.prog 40 #[.slice A n c, f] w fun e w' => e = .returned (.func (.func 56) #[] #[.pointer (some ⟨w.heap.size, 0, none⟩), .pointer (some ⟨w.heap.size + 1, 0, none⟩)]) ∧ w' = (w.alloc (.cells #[.slice A n c] 22)).alloc (.cells #[f] 45) := by
  obtain ⟨g, lb, rfl⟩ := hf
  have hmf : ∀ (fn : Fn) (first cap : Array Value) (w : World), (Instr.makeFunc fn first cap).run Tryd.prog w = .ok (.func fn first cap) w := fun _ _ _ _ => rfl
  go_enter Tryd.func40, Tryd.ntmps40
  go_wp2
  go_ret
  exact ⟨rfl, rfl⟩
end Go.Proofs.YtbdafijdfpmdiaaDoor.PHead
