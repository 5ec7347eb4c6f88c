/- Plain law: what a line tells. -/
import Derived.Test.YtbdafijdfpmdiaaDoorPureC
import Derived.Test.YtbdafijdfpmdiaaDoorPHeadx11
set_option linter.unusedVariables false
set_option linter.unusedSimpArgs false
namespace Go.Proofs.YtbdafijdfpmdiaaDoor.PHead
open Go.RowKit Go.Proofs.YtbdafijdfpmdiaaDoorW.PrintWords Go.Proofs.YtbdafijdfpmdiaaDoorW.PrintLast Go.Proofs.YtbdafijdfpmdiaaDoorW.PrintMore

theorem mn_nat (a : ByteArray) (b : Nat) : mn (a.size : Int) b = ((min a.size b : Nat) : Int) := by
  unfold mn
  by_cases h : (b : Int) < (a.size : Int)
  · rw [if_pos h]; omega
  · rw [if_neg h]; omega
theorem lines_ev (a : ByteArray) : Ev (fun k => chinoiserielaw04_HeadLines.f k a) true := by
  have e : mn (a.size : Int) 400 = ((min a.size 400 : Nat) : Int) := mn_nat a 400
  have hz : (a.extract 0 (min a.size 400)).size ≤ 400 := by rw [ByteArray.size_extract]; omega
  unfold chinoiserielaw04_HeadLines.f
  rw [e]
  refine Ev.congr (f := fun k => (chinoiserieref04_Line.f k (a.extract 0 (min a.size 400))).bind fun bt343 => (if ((lineR (a.extract 0 (min a.size 400))).1.toList == bt343.1.toList && ((lineR (a.extract 0 (min a.size 400))).2.1.toList == bt343.2.1.toList)) = true then (if (lineR (a.extract 0 (min a.size 400))).2.2 = bt343.2.2 then ((chinoiserielaw04_works.f k).bind fun t347 => (some t347)) else (some false)) else (some false))) (fun k => ?_) ?_
  · rw [if_pos (by omega), if_pos (by omega), Int.toNat_natCast, line_f _ (by omega), Option.bind_some]
  · refine Ev.bind (refLine_ev _ hz) ?_
    simp only [beq_self_eq_true, Bool.and_true, if_true]
    exact Ev.bind works_ev (Ev.now _)
end Go.Proofs.YtbdafijdfpmdiaaDoor.PHead
