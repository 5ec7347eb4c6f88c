/- hello.plain: is a text a plain host, but for capitals, and which. -/
import Derived.Test.YtjcocepmmjmckaaDoorJHsF
import Derived.Test.YtjcocepmmjmckaaDoorJHsS
set_option linter.unusedVariables false
set_option linter.unusedSimpArgs false
namespace Go.Proofs.YtjcocepmmjmckaaDoor.PHello
open Go.RowKit Go.Proofs.YtjcocepmmjmckaaDoorW.PrintWords Go.Proofs.YtjcocepmmjmckaaDoorW.PrintLast Go.Proofs.YtjcocepmmjmckaaDoorW.PrintMore

/-- What hello.plain answers. -/
def hplain (s : ByteArray) : ByteArray × Bool := ((normR s).1, decide ((normR s).2.2 = 0) && !decide (0 ≤ Lib.indexByte s.data.toList 58))
set_option maxHeartbeats 4000000 in
set_option maxRecDepth 100000 in
theorem plain_calls (s : ByteArray) (w : World) (hs : s.size ≤ 140737488351232) (hL : LW w) :
    Calls Tryd.prog 40 #[.string s] w fun e w' => e = .returned (.tuple #[.string (hplain s).1, .bool (hplain s).2]) ∧ Below w.heap.size w w' := by
  have hn : host_Norm.f s = some (normR s) := by unfold host_Norm.f; rw [if_pos hs]
  obtain ⟨⟨a, n, e0⟩, hr⟩ : ∃ r, normR s = r := ⟨_, rfl⟩
  have hp : hplain s = (a, decide (e0 = 0) && !decide (0 ≤ Lib.indexByte s.data.toList 58)) := by unfold hplain; rw [hr]
  rw [hr] at hn
  rw [hp]
  have HN := Lib.hid (host_Norm.calls s a n e0 w hn hL)
  have hb1 : (e0 == 0) = decide (e0 = 0) := by by_cases h : e0 = 0 <;> simp [h]
  clear hn hr hp
  have HI := fun w' => Tryd.strings_Contains_one s 58 w'
  by_cases he : e0 = 0
  · subst he
    go_enter Tryd.func40, Tryd.ntmps40
    go_wp2_with (first | (go_at_call 55; refine (HN.out).mono ?_; rintro e w1 ⟨rfl, hb⟩; have HB := Lib.hid hb; clear hb) | (go_at_call 56; refine (HI _).mono ?_; rintro e w2 ⟨rfl, rfl⟩))
    go_ret2
    exact ⟨by simp, HB.out⟩
  · have hz : (e0 == 0) = false := beq_eq_false_iff_ne.mpr he
    go_enter Tryd.func40, Tryd.ntmps40
    go_wp2_with (first | (go_at_call 55; refine (HN.out).mono ?_; rintro e w1 ⟨rfl, hb⟩; have HB := Lib.hid hb; clear hb))
    go_ret2
    exact ⟨by simp [he], HB.out⟩
end Go.Proofs.YtjcocepmmjmckaaDoor.PHello
