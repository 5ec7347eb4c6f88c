/- Plain law: what is told of a text that is an authority is told of itself again. -/
import Derived.Test.YtipmnecfbbjahaaDoorPureE
import Derived.Test.YtipmnecfbbjahaaDoorPHostx6
set_option linter.unusedVariables false
set_option linter.unusedSimpArgs false
namespace Go.Proofs.YtipmnecfbbjahaaDoor.PHost
open Go.RowKit Go.Proofs.YtipmnecfbbjahaaDoorW.PrintWords Go.Proofs.YtipmnecfbbjahaaDoorW.PrintLast Go.Proofs.YtipmnecfbbjahaaDoorW.PrintMore

theorem norm_parts (s : ByteArray) : (normR s = (⟨#[]⟩, 0, 60)) ∨ ∃ h p, normR s = (h, p, 0) ∧ plainB h = true ∧ 1 ≤ p ∧ p ≤ 65535 ∧ (writeR h p).1.size ≤ s.size := by
  rw [normR_eq]
  by_cases g : normPort (cutB s.data.toList 58) ≠ 0 ∧ plainB ⟨((cutB s.data.toList 58).1.map lowB).toArray⟩ = true
  · right
    have hr : 1 ≤ normPort (cutB s.data.toList 58) ∧ normPort (cutB s.data.toList 58) ≤ 65535 := by
      have g1 := g.1
      unfold normPort at g1 ⊢
      by_cases hc : (cutB s.data.toList 58).2.2 = true
      · rw [if_pos hc] at g1 ⊢
        rcases port_range (cutB s.data.toList 58).2.1 with h | h
        · exact absurd h g1
        · exact ⟨h.1, h.2.1⟩
      · rw [if_neg hc]; decide
    refine ⟨_, _, normA_pos g.1 g.2, g.2, hr.1, hr.2, ?_⟩
    rw [write_size g.2 hr.1 hr.2, mk_size, List.length_map]
    have hl := cutB_len1 s.data.toList 58
    rw [data_length] at hl
    by_cases h80 : normPort (cutB s.data.toList 58) = 80
    · rw [if_pos h80]; exact hl
    · rw [if_neg h80]
      by_cases hc : (cutB s.data.toList 58).2.2 = true
      · have hp : normPort (cutB s.data.toList 58) = portB (cutB s.data.toList 58).2.1 := by unfold normPort; rw [if_pos hc]
        rcases port_range (cutB s.data.toList 58).2.1 with h | h
        · exact absurd (hp.trans h) g.1
        · have hy := congrArg List.length (cutB_yes _ _ hc)
          rw [data_length, List.length_append, List.length_cons] at hy
          rw [hp, h.2.2]
          omega
      · exfalso
        apply h80
        unfold normPort
        rw [if_neg hc]
  · left
    exact normA_neg g
theorem once_ev (a : ByteArray) : Ev (fun k => chinoiserielaw06_HostOnce.f k a) true := by
  have e : mn (a.size : Int) 100 = ((min a.size 100 : Nat) : Int) := mn_nat a 100
  have c1 : (0 ≤ ((min a.size 100 : Nat) : Int)) = True := eq_true (by omega)
  have c2 : (((min a.size 100 : Nat) : Int) ≤ (a.size : Int)) = True := eq_true (by omega)
  have hz := cutS_size a
  unfold chinoiserielaw06_HostOnce.f
  rw [e]
  simp only [c1, c2, if_true]
  have hx : a.extract 0 ((min a.size 100 : Nat) : Int).toNat = cutS a := rfl
  rw [hx, norm_f _ (by omega)]
  rcases norm_parts (cutS a) with h | ⟨h, p, hr, hp, h0, h1, hs⟩
  · have n60 : ((60 : Int) = 0) = False := eq_false (by decide)
    rw [h]
    simp only [Option.bind_some, n60, if_true, if_false, toList_eq]
    exact Ev.bind works_ev (Ev.now _)
  · rw [hr]
    simp only [Option.bind_some, if_true]
    have hh := (plain_parts hp).2
    refine Ev.bind (write_ev h p (by omega)) ?_
    rw [norm_f _ (by omega), norm_back hp h0 h1 (map_back hp h0 h1), write_ok hp h0 h1, plain_f h (by omega)]
    have d1 : (((writeR h p).1.size : Int) ≤ ((cutS a).size : Int)) = True := eq_true (by omega)
    have d2 : ((h.size : Int) ≤ 60) = True := eq_true (by omega)
    have d3 : (plainN h = 0) = True := eq_true (by unfold plainN; rw [if_pos hp])
    simp only [Option.bind_some, if_true, d1, d2, d3]
    exact Ev.bind works_ev (Ev.now _)
end Go.Proofs.YtipmnecfbbjahaaDoor.PHost
