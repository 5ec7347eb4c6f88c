/- Plain law: each byte; hosts at both ends; ports at both ends. -/
import Derived.Test.YtipmnecfbbjahaaDoorPureD
import Derived.Test.YtipmnecfbbjahaaDoorPHostx9
set_option linter.unusedVariables false
set_option linter.unusedSimpArgs false
namespace Go.Proofs.YtipmnecfbbjahaaDoor.PHost
open Go.RowKit Go.Proofs.YtipmnecfbbjahaaDoorW.PrintWords Go.Proofs.YtipmnecfbbjahaaDoorW.PrintLast Go.Proofs.YtipmnecfbbjahaaDoorW.PrintMore

theorem known3_ev (xs : List Int) (hz : xs.length ≤ 1000) : ∀ (n i : Nat), i + n = xs.length → Ev (fun k => chinoiserielaw06_HostKnown.l3 k xs (i : Int)) true := by
  intro n
  induction n with
  | zero =>
    intro i hi
    refine Ev.step (f := fun k => (chinoiserielaw06_works.f k).bind fun t265 => (some t265)) (fun k => by rw [chinoiserielaw06_HostKnown.l3, if_neg (by omega)]) (Ev.bind works_ev (Ev.now _))
  | succ n ih =>
    intro i hi
    refine Ev.step (f := fun k => (chinoiserielaw06_HostWrites.f k (⟨#[97, 46, 98]⟩ : ByteArray) (⟨#[98]⟩ : ByteArray) (rd xs (i : Int))).bind fun t264 => (if t264 = true then (chinoiserielaw06_HostKnown.l3 k xs ((i + 1 : Nat) : Int)) else (some false))) (fun k => by rw [chinoiserielaw06_HostKnown.l3, if_pos (by omega), if_pos (by omega), up1 i (by omega)]) ?_
    refine Ev.bind (writes_ev _ _ _) ?_
    simp only [if_true]
    exact ih (i + 1) (by omega)
theorem known2_ev (xs : List ByteArray) (hz : xs.length ≤ 1000) (i : Nat) (hi : i < xs.length) (next : Ev (fun k => chinoiserielaw06_HostKnown.l1 k xs ((i + 1 : Nat) : Int)) true) : ∀ (n j : Nat), j + n = xs.length → Ev (fun k => chinoiserielaw06_HostKnown.l2 k xs (i : Int) (j : Int)) true := by
  intro n
  induction n with
  | zero =>
    intro j hj
    refine Ev.step (fun k => ?_) next
    rw [chinoiserielaw06_HostKnown.l2, if_neg (by omega), up1 i (by omega)]
  | succ n ih =>
    intro j hj
    refine Ev.step (f := fun k => (chinoiserielaw06_HostWrites.f k (rdOf ByteArray.empty xs (i : Int)) (rdOf ByteArray.empty xs (j : Int)) (i : Int)).bind fun t259 => (if t259 = true then (chinoiserielaw06_HostKnown.l2 k xs (i : Int) ((j + 1 : Nat) : Int)) else (some false))) (fun k => by rw [chinoiserielaw06_HostKnown.l2, if_pos (by omega), if_pos (by omega), if_pos (by omega), if_pos (by omega), up1 j (by omega)]) ?_
    refine Ev.bind (writes_ev _ _ _) ?_
    simp only [if_true]
    exact ih (j + 1) (by omega)
theorem known1_ev (xs : List ByteArray) (hz : xs.length ≤ 1000) : ∀ (n i : Nat), i + n = xs.length → Ev (fun k => chinoiserielaw06_HostKnown.l1 k xs (i : Int)) true := by
  intro n
  induction n with
  | zero =>
    intro i hi
    refine Ev.step (fun k => ?_) (known3_ev [(-9223372036854775808), (-1), 0, 1, 79, 80, 81, 65535, 65536, 9223372036854775807] (by decide) 10 0 (by decide))
    rw [chinoiserielaw06_HostKnown.l1, if_neg (by omega)]
    rfl
  | succ n ih =>
    intro i hi
    refine Ev.step (f := fun k => (chinoiserielaw06_HostNorms.f k (rdOf ByteArray.empty xs (i : Int))).bind fun t256 => (if t256 = true then (chinoiserielaw06_HostKnown.l2 k xs (i : Int) ((0 : Nat) : Int)) else (some false))) (fun k => by rw [chinoiserielaw06_HostKnown.l1, if_pos (by omega), if_pos (by omega)]; rfl) ?_
    refine Ev.bind (norms_ev _) ?_
    simp only [if_true]
    exact known2_ev xs hz i (by omega) (ih (i + 1) (by omega)) xs.length 0 (by omega)
theorem known0_ev : ∀ (n i : Nat), i + n = 256 → Ev (fun k => chinoiserielaw06_HostKnown.l0 k (i : Int)) true := by
  intro n
  induction n with
  | zero =>
    intro i hi
    have go : ∀ (xs : List ByteArray), (∀ k, chinoiserielaw06_HostKnown.l0 (k + 1) (i : Int) = chinoiserielaw06_HostKnown.l1 k xs ((0 : Nat) : Int)) → xs.length ≤ 1000 → Ev (fun k => chinoiserielaw06_HostKnown.l0 k (i : Int)) true := fun xs h hx => Ev.step h (known1_ev xs hx xs.length 0 (Nat.zero_add _))
    refine go ?xs ?a ?b
    case a =>
      intro k
      rw [chinoiserielaw06_HostKnown.l0, if_neg (by omega), if_pos (by decide), if_pos (by decide), if_pos (by decide +kernel), if_pos (by decide), if_pos (by decide), if_pos (by decide +kernel), if_pos (by decide +kernel), if_pos (by decide), if_pos (by decide +kernel), if_pos (by decide +kernel), if_pos (by decide), if_pos (by decide +kernel), if_pos (by decide +kernel), if_pos (by decide +kernel), if_pos (by decide +kernel)]
      rfl
    case b => simp
  | succ n ih =>
    intro i hi
    obtain ⟨s, hs⟩ : ∃ s, strOfNums [(i : Int) % 256] = s := ⟨_, rfl⟩
    have hz : s.size = 1 := by rw [← hs, strOfNums_size]; rfl
    have e1 : (⟨#[97]⟩ : ByteArray).size = 1 := rfl
    have e2 : (⟨#[42]⟩ : ByteArray).size = 1 := rfl
    refine Ev.step (f := fun k => (chinoiserielaw06_HostNorms.f k s).bind fun t247 => (if t247 = true then ((chinoiserielaw06_HostNorms.f k ((⟨#[97]⟩ : ByteArray) ++ s)).bind fun t248 => (if t248 = true then ((chinoiserielaw06_HostNorms.f k (((⟨#[97]⟩ : ByteArray) ++ s) ++ (⟨#[98]⟩ : ByteArray))).bind fun t249 => (if t249 = true then ((chinoiserielaw06_HostNorms.f k (((⟨#[42]⟩ : ByteArray) ++ s) ++ (⟨#[97]⟩ : ByteArray))).bind fun t250 => (if t250 = true then ((chinoiserielaw06_HostWrites.f k ((⟨#[97]⟩ : ByteArray) ++ s) ((⟨#[42, 46]⟩ : ByteArray) ++ s) (i : Int)).bind fun t251 => (if t251 = true then (chinoiserielaw06_HostKnown.l0 k ((i + 1 : Nat) : Int)) else (some false))) else (some false))) else (some false))) else (some false))) else (some false))) (fun k => ?_) ?_
    · rw [chinoiserielaw06_HostKnown.l0, if_pos (by omega), Option.bind_some, hs, up1 i (by omega)]
      rw [if_pos (show 1 + s.size ≤ 9223372036854775807 by omega), if_pos (show ((⟨#[97]⟩ : ByteArray) ++ s).size + 1 ≤ 9223372036854775807 by rw [ByteArray.size_append, e1]; omega), if_pos (show ((⟨#[42]⟩ : ByteArray) ++ s).size + 1 ≤ 9223372036854775807 by rw [ByteArray.size_append, e2]; omega), if_pos (show 2 + s.size ≤ 9223372036854775807 by omega)]
    · refine Ev.bind (norms_ev _) ?_
      simp only [if_true]
      refine Ev.bind (norms_ev _) ?_
      simp only [if_true]
      refine Ev.bind (norms_ev _) ?_
      simp only [if_true]
      refine Ev.bind (norms_ev _) ?_
      simp only [if_true]
      refine Ev.bind (writes_ev _ _ _) ?_
      simp only [if_true]
      exact ih (i + 1) (by omega)
theorem known_ev : Ev (fun k => chinoiserielaw06_HostKnown.f k) true := known0_ev 256 0 (by omega)
end Go.Proofs.YtipmnecfbbjahaaDoor.PHost
