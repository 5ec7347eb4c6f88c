/- Plain laws: the chapter's examples; HostNorms and HostWrites. -/
import Derived.Test.YtipmnecfbbjahaaDoorPureC
import Derived.Test.YtipmnecfbbjahaaDoorPHostx5
set_option linter.unusedVariables false
set_option linter.unusedSimpArgs false
namespace Go.Proofs.YtipmnecfbbjahaaDoor.PHost
open Go.RowKit Go.Proofs.YtipmnecfbbjahaaDoorW.PrintWords Go.Proofs.YtipmnecfbbjahaaDoorW.PrintLast Go.Proofs.YtipmnecfbbjahaaDoorW.PrintMore

/-- What Norm answers, with the reference's port: for closed texts. -/
def normC (s : ByteArray) : ByteArray × Int × Int := normA (cutB s.data.toList 58).1 (if (cutB s.data.toList 58).2.2 = true then portR (cutB s.data.toList 58).2.1 else 80)
theorem norm_c (s : ByteArray) : normR s = normC s := by
  rw [normR_eq]
  unfold normC normPort
  rw [port_same]
theorem norms_yes (s w : ByteArray) (p : Int) (hs : s.size ≤ 1000) (hp : p ≠ 0) (h : normC s = (w, p, 0)) : chinoiserielaw06_norms.f s w p = some true := by
  unfold chinoiserielaw06_norms.f
  rw [norm_f s (by omega), norm_c, h, Option.bind_some, if_neg hp, if_pos rfl, if_pos rfl]
  rfl
theorem norms_no (s w : ByteArray) (hs : s.size ≤ 1000) (h : normC s = (⟨#[]⟩, 0, 60)) : chinoiserielaw06_norms.f s w 0 = some true := by
  unfold chinoiserielaw06_norms.f
  rw [norm_f s (by omega), norm_c, h, Option.bind_some, if_pos rfl, toList_eq, if_pos rfl, if_pos rfl]
  rfl
set_option maxRecDepth 100000 in
theorem works_ev : Ev (fun k => chinoiserielaw06_works.f k) true := by
  have n1 := norms_yes ⟨#[83, 104, 111, 112, 46, 69, 120, 97, 109, 112, 108, 101, 46, 111, 114, 103]⟩ ⟨#[115, 104, 111, 112, 46, 101, 120, 97, 109, 112, 108, 101, 46, 111, 114, 103]⟩ 80 (by decide) (by decide) (by rfl)
  have n2 := norms_yes ⟨#[97, 58, 56, 48, 56, 48]⟩ ⟨#[97]⟩ 8080 (by decide) (by decide) (by rfl)
  have n3 := norms_yes ⟨#[97, 58, 56, 48]⟩ ⟨#[97]⟩ 80 (by decide) (by decide) (by rfl)
  have n4 := norms_no ⟨#[97, 58, 48]⟩ ⟨#[]⟩ (by decide) (by rfl)
  have n5 := norms_no ⟨#[97, 58]⟩ ⟨#[]⟩ (by decide) (by rfl)
  have n6 := norms_no ⟨#[45, 97]⟩ ⟨#[]⟩ (by decide) (by rfl)
  have n7 := norms_no ⟨#[97, 46, 46, 98]⟩ ⟨#[]⟩ (by decide) (by rfl)
  have n8 := norms_no ⟨#[]⟩ ⟨#[]⟩ (by decide) (by rfl)
  have w1 : writeR ⟨#[97]⟩ 80 = (⟨#[97]⟩, 0) := by rfl
  have i1 : Lib.itoa 443 = [52, 52, 51] := by
    unfold Lib.itoa
    rw [if_neg (by decide)]
    exact (dec_own [52, 52, 51] (by simp) (by decide) 443 (by rfl)).1
  have w2 : writeR ⟨#[97]⟩ 443 = (⟨#[97, 58, 52, 52, 51]⟩, 0) := by
    unfold writeR
    rw [i1]
    rfl
  have w3 : writeR ⟨#[65]⟩ 80 = (⟨#[]⟩, 60) := by rfl
  have m1 : host_Match.f ⟨#[42, 46, 98, 46, 99]⟩ ⟨#[97, 46, 98, 46, 99]⟩ = some true := by rw [match_f _ _ (by decide) (by decide)]; rfl
  have m2 : host_Match.f ⟨#[42, 46, 98, 46, 99]⟩ ⟨#[98, 46, 99]⟩ = some false := by rw [match_f _ _ (by decide) (by decide)]; rfl
  have m3 : host_Match.f ⟨#[42, 46, 98, 46, 99]⟩ ⟨#[120, 46, 97, 46, 98, 46, 99]⟩ = some false := by rw [match_f _ _ (by decide) (by decide)]; rfl
  have m4 : host_Match.f ⟨#[98, 46, 99]⟩ ⟨#[98, 46, 99]⟩ = some true := by rw [match_f _ _ (by decide) (by decide)]; rfl
  have m5 : host_Match.f ⟨#[42, 46, 99]⟩ ⟨#[42, 46, 99]⟩ = some false := by rw [match_f _ _ (by decide) (by decide)]; rfl
  have t1 : ((⟨#[97]⟩ : ByteArray).toList = ([97] : List UInt8)) = True := by rw [toList_eq]; exact eq_true rfl
  have t2 : ((⟨#[97, 58, 52, 52, 51]⟩ : ByteArray).toList = ([97, 58, 52, 52, 51] : List UInt8)) = True := by rw [toList_eq]; exact eq_true rfl
  unfold chinoiserielaw06_works.f
  rw [n1, n2, n3, n4, n5, n6, n7, n8]
  simp only [Option.bind_some, if_true, Bool.false_eq_true, if_false, m1, m2, m3, m4, m5, Bool.not_false]
  have h1 := write_ev ⟨#[97]⟩ 80 (by decide)
  have h2 := write_ev ⟨#[97]⟩ 443 (by decide)
  have h3 := write_ev ⟨#[65]⟩ 80 (by decide)
  rw [w1] at h1
  rw [w2] at h2
  rw [w3] at h3
  refine Ev.bind h1 (Ev.bind h2 (Ev.bind h3 ?_))
  simp only [if_true, t1, t2]
  exact Ev.now _

theorem mn_nat (a : ByteArray) (b : Nat) : mn (a.size : Int) b = ((min a.size b : Nat) : Int) := by
  unfold mn
  by_cases h : (b : Int) < (a.size : Int)
  · rw [if_pos h]; omega
  · rw [if_neg h]; omega
def cutS (a : ByteArray) : ByteArray := a.extract 0 (min a.size 100)
theorem cutS_size (a : ByteArray) : (cutS a).size ≤ 100 := by unfold cutS; rw [ByteArray.size_extract]; omega
theorem cut_f (a : ByteArray) : chinoiserielaw06_cut.f a = some (cutS a) := by
  unfold chinoiserielaw06_cut.f cutS
  have e : mn (a.size : Int) 100 = ((min a.size 100 : Nat) : Int) := mn_nat a 100
  rw [e, if_pos (by omega), if_pos (by omega), Int.toNat_natCast]
theorem norms_ev (a : ByteArray) : Ev (fun k => chinoiserielaw06_HostNorms.f k a) true := by
  have hz := cutS_size a
  unfold chinoiserielaw06_HostNorms.f
  simp only [cut_f, Option.bind_some]
  rw [norm_f _ (by omega), plain_f _ (by omega), pattern_f _ (by omega)]
  simp only [Option.bind_some]
  refine Ev.bind (refNorm_ev _ (by omega)) ?_
  simp only [if_true]
  refine Ev.bind (refPlain_ev _) ?_
  simp only [if_true]
  refine Ev.bind (refPattern_ev _) ?_
  simp only [if_true]
  exact Ev.bind works_ev (Ev.now _)
theorem writes_ev (a b : ByteArray) (p : Int) : Ev (fun k => chinoiserielaw06_HostWrites.f k a b p) true := by
  have ha := cutS_size a
  have hb := cutS_size b
  have e2 : (⟨#[42, 46]⟩ : ByteArray).size = 2 := rfl
  have hab : ((⟨#[42, 46]⟩ : ByteArray) ++ cutS b).size ≤ 140737488351232 := by rw [ByteArray.size_append, e2]; omega
  unfold chinoiserielaw06_HostWrites.f
  simp only [cut_f, Option.bind_some]
  rw [match_f (cutS a) (cutS b) (by omega) (by omega), match_f _ (cutS a) hab (by omega)]
  simp only [Option.bind_some]
  refine Ev.bind (write_ev _ p (by omega)) (Ev.bind (refWrite_ev _ p (by omega)) ?_)
  simp only [if_true]
  refine Ev.bind (refMatch_ev _ _) ?_
  simp only [beq_self_eq_true, if_true]
  refine Ev.congr (f := fun k => (chinoiserieref06_Match.f k ((⟨#[42, 46]⟩ : ByteArray) ++ cutS b) (cutS a)).bind fun t167 => (if (matchB ((⟨#[42, 46]⟩ : ByteArray) ++ cutS b) (cutS a) == t167) = true then ((chinoiserielaw06_works.f k).bind fun t168 => (some t168)) else (some false))) (fun k => by rw [if_pos (by omega)]) ?_
  refine Ev.bind (refMatch_ev _ _) ?_
  simp only [beq_self_eq_true, if_true]
  exact Ev.bind works_ev (Ev.now _)
end Go.Proofs.YtipmnecfbbjahaaDoor.PHost
