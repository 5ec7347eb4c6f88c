/- hello.named: the host in an extension's data; slices.Clone of bytes. -/
import Derived.Test.YtjcocepmmjmckaaDoorJExtP
import Derived.Test.YtjcocepmmjmckaaDoorJHsE
set_option linter.unusedVariables false
set_option linter.unusedSimpArgs false
namespace Go.Proofs.YtjcocepmmjmckaaDoor.PHello
open Go.RowKit Go.Proofs.YtjcocepmmjmckaaDoorW.PrintWords Go.Proofs.YtjcocepmmjmckaaDoorW.PrintLast Go.Proofs.YtjcocepmmjmckaaDoorW.PrintMore

theorem Tch.also {X : Nat → Prop} {a b d : World} {c : Nat} (h : Tch X a b) (k : Tch (· = c) b d) (hc : a.heap.size ≤ c) : Tch X a d :=
  ⟨k.os.trans h.os, k.tape.trans h.tape, k.output.trans h.output, Nat.le_trans h.size k.size, fun i hi hx => (k.block i (Nat.lt_of_lt_of_le hi h.size) (by omega)).trans (h.block i hi hx)⟩
/-- The host that an extension's data names. -/
def namedR (l : List UInt8) : Option (List UInt8) :=
  match allR l 2 with
  | none => none
  | some q => if 1 ≤ q.length ∧ num (q.take 1) = 0 then allR (q.drop 1) 2 else none
set_option maxHeartbeats 1600000 in
set_option maxRecDepth 100000 in
theorem named_ok (W w : World) (b : Nat) (l p : List UInt8) (hW : Below W.heap.size W w) (hc : Cur W w b l) (h : namedR l = some p) :
    Calls Tryd.prog 48 #[.pointer (some ⟨b, 0, none⟩)] w fun e w' => e = .returned (.string ⟨p.toArray⟩) ∧ Tch (· = b) w w' := by
  unfold namedR at h
  split at h
  · cases h
  rename_i q hq
  split at h
  case isFalse => cases h
  rename_i hg
  have H1 := Lib.hid (all_ok W w b l 2 q hW hc (by omega) hq)
  have HW := Lib.hid hW
  have HGe := Lib.hid hc.ge
  have HQ := Lib.hid hg
  have HH := Lib.hid h
  clear hc hW hq hg h
  go_enter Tryd.func48, Tryd.ntmps48
  go_wp2_with (first
    | (go_at_call 27; refine (H1.out).mono ?_; clear H1; rintro e w1 ⟨b1, rfl, hcur, hb, ht⟩; have HW1 := Lib.hid (below_only HW.out HGe.out ht); have HT1 := Lib.hid ht; have HB := Lib.hid hb; have HN := number_ok W w1 b1 q 1 HW1.out hcur HQ.out.1 (by omega); rw [HQ.out.2] at HN; have HG1 := Lib.hid hcur.ge; have HN := Lib.hid HN; clear hcur hb ht)
    | (go_at_call 26; refine (HN.out).mono ?_; clear HN; rintro e w2 ⟨rfl, hcur, ht⟩; have HW2 := Lib.hid (below_only HW1.out HG1.out ht); have HT2 := Lib.hid (HT1.out.also ht HB.out); have H1 := Lib.hid (all_ok W w2 b1 (q.drop 1) 2 p HW2.out hcur (by omega) HH.out); clear hcur ht)
    | (go_at_call 25; refine (must_yes _).mono ?_; rintro e w3 ⟨rfl, rfl⟩))
  refine (H1.out).mono ?_
  clear H1
  rintro e w4 ⟨b2, rfl, ⟨hge2, v, hv, A, c, rfl, hcap, hr⟩, hb2, ht2⟩
  have hW4 := below_only HW2.out HG1.out ht2
  have hcell := hv.cell
  have hcv := Kd.C_string (P := Tryd.prog) (A := A) (c := c) Tryd.underlying25 Tryd.underlying5 Tryd.underlying9 (Kd.C_below hr hW4)
  rw [strOf_numsB] at hcv
  have HT4 := Lib.hid (HT2.out.also ht2 HB.out)
  clear hge2 hv hcap hr hb2 ht2 hW4
  go_wp2
  go_ret
  exact ⟨rfl, HT4.out⟩
set_option maxHeartbeats 1600000 in
set_option maxRecDepth 100000 in
theorem named_bad (W w : World) (b : Nat) (l : List UInt8) (hW : Below W.heap.size W w) (hc : Cur W w b l) (h : namedR l = none) :
    Calls Tryd.prog 48 #[.pointer (some ⟨b, 0, none⟩)] w fun e w' => e = .panicked thrown ∧ Tch (· = b) w w' := by
  unfold namedR at h
  split at h
  · rename_i hq
    have H1 := Lib.hid (all_bad W w b l 2 hW hc (by omega) hq)
    clear hc hW hq h
    go_enter Tryd.func48, Tryd.ntmps48
    go_wp2_with (go_at_call 27; refine (H1.out).mono ?_; rintro e w1 ⟨rfl, ht⟩)
    exact ⟨rfl, rfl, ht⟩
  rename_i q hq
  have H1 := Lib.hid (all_ok W w b l 2 q hW hc (by omega) hq)
  have HW := Lib.hid hW
  have HGe := Lib.hid hc.ge
  clear hc hW hq
  by_cases h1 : 1 ≤ q.length
  rotate_left
  · have HQ := Lib.hid h1
    clear h h1
    go_enter Tryd.func48, Tryd.ntmps48
    go_wp2_with (first
      | (go_at_call 27; refine (H1.out).mono ?_; clear H1; rintro e w1 ⟨b1, rfl, hcur, hb, ht⟩; have HT1 := Lib.hid ht; have HN := Lib.hid (number_bad W w1 b1 q 1 hcur HQ.out); clear hcur hb ht)
      | (go_at_call 26; refine (HN.out).mono ?_; clear HN; rintro e w2 ⟨rfl, rfl⟩))
    exact ⟨rfl, rfl, HT1.out⟩
  by_cases h2 : num (q.take 1) = 0
  rotate_left
  · have HQ := Lib.hid h1
    have hz : ((num (q.take 1) : Int) == 0) = false := beq_eq_false_iff_ne.mpr (by omega)
    obtain ⟨m, hm⟩ : ∃ m, num (q.take 1) = m := ⟨_, rfl⟩
    rw [hm] at hz
    have HM := Lib.hid hm
    clear h h1 h2 hm
    go_enter Tryd.func48, Tryd.ntmps48
    go_wp2_with (first
      | (go_at_call 27; refine (H1.out).mono ?_; clear H1; rintro e w1 ⟨b1, rfl, hcur, hb, ht⟩; have HW1 := Lib.hid (below_only HW.out HGe.out ht); have HT1 := Lib.hid ht; have HB := Lib.hid hb; have HN := number_ok W w1 b1 q 1 HW1.out hcur HQ.out (by omega); rw [HM.out] at HN; have HN := Lib.hid HN; clear hcur hb ht)
      | (go_at_call 26; refine (HN.out).mono ?_; clear HN; rintro e w2 ⟨rfl, hcur, ht⟩; have HT2 := Lib.hid (HT1.out.also ht HB.out); clear hcur ht)
      | (go_at_call 25; refine (must_no _).mono ?_; rintro e w3 ⟨rfl, rfl⟩))
    exact ⟨rfl, rfl, HT2.out⟩
  · rw [if_pos ⟨h1, h2⟩] at h
    have HQ := Lib.hid (show 1 ≤ q.length ∧ num (q.take 1) = 0 from ⟨h1, h2⟩)
    have HH := Lib.hid h
    clear h h1 h2
    go_enter Tryd.func48, Tryd.ntmps48
    go_wp2_with (first
      | (go_at_call 27; refine (H1.out).mono ?_; clear H1; rintro e w1 ⟨b1, rfl, hcur, hb, ht⟩; have HW1 := Lib.hid (below_only HW.out HGe.out ht); have HT1 := Lib.hid ht; have HB := Lib.hid hb; have HN := number_ok W w1 b1 q 1 HW1.out hcur HQ.out.1 (by omega); rw [HQ.out.2] at HN; have HG1 := Lib.hid hcur.ge; have HN := Lib.hid HN; clear hcur hb ht)
      | (go_at_call 26; refine (HN.out).mono ?_; clear HN; rintro e w2 ⟨rfl, hcur, ht⟩; have HW2 := Lib.hid (below_only HW1.out HG1.out ht); have HT2 := Lib.hid (HT1.out.also ht HB.out); have H1 := Lib.hid (all_bad W w2 b1 (q.drop 1) 2 HW2.out hcur (by omega) HH.out); clear hcur ht)
      | (go_at_call 25; refine (must_yes _).mono ?_; rintro e w3 ⟨rfl, rfl⟩))
    refine (H1.out).mono ?_
    clear H1
    rintro e w4 ⟨rfl, ht2⟩
    exact ⟨rfl, rfl, HT2.out.also ht2 HB.out⟩
end Go.Proofs.YtjcocepmmjmckaaDoor.PHello
