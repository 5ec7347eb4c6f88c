/- hello's cursor: piece, all. -/
import Derived.Test.YtjcocepmmjmckaaDoorJExtR
set_option linter.unusedVariables false
set_option linter.unusedSimpArgs false
namespace Go.Proofs.YtjcocepmmjmckaaDoor.PHello
open Go.RowKit Go.Proofs.YtjcocepmmjmckaaDoorW.PrintWords Go.Proofs.YtjcocepmmjmckaaDoorW.PrintLast Go.Proofs.YtjcocepmmjmckaaDoorW.PrintMore

set_option maxHeartbeats 1600000 in
set_option maxRecDepth 100000 in
theorem number_bad (W w : World) (b : Nat) (l : List UInt8) (n : Nat) (hc : Cur W w b l) (hn : ¬ n ≤ l.length) :
    Calls Tryd.prog 26 #[.pointer (some ⟨b, 0, none⟩), .int .i64 n] w fun e w' => e = .panicked thrown ∧ w' = w := by
  have HT := Lib.hid (take_bad W w b l n hc hn)
  clear hc hn
  go_enter Tryd.func26, Tryd.ntmps26
  go_wp2_with (go_at_call 28; refine (HT.out).mono ?_; rintro e w1 ⟨rfl, rfl⟩)
  exact ⟨rfl, rfl, rfl⟩

/-- What a piece takes, and what it leaves. -/
def pieceR (l : List UInt8) (size : Nat) : Option (List UInt8 × List UInt8) :=
  if size ≤ l.length ∧ num (l.take size) ≤ (l.drop size).length then some ((l.drop size).take (num (l.take size)), (l.drop size).drop (num (l.take size))) else none
set_option maxHeartbeats 1600000 in
set_option maxRecDepth 100000 in
theorem piece_ok (W w : World) (b : Nat) (l : List UInt8) (n : Nat) (p r : List UInt8) (hW : Below W.heap.size W w) (hc : Cur W w b l) (h3 : n ≤ 3) (h : pieceR l n = some (p, r)) :
    Calls Tryd.prog 30 #[.pointer (some ⟨b, 0, none⟩), .int .i64 n] w fun e w' => ∃ b', e = .returned (.pointer (some ⟨b', 0, none⟩)) ∧ Cur W w' b' p ∧ Cur W w' b r ∧ w.heap.size ≤ b' ∧ Tch (· = b) w w' := by
  unfold pieceR at h
  split at h
  case isFalse => cases h
  rename_i hg
  simp only [Option.some.injEq, Prod.mk.injEq] at h
  obtain ⟨hp, hr⟩ := h
  have HN := Lib.hid (number_ok W w b l n hW hc hg.1 h3)
  obtain ⟨m, hm⟩ : ∃ m, num (l.take n) = m := ⟨_, rfl⟩
  obtain ⟨t, ht⟩ : ∃ t, l.drop n = t := ⟨_, rfl⟩
  rw [hm, ht] at HN hg hp hr
  have HPp := Lib.hid hp
  have HPr := Lib.hid hr
  have HM := Lib.hid hg.2
  have HW := Lib.hid hW
  have HG := Lib.hid hc.ge
  clear hg hW hc hm ht hp hr
  go_enter Tryd.func30, Tryd.ntmps30
  go_wp2_with (first | (go_at_call 26; refine (HN.out).mono ?_; rintro e w1 ⟨rfl, hcur, ht⟩; have HTk := take_ok W w1 b t m hcur HM.out; rw [HPp.out, HPr.out] at HTk; have HT1 := Lib.hid ht; clear ht hcur) | (go_at_call 28; refine (HTk).mono ?_; clear HTk; rintro e w2 ⟨v, rfl, ⟨A, c, rfl, hcap, hr⟩, hcur, ht⟩; have HRow := Lib.hid (show RowV W (.slice A p.length c) p from ⟨A, c, rfl, hcap, hr⟩); have HCur := Lib.hid hcur; have HT2 := Lib.hid ht; clear hcap hr hcur ht))
  go_ret
  have h2 := Tch.alloc (· = b) w2 (.cells #[.slice A p.length c] 66)
  have hlt : b < w2.heap.size := by obtain ⟨_, v, hv, _⟩ := HCur.out; exact hv.lt
  have hs := HT1.out.size
  have hs2 := HT2.out.size
  have hs0 := HW.out.size
  refine ⟨w2.heap.size, rfl, ⟨by omega, _, Boxed.new w2 66 _, HRow.out⟩, (Tch.alloc (fun _ => False) w2 _).cur HCur.out id, by omega, (HT1.out.trans HT2.out).trans h2⟩

/-- What is read as a piece, and nothing behind it. -/
def allR (l : List UInt8) (size : Nat) : Option (List UInt8) := match pieceR l size with | some (p, []) => some p | _ => none
set_option maxHeartbeats 1600000 in
set_option maxRecDepth 100000 in
theorem piece_bad (W w : World) (b : Nat) (l : List UInt8) (n : Nat) (hW : Below W.heap.size W w) (hc : Cur W w b l) (h3 : n ≤ 3) (h : pieceR l n = none) :
    Calls Tryd.prog 30 #[.pointer (some ⟨b, 0, none⟩), .int .i64 n] w fun e w' => e = .panicked thrown ∧ Tch (· = b) w w' := by
  unfold pieceR at h
  split at h
  case isTrue => cases h
  rename_i hg
  by_cases h1 : n ≤ l.length
  · have h2 : ¬ num (l.take n) ≤ (l.drop n).length := fun e => hg ⟨h1, e⟩
    have HN := Lib.hid (number_ok W w b l n hW hc h1 h3)
    obtain ⟨m, hm⟩ : ∃ m, num (l.take n) = m := ⟨_, rfl⟩
    obtain ⟨t, ht⟩ : ∃ t, l.drop n = t := ⟨_, rfl⟩
    rw [hm, ht] at HN h2
    have HM := Lib.hid h2
    clear hg hW hc hm ht h1 h2
    go_enter Tryd.func30, Tryd.ntmps30
    go_wp2_with (first | (go_at_call 26; refine (HN.out).mono ?_; rintro e w1 ⟨rfl, hcur, ht⟩; have HTk := Lib.hid (take_bad W w1 b t m hcur HM.out); have HT1 := Lib.hid ht; clear ht hcur) | (go_at_call 28; refine (HTk.out).mono ?_; rintro e w2 ⟨rfl, rfl⟩))
    exact ⟨rfl, rfl, HT1.out⟩
  · have HN := Lib.hid (number_bad W w b l n hc h1)
    clear hg hW hc h1
    go_enter Tryd.func30, Tryd.ntmps30
    go_wp2_with (go_at_call 26; refine (HN.out).mono ?_; rintro e w1 ⟨rfl, rfl⟩)
    exact ⟨rfl, rfl, Tch.refl _ _⟩
set_option maxHeartbeats 1600000 in
set_option maxRecDepth 100000 in
theorem all_ok (W w : World) (b : Nat) (l : List UInt8) (n : Nat) (p : List UInt8) (hW : Below W.heap.size W w) (hc : Cur W w b l) (h3 : n ≤ 3) (h : allR l n = some p) :
    Calls Tryd.prog 27 #[.pointer (some ⟨b, 0, none⟩), .int .i64 n] w fun e w' => ∃ b', e = .returned (.pointer (some ⟨b', 0, none⟩)) ∧ Cur W w' b' p ∧ w.heap.size ≤ b' ∧ Tch (· = b) w w' := by
  have hp : pieceR l n = some (p, []) := by
    unfold allR at h
    split at h
    · rename_i q hq; simp only [Option.some.injEq] at h; rw [hq, h]
    · cases h
  have HP := Lib.hid (piece_ok W w b l n p [] hW hc h3 hp)
  clear hW hc h hp
  go_enter Tryd.func27, Tryd.ntmps27
  go_wp2_with (first | (go_at_call 30; refine (HP.out).mono ?_; rintro e w1 ⟨b', rfl, hcur, ⟨hge, v, hv, A, c, rfl, hcap, hr⟩, hb, ht⟩; have HCur := Lib.hid hcur; have HT1 := Lib.hid ht; have HB := Lib.hid hb; have hcell := hv.cell; clear ht hcur hv hge hcap hr hb) | (go_at_call 25; refine (must_yes _).mono ?_; rintro e w2 ⟨rfl, rfl⟩))
  go_ret
  exact ⟨b', rfl, HCur.out, HB.out, HT1.out⟩
set_option maxHeartbeats 1600000 in
set_option maxRecDepth 100000 in
theorem all_bad (W w : World) (b : Nat) (l : List UInt8) (n : Nat) (hW : Below W.heap.size W w) (hc : Cur W w b l) (h3 : n ≤ 3) (h : allR l n = none) :
    Calls Tryd.prog 27 #[.pointer (some ⟨b, 0, none⟩), .int .i64 n] w fun e w' => e = .panicked thrown ∧ Tch (· = b) w w' := by
  cases hp : pieceR l n with
  | none =>
    have HP := Lib.hid (piece_bad W w b l n hW hc h3 hp)
    clear hW hc h hp
    go_enter Tryd.func27, Tryd.ntmps27
    go_wp2_with (go_at_call 30; refine (HP.out).mono ?_; rintro e w1 ⟨rfl, ht⟩)
    exact ⟨rfl, rfl, ht⟩
  | some q =>
    obtain ⟨p, r⟩ := q
    have hr0 : r.length ≠ 0 := by
      intro e
      have : r = [] := List.eq_nil_of_length_eq_zero e
      subst this
      unfold allR at h
      rw [hp] at h
      cases h
    have HP := Lib.hid (piece_ok W w b l n p r hW hc h3 hp)
    have hz : ((r.length : Int) == 0) = false := beq_eq_false_iff_ne.mpr (by omega)
    clear hW hc h hp
    go_enter Tryd.func27, Tryd.ntmps27
    go_wp2_with (first | (go_at_call 30; refine (HP.out).mono ?_; rintro e w1 ⟨b', rfl, hcur, ⟨hge, v, hv, A, c, rfl, hcap, hr⟩, hb, ht⟩; have HT1 := Lib.hid ht; have hcell := hv.cell; clear ht hcur hv hge hcap hr hb) | (go_at_call 25; refine (must_no _).mono ?_; rintro e w2 ⟨rfl, rfl⟩))
    exact ⟨rfl, rfl, HT1.out⟩
end Go.Proofs.YtjcocepmmjmckaaDoor.PHello
