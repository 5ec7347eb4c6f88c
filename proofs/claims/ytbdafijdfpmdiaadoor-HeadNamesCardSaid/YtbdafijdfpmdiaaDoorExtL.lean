/- head.Drop and head.Strip: the heads that are left. -/
import Derived.Test.YtbdafijdfpmdiaaDoorExtK
set_option linter.unusedVariables false
namespace Go.Proofs.YtbdafijdfpmdiaaDoor.PHead
open Go.RowKit Go.Shelf Go.Proofs.YtbdafijdfpmdiaaDoorW.PrintWords Go.Proofs.YtbdafijdfpmdiaaDoorW.PrintLast Go.Proofs.YtbdafijdfpmdiaaDoorW.PrintMore

set_option maxRecDepth 100000 in
set_option maxHeartbeats 1000000 in
theorem collect49 (w : World) (lb : Array Value) (ys : List S28) (N : Nat) (hN : N ≤ 4398046511104)
    (hSeq : SeqStopsK Fence.wide 3 Tryd.prog 56 lb encS (Below w.heap.size) (fun zs => zs = ys) (fun pre => pre <+: ys) N w) :
    Calls Tryd.prog 49 #[.func (.func 56) #[] lb] w fun e W' => ∃ v, e = .returned v ∧ Kd.R k28 28 W' w.heap.size (fun _ => True) v ys ∧ Below w.heap.size w W' := by
  have h := callsIn_wide.1 (appendSeq61 4 (by omega) w lb ys N hN hSeq)
  have H := Lib.hid h
  clear h hSeq
  go_enter Tryd.func49, Tryd.ntmps49
  go_wp2_with (go_at_call 61; refine H.out.mono ?_; rintro e w1 ⟨v, rfl, hr, hb⟩)
  go_ret
  exact ⟨v, rfl, hr, hb⟩

/-- The heads of xs that are kept, out of 'others' over boxes at h (a text), h + 1, h + 2. -/
theorem others_seq (w0 w2 : World) (A : Option Addr) (c : Nat) (xs : List S28) (hread : Kd.C k28 w0 A xs.length xs) (keep : S28 → Bool) (g B : Nat) (nm : ByteArray) (eg : ∀ args w, (callFunc g args).run Tryd.prog w = .ok (.enter g args) w)
    (hgone : ∀ (x : S28) (W : World), x ∈ xs → Boxed W B 9 (.string nm) → Calls Tryd.prog g #[.string x.f0, .pointer (some ⟨B, 0, none⟩)] W fun e w' => e = .returned (.bool (!keep x)) ∧ Below W.heap.size W w')
    (hw : Below w0.heap.size w0 w2) (b0 : Boxed w2 B 9 (.string nm)) (B1 B2 : Nat) (b1 : Boxed w2 B1 22 (.slice A xs.length c)) (b2 : Boxed w2 B2 45 (.func (.func g) #[] #[.pointer (some ⟨B, 0, none⟩)])) :
    SeqStopsK Fence.wide 3 Tryd.prog 56 #[.pointer (some ⟨B1, 0, none⟩), .pointer (some ⟨B2, 0, none⟩)] encS (Below w2.heap.size) (fun zs => zs = xs.filter keep) (fun pre => pre <+: xs.filter keep) xs.length w2 := fun l J Jx W hW hJ hJx hY h0 =>
  iter56 3 (by omega) w0 A c xs hread keep g #[.pointer (some ⟨B, 0, none⟩)] eg w2.heap.size (fun _ => False) hw.size (fun _ h => h.elim) B1 B2 b1.lt b2.lt (fun h => h) (fun h => h) (fun W => Boxed W B 9 (.string nm)) (fun W W' h k => k.boxed h b0.lt (fun h => h))
    (fun x W hx hb => hgone x W hx hb) l J Jx W hJ hJx (hw.trans (hW.mono hw.size)) hW.size ((hW.block B b0.lt).trans b0)
    (fun pre x W1 hp hl => by
      obtain ⟨fn, tmps, assign, body, hy, hR⟩ := hY pre x W1 hp hl
      refine ⟨fn, tmps, assign, body, hy, hR.mono ?_⟩
      rintro e W' (⟨h1, h2, h3⟩ | ⟨h1, h2⟩)
      · exact .inl ⟨h1, h2, KP.of_below h3 (Nat.le_refl _)⟩
      · exact .inr ⟨h1, h2⟩)
    ((hW.block B1 b1.lt).trans b1) ((hW.block B2 b2.lt).trans b2) h0

set_option maxRecDepth 100000 in
set_option maxHeartbeats 2000000 in
theorem head_Drop.calls (A0 : Option Addr) (c0 : Nat) (l0 : List S28) (a1 : ByteArray) (r : List S28) (w : World) (hr0 : Kd.C k28 w A0 l0.length l0) (hc0 : l0.length ≤ c0) (h : head_Drop.f l0 a1 = some r) :
    Calls Tryd.prog 23 #[.slice A0 l0.length c0, .string a1] w fun e w' => ∃ v0_ : Value, e = .returned (v0_) ∧ Kd.R k28 28 w' w.heap.size (fun _ => True) v0_ r ∧ Below w.heap.size w w' := by
  unfold head_Drop.f at h
  split at h
  case isFalse => simp at h
  rename_i hl
  obtain rfl := Option.some.inj h
  clear h
  have hmf : ∀ (fn : Fn) (first cap : Array Value) (w : World), (Instr.makeFunc fn first cap).run Tryd.prog w = .ok (.func fn first cap) w := fun _ _ _ _ => rfl
  have hO := fun (w : World) => others40 A0 l0.length c0 (.func (.func 50) #[] #[.pointer (some ⟨w.heap.size, 0, none⟩)]) ⟨_, _, rfl⟩
  have hC : ∀ w2, w2 = (((w.alloc (.cells #[.string a1] 9)).alloc (.cells #[.slice A0 l0.length c0] 22)).alloc (.cells #[.func (.func 50) #[] #[.pointer (some ⟨w.heap.size, 0, none⟩)]] 45)) →
      Calls Tryd.prog 49 #[.func (.func 56) #[] #[.pointer (some ⟨w.heap.size + 1, 0, none⟩), .pointer (some ⟨w.heap.size + 1 + 1, 0, none⟩)]] w2 fun e W' => ∃ v, e = .returned v ∧ Kd.R k28 28 W' w.heap.size (fun _ => True) v (l0.filter fun h => !alk h.f0 a1) ∧ Below w.heap.size w W' := by
    rintro w2 rfl
    have b0 := ((Boxed.new w 9 (.string a1)).alloc (.cells #[.slice A0 l0.length c0] 22)).alloc (.cells #[.func (.func 50) #[] #[.pointer (some ⟨w.heap.size, 0, none⟩)]] 45)
    have b1 := (Boxed.new (w.alloc (.cells #[.string a1] 9)) 22 (.slice A0 l0.length c0)).alloc (.cells #[.func (.func 50) #[] #[.pointer (some ⟨w.heap.size, 0, none⟩)]] 45)
    have b2 := Boxed.new ((w.alloc (.cells #[.string a1] 9)).alloc (.cells #[.slice A0 l0.length c0] 22)) 45 (.func (.func 50) #[] #[.pointer (some ⟨w.heap.size, 0, none⟩)])
    simp only [World.size_alloc] at b0 b1 b2
    have hw : Below w.heap.size w (((w.alloc (.cells #[.string a1] 9)).alloc (.cells #[.slice A0 l0.length c0] 22)).alloc (.cells #[.func (.func 50) #[] #[.pointer (some ⟨w.heap.size, 0, none⟩)]] 45)) := below_alloc (below_alloc (below_alloc (Below.refl _ w) _) _) _
    refine (collect49 _ _ (l0.filter fun h => !alk h.f0 a1) l0.length (by omega) (others_seq w _ A0 c0 l0 hr0 (fun h => !alk h.f0 a1) 50 w.heap.size a1 (enters_of Tryd.func50 (by kernel_rfl) rfl) (fun x W _ hb => by
      have := drop50 x.f0 a1 w.heap.size W hb
      rw [Bool.not_not]
      exact this) hw b0 _ _ b1 b2)).mono ?_
    rintro e W' ⟨v, rfl, hr, hb⟩
    exact ⟨v, rfl, Kd.R_lower hr hw.size, hw.trans (hb.mono hw.size)⟩
  have HO := Lib.hid hO
  have HC := Lib.hid hC
  clear hO hC hr0 hc0 hl
  go_enter Tryd.func23, Tryd.ntmps23
  go_wp2_with (first | (go_at_call 40; refine (HO.out w _).mono ?_; rintro e w1 ⟨rfl, rfl⟩) | (go_at_call 49; refine (HC.out _ rfl).mono ?_; rintro e w2 ⟨v, rfl, hr, hb⟩))
  go_ret
  exact ⟨v, rfl, hr, hb⟩

set_option maxRecDepth 100000 in
set_option maxHeartbeats 2000000 in
theorem head_Strip.calls (A0 : Option Addr) (c0 : Nat) (l0 : List S28) (a1 : ByteArray) (r : List S28) (w : World) (hr0 : Kd.C k28 w A0 l0.length l0) (hc0 : l0.length ≤ c0) (h : head_Strip.f l0 a1 = some r) :
    Calls Tryd.prog 24 #[.slice A0 l0.length c0, .string a1] w fun e w' => ∃ v0_ : Value, e = .returned (v0_) ∧ Kd.R k28 28 w' w.heap.size (fun _ => True) v0_ r ∧ Below w.heap.size w w' := by
  unfold head_Strip.f at h
  split at h
  case isFalse => simp at h
  rename_i hl
  obtain ⟨hl, hp, hns⟩ := hl
  obtain rfl := Option.some.inj h
  clear h
  have hmf : ∀ (fn : Fn) (first cap : Array Value) (w : World), (Instr.makeFunc fn first cap).run Tryd.prog w = .ok (.func fn first cap) w := fun _ _ _ _ => rfl
  have hlo := fun w => head_Lower.calls a1 (lowS a1) w (by unfold head_Lower.f; rw [if_pos hp])
  have hO := fun (w : World) => others40 A0 l0.length c0 (.func (.func 51) #[] #[.pointer (some ⟨w.heap.size, 0, none⟩)]) ⟨_, _, rfl⟩
  have hC : ∀ u w2, Below w.heap.size w u → w2 = (((u.alloc (.cells #[.string (lowS a1)] 9)).alloc (.cells #[.slice A0 l0.length c0] 22)).alloc (.cells #[.func (.func 51) #[] #[.pointer (some ⟨u.heap.size, 0, none⟩)]] 45)) →
      Calls Tryd.prog 49 #[.func (.func 56) #[] #[.pointer (some ⟨u.heap.size + 1, 0, none⟩), .pointer (some ⟨u.heap.size + 1 + 1, 0, none⟩)]] w2 fun e W' => ∃ v, e = .returned v ∧ Kd.R k28 28 W' w.heap.size (fun _ => True) v (l0.filter fun h => !((lowS a1).data.toList.isPrefixOf (lowS h.f0).data.toList)) ∧ Below w.heap.size w W' := by
    rintro u w2 hu rfl
    have b0 := ((Boxed.new u 9 (.string (lowS a1))).alloc (.cells #[.slice A0 l0.length c0] 22)).alloc (.cells #[.func (.func 51) #[] #[.pointer (some ⟨u.heap.size, 0, none⟩)]] 45)
    have b1 := (Boxed.new (u.alloc (.cells #[.string (lowS a1)] 9)) 22 (.slice A0 l0.length c0)).alloc (.cells #[.func (.func 51) #[] #[.pointer (some ⟨u.heap.size, 0, none⟩)]] 45)
    have b2 := Boxed.new ((u.alloc (.cells #[.string (lowS a1)] 9)).alloc (.cells #[.slice A0 l0.length c0] 22)) 45 (.func (.func 51) #[] #[.pointer (some ⟨u.heap.size, 0, none⟩)])
    simp only [World.size_alloc] at b0 b1 b2
    have hw : Below w.heap.size w (((u.alloc (.cells #[.string (lowS a1)] 9)).alloc (.cells #[.slice A0 l0.length c0] 22)).alloc (.cells #[.func (.func 51) #[] #[.pointer (some ⟨u.heap.size, 0, none⟩)]] 45)) := below_alloc (below_alloc (below_alloc hu _) _) _
    refine (collect49 _ _ (l0.filter fun h => !((lowS a1).data.toList.isPrefixOf (lowS h.f0).data.toList)) l0.length (by omega) (others_seq w _ A0 c0 l0 hr0 (fun h => !((lowS a1).data.toList.isPrefixOf (lowS h.f0).data.toList)) 51 u.heap.size (lowS a1) (enters_of Tryd.func51 (by kernel_rfl) rfl) (fun x W hx hb => by
      have := strip51 x.f0 (lowS a1) u.heap.size W hb (hns x hx)
      rw [Bool.not_not]
      exact this) hw b0 _ _ b1 b2)).mono ?_
    rintro e W' ⟨v, rfl, hr, hb⟩
    exact ⟨v, rfl, Kd.R_lower hr hw.size, hw.trans (hb.mono hw.size)⟩
  obtain ⟨lo, hle⟩ : ∃ q, lowS a1 = q := ⟨_, rfl⟩
  rw [hle] at hlo hC
  have HL := Lib.hid hlo
  have HO := Lib.hid hO
  have HC := Lib.hid hC
  obtain ⟨ys, hys⟩ : ∃ q, (l0.filter fun h => !((lowS a1).data.toList.isPrefixOf (lowS h.f0).data.toList)) = q := ⟨_, rfl⟩
  rw [hle] at hys
  rw [hle, hys]
  rw [hys] at HC
  clear hO hC hr0 hc0 hl hp hns hlo hle hys
  go_enter Tryd.func24, Tryd.ntmps24
  go_wp2_with (first | (go_at_call 18; refine (HL.out _).mono ?_; rintro e u ⟨rfl, hu⟩) | (go_at_call 40; refine (HO.out u _).mono ?_; rintro e w1 ⟨rfl, rfl⟩) | (go_at_call 49; refine (HC.out u _ hu rfl).mono ?_; rintro e w2 ⟨v, rfl, hr, hb⟩))
  go_ret
  exact ⟨v, rfl, hr, hb⟩
end Go.Proofs.YtbdafijdfpmdiaaDoor.PHead
