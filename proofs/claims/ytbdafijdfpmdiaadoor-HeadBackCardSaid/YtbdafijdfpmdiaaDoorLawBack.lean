/- Plain law: what was written is read as it was, line by line. -/
import Derived.Test.YtbdafijdfpmdiaaDoorPureF
import Derived.Test.YtbdafijdfpmdiaaDoorPHeadx13
set_option linter.unusedVariables false
set_option linter.unusedSimpArgs false
namespace Go.Proofs.YtbdafijdfpmdiaaDoor.PHead
open Go.RowKit Go.Proofs.YtbdafijdfpmdiaaDoorW.PrintWords Go.Proofs.YtbdafijdfpmdiaaDoorW.PrintLast Go.Proofs.YtbdafijdfpmdiaaDoorW.PrintMore

/-- A line without its end. -/
def bodyB (h : S28) : List UInt8 := h.f0.data.toList ++ [58, 32] ++ h.f1.data.toList
theorem line_body (h : S28) : lineB h = bodyB h ++ [13, 10] := rfl
theorem bodyB_len (h : S28) : (bodyB h).length = h.f0.size + 2 + h.f1.size := by
  unfold bodyB
  simp only [List.length_append, data_length, List.length_cons, List.length_nil]
theorem namB_ne {b : UInt8} (h : namB b = true) : b ≠ 13 ∧ b ≠ 58 := by
  constructor <;> (rintro rfl; revert h; decide)
theorem body_no (h : S28) (hm : mayH h = true) : ∀ b ∈ bodyB h, b ≠ 13 := by
  obtain ⟨h1, h2⟩ := may_parts hm
  intro b hb
  unfold bodyB at hb
  rcases List.mem_append.mp hb with hb | hb
  · rcases List.mem_append.mp hb with hb | hb
    · exact (namB_ne (List.all_eq_true.mp (nam_size h1).2.2 b hb)).1
    · intro e; subst e; revert hb; decide
  · have := List.all_eq_true.mp (val_size h2).2.1 b hb
    simp only [decide_eq_true_eq] at this
    intro e; subst e
    exact absurd this.1 (by decide)
theorem cutB_at (n v : List UInt8) (h : ∀ b ∈ n, b ≠ 58) : cutB (n ++ 58 :: v) 58 = (n, v, true) := by
  induction n with
  | nil => simp [cutB]
  | cons x n ih =>
    rw [List.cons_append, cutB, if_neg (h x (List.mem_cons_self ..)), ih fun b hb => h b (List.mem_cons_of_mem _ hb)]
theorem drop_none (v : List UInt8) (h : ∀ b, v.head? = some b → blk b = false) : v.dropWhile blk = v := by
  cases v with
  | nil => rfl
  | cons x v => rw [List.dropWhile_cons_of_neg (by rw [h x rfl]; decide)]
theorem trim_value (v : List UInt8) (h1 : v.all (fun b => decide (32 ≤ b.toNat ∧ b.toNat ≤ 126)) = true) (h2 : v.head? ≠ some 32) (h3 : v.getLast? ≠ some 32) : trimSet (32 :: v) [32, 9] = v := by
  have hb : ∀ b ∈ v, b ≠ 32 → blk b = false := by
    intro b hb hne
    have := List.all_eq_true.mp h1 b hb
    simp only [decide_eq_true_eq] at this
    have h9 : b ≠ 9 := by rintro rfl; exact absurd this.1 (by decide)
    simp [blk, hne, h9]
  show (((32 :: v).reverse.dropWhile blk).reverse).dropWhile blk = v
  rw [trim_comm, List.dropWhile_cons_of_pos (by decide), drop_none v (fun b e => hb b (List.mem_of_head? e) (fun e2 => h2 (by rw [e, e2]))),
    drop_none v.reverse (fun b e => by
      rw [List.head?_reverse] at e
      exact hb b (List.mem_of_getLast? e) (fun e2 => h3 (by rw [e, e2]))), List.reverse_reverse]
theorem line_back (h : S28) (hm : mayH h = true) : head_Line.f ⟨(bodyB h).toArray⟩ = some (h.f0, h.f1, 0) := by
  obtain ⟨h1, h2⟩ := may_parts hm
  have g1 := nam_size h1
  have g2 := val_size h2
  have hsz : (⟨(bodyB h).toArray⟩ : ByteArray).size = h.f0.size + 2 + h.f1.size := by
    show (bodyB h).toArray.size = _
    rw [List.size_toArray, bodyB_len]
  rw [line_f _ (by omega)]
  have ec : cutV ⟨(bodyB h).toArray⟩ = (h.f0.data.toList, 32 :: h.f1.data.toList, true) := by
    show cutB (bodyB h) 58 = _
    unfold bodyB
    rw [List.append_assoc]
    exact cutB_at _ _ (fun b hb => (namB_ne (List.all_eq_true.mp g1.2.2 b hb)).2)
  unfold lineR
  rw [ec]
  simp only
  rw [trim_value _ g2.2.1 g2.2.2.1 g2.2.2.2, ba_mk, ba_mk, if_pos ⟨trivial, by omega, h1, h2⟩]
theorem rd_nums (B : List UInt8) (i : Nat) (h : i < B.length) : rd (numsB B) (i : Int) = ((B[i]).toNat : Int) := by
  unfold rd numsB
  simp [List.getD, h]
theorem up2 (n : Nat) (h : n < 9223372036854775800) : wrap64 ((n : Int) + 2) = ((n + 2 : Nat) : Int) := by unfold wrap64; omega
theorem nums_cut (B : List UInt8) (i j : Nat) : strOfNums (((numsB B).take i).drop j) = ⟨((B.take i).drop j).toArray⟩ := by
  rw [show ((numsB B).take i).drop j = numsB ((B.take i).drop j) by simp [numsB, List.map_take, List.map_drop], strOf_numsB]
theorem line_same (h x : S28) (e0 : x.f0 = h.f0) (e1 : x.f1 = h.f1) : (!(h.f0.toList == x.f0.toList) || !(h.f1.toList == x.f1.toList)) = false := by rw [e0, e1]; simp

theorem back_end (l : List S28) (B : List UInt8) (j from' i : Nat) (hj : j = l.length) (hf : from' = B.length) (hi : ¬ i + 1 < B.length) (hz : i < 9223372036854775800) :
    Ev (fun k => chinoiserielaw04_HeadBack.l0 k l (numsB B) j from' i) true := by
  refine Ev.step (fun k => ?_) (Ev.now _)
  rw [chinoiserielaw04_HeadBack.l0, up1 i (by omega), numsB_length, if_neg (by omega), if_pos (by omega), hf]
  simp
theorem back_skip (l : List S28) (B : List UInt8) (j from' i : Nat) (hz : B.length < 9223372036854775800) (hi : i + 1 < B.length) (hb : B[i]'(by omega) ≠ 13)
    (h : Ev (fun k => chinoiserielaw04_HeadBack.l0 k l (numsB B) j from' ((i + 1 : Nat) : Int)) true) : Ev (fun k => chinoiserielaw04_HeadBack.l0 k l (numsB B) j from' i) true := by
  have hb' : ¬ (((B[i]'(by omega)).toNat : Int) = 13) := fun e => hb (UInt8.toNat_inj.mp (by
    have : (B[i]'(by omega)).toNat = 13 := by omega
    rw [this]; rfl))
  refine Ev.step (f := fun k => chinoiserielaw04_HeadBack.j1 k l (numsB B) j from' i true) (fun k => ?_) (Ev.step (fun k => ?_) h)
  · rw [chinoiserielaw04_HeadBack.l0, up1 i (by omega), numsB_length, if_pos (by omega), if_pos (by omega), if_pos (by omega), rd_nums B i (by omega), if_neg hb']
  · rw [chinoiserielaw04_HeadBack.j1, if_pos rfl, up1 i (by omega)]
theorem back_scan (l : List S28) (pre post : List UInt8) (j : Nat) (h : S28) (hj : l[j]? = some h) (hm : mayH h = true) (hz : (pre ++ lineB h ++ post).length < 9223372036854775800) (hlz : l.length < 9223372036854775800)
    (hk : Ev (fun k => chinoiserielaw04_HeadBack.l0 k l (numsB (pre ++ lineB h ++ post)) ((j + 1 : Nat) : Int) ((pre.length + (bodyB h).length + 2 : Nat) : Int) ((pre.length + (bodyB h).length + 1 : Nat) : Int)) true) :
    ∀ (n p : Nat), p + n = (bodyB h).length → Ev (fun k => chinoiserielaw04_HeadBack.l0 k l (numsB (pre ++ lineB h ++ post)) j pre.length ((pre.length + p : Nat) : Int)) true := by
  have hlen : (pre ++ lineB h ++ post).length = pre.length + (bodyB h).length + 2 + post.length := by
    rw [line_body]; simp only [List.length_append, List.length_cons, List.length_nil]; omega
  have hjl : j < l.length := (List.getElem?_eq_some_iff.mp hj).1
  have hget : l[j] = h := (List.getElem?_eq_some_iff.mp hj).2
  have hat : ∀ (p : Nat) (hp : p < (lineB h).length), (pre ++ lineB h ++ post)[pre.length + p]'(by rw [List.length_append, List.length_append]; omega) = (lineB h)[p] := by
    intro p hp
    rw [List.getElem_append_left (by rw [List.length_append]; omega), List.getElem_append_right (by omega)]
    simp
  have hll : (lineB h).length = (bodyB h).length + 2 := by rw [line_body]; simp
  intro n
  induction n with
  | zero =>
    intro p hp
    have hpe : p = (bodyB h).length := by omega
    subst hpe
    have c13 : (pre ++ lineB h ++ post)[pre.length + (bodyB h).length]'(by omega) = 13 := by
      rw [hat _ (by omega)]; simp [line_body]
    have c10 : (pre ++ lineB h ++ post)[pre.length + (bodyB h).length + 1]'(by omega) = 10 := by
      exact (hat ((bodyB h).length + 1) (by omega)).trans (by simp [line_body])
    have hcut : strOfNums (((numsB (pre ++ lineB h ++ post)).take (pre.length + (bodyB h).length)).drop pre.length) = ⟨(bodyB h).toArray⟩ := by
      rw [nums_cut, line_body]
      congr 2
      rw [List.append_assoc, List.take_append, List.take_of_length_le (by omega), List.drop_append, List.drop_of_length_le (by omega)]
      simp
    refine Ev.step (f := fun k => chinoiserielaw04_HeadBack.j1 k l (numsB (pre ++ lineB h ++ post)) j pre.length ((pre.length + (bodyB h).length : Nat) : Int) false) (fun k => ?_) (Ev.step (fun k => ?_) hk)
    · rw [chinoiserielaw04_HeadBack.l0, up1 _ (by omega), numsB_length, if_pos (by omega), if_pos (by omega), if_pos (by omega), rd_nums _ _ (by omega), c13, if_pos (by rfl), if_pos (by omega), rd_nums _ _ (by omega), c10]
      rfl
    · rw [chinoiserielaw04_HeadBack.j1, if_neg (by simp), if_pos (by omega), if_pos (by omega), numsB_length, if_pos (by omega), Int.toNat_natCast, Int.toNat_natCast, hcut, line_back h hm, Option.bind_some, if_pos rfl, if_neg (by omega), if_pos (by omega), if_pos (by omega), rd_nat l j hjl, hget,
        line_same h h rfl rfl, if_neg (by simp), up1 j (by omega), up2 _ (by omega), up1 _ (by omega)]
  | succ n ih =>
    intro p hp
    refine back_skip l _ j _ _ hz (by omega) ?_ (ih (p + 1) (by omega))
    rw [hat p (by omega)]
    have : (lineB h)[p]'(by omega) = (bodyB h)[p]'(by omega) := by
      simp only [line_body]
      rw [List.getElem_append_left]
    rw [this]
    exact body_no h hm _ (List.getElem_mem _)
theorem back_all (l : List S28) (B : List UInt8) (hz : B.length < 9223372036854775800) (hlz : l.length < 9223372036854775800) : ∀ (rest done : List S28) (pre : List UInt8), l = done ++ rest → B = pre ++ linesB rest → (∀ h ∈ rest, mayH h = true) →
    Ev (fun k => chinoiserielaw04_HeadBack.l0 k l (numsB B) (done.length : Int) (pre.length : Int) (pre.length : Int)) true ∧
    (∀ pre', pre = pre' ++ [10] → Ev (fun k => chinoiserielaw04_HeadBack.l0 k l (numsB B) (done.length : Int) (pre.length : Int) (pre'.length : Int)) true) := by
  intro rest
  induction rest with
  | nil =>
    intro done pre hl hB _
    have hBl : B = pre := by rw [hB]; simp [linesB]
    have hdl : done.length = l.length := by rw [hl]; simp
    refine ⟨back_end l B _ _ _ hdl (by rw [hBl]) (by rw [hBl]; omega) (by rw [hBl] at hz; omega), fun pre' e => ?_⟩
    have : pre.length = pre'.length + 1 := by rw [e]; simp
    exact back_end l B _ _ _ hdl (by rw [hBl]) (by rw [hBl]; omega) (by rw [hBl] at hz; omega)
  | cons h rest ih =>
    intro done pre hl hB hm
    have hB2 : B = pre ++ lineB h ++ linesB rest := by rw [hB]; simp [linesB, List.flatMap_cons]
    have hmh := hm h (List.mem_cons_self ..)
    have hBlen : B.length = pre.length + (bodyB h).length + 2 + (linesB rest).length := by
      rw [hB2, line_body]; simp only [List.length_append, List.length_cons, List.length_nil]; omega
    obtain ⟨_, i2⟩ := ih (done ++ [h]) (pre ++ lineB h) (by rw [hl]; simp) hB2 (fun x hx => hm x (List.mem_cons_of_mem _ hx))
    have i3 := i2 (pre ++ bodyB h ++ [13]) (by rw [line_body]; simp)
    have hk : Ev (fun k => chinoiserielaw04_HeadBack.l0 k l (numsB (pre ++ lineB h ++ linesB rest)) ((done.length + 1 : Nat) : Int) ((pre.length + (bodyB h).length + 2 : Nat) : Int) ((pre.length + (bodyB h).length + 1 : Nat) : Int)) true := by
      rw [← hB2]
      have e1 : (done ++ [h]).length = done.length + 1 := by simp
      have e2 : (pre ++ lineB h).length = pre.length + (bodyB h).length + 2 := by rw [line_body]; simp; omega
      have e3 : (pre ++ bodyB h ++ [13]).length = pre.length + (bodyB h).length + 1 := by simp; omega
      rw [e1, e2, e3] at i3
      exact i3
    have first : Ev (fun k => chinoiserielaw04_HeadBack.l0 k l (numsB B) (done.length : Int) (pre.length : Int) (pre.length : Int)) true := by
      have := back_scan l pre (linesB rest) done.length h (by rw [hl]; simp) hmh (by rw [← hB2]; exact hz) hlz hk (bodyB h).length 0 (by omega)
      rw [← hB2] at this
      exact this
    refine ⟨first, fun pre' e => ?_⟩
    have el : pre.length = pre'.length + 1 := by rw [e]; simp
    refine back_skip l B _ _ _ hz (by omega) ?_ (by rw [← el]; exact first)
    have : B[pre'.length]'(by omega) = 10 := by
      simp only [hB2, e]
      rw [List.getElem_append_left (by simp), List.getElem_append_left (by simp), List.getElem_append_right (by omega)]
      simp
    rw [this]; decide
theorem back_ev (l : List S28) (hz : l.length ≤ 9223372036854775807) : Ev (fun k => chinoiserielaw04_HeadBack.f k l) true := by
  obtain ⟨r, hr, hv⟩ := fineF_ev l hz
  have hok := fine_okL hr
  unfold chinoiserielaw04_HeadBack.f
  refine Ev.bind works_ev ?_
  simp only [if_true]
  refine Ev.bind hv (Ev.bind (headBytes_ev r hok) ?_)
  unfold bytesR
  rw [if_pos (fine_check hr)]
  simp only [if_true]
  have hl := linesB_len r 12 hok.2 hr.1
  exact (back_all r (linesB r) (by omega) (by have := hr.1; omega) r [] [] rfl rfl hr.2).1
end Go.Proofs.YtbdafijdfpmdiaaDoor.PHead
