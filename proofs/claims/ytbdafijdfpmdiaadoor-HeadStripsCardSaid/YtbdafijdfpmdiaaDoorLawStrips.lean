/- Plain law: what begins with a text, in whatever letters, is stripped, and nothing else. -/
import Derived.Test.YtbdafijdfpmdiaaDoorPureC
import Derived.Test.YtbdafijdfpmdiaaDoorPHeadx14
set_option linter.unusedVariables false
set_option linter.unusedSimpArgs false
namespace Go.Proofs.YtbdafijdfpmdiaaDoor.PHead
open Go.RowKit Go.Proofs.YtbdafijdfpmdiaaDoorW.PrintWords Go.Proofs.YtbdafijdfpmdiaaDoorW.PrintLast Go.Proofs.YtbdafijdfpmdiaaDoorW.PrintMore

theorem strips_same (l : List S28) (h : l.length ≤ 4000) : Ev (fun k => head_Same.f k l l) true := by
  have := headSame_ev l l (by omega)
  rwa [sameL_refl] at this
/-- A byte in a capital letter, or as it is: in small letters it is the same. -/
theorem up_back (b : UInt8) (h1 : 97 ≤ b.toNat) (h2 : b.toNat ≤ 122) : ∃ c : UInt8, ((b.toNat : Int) - 32) % 256 = (c.toNat : Int) ∧ lowB c = lowB b := by
  refine ⟨UInt8.ofNat (b.toNat - 32), ?_, ?_⟩
  · have : (UInt8.ofNat (b.toNat - 32)).toNat = b.toNat - 32 := by rw [UInt8.toNat_ofNat']; omega
    rw [this]; omega
  · have h : (UInt8.ofNat (b.toNat - 32)).toNat = b.toNat - 32 := by rw [UInt8.toNat_ofNat']; omega
    have e1 : lowB b = b := by unfold lowB; rw [if_neg (by omega)]
    rw [e1]
    unfold lowB
    rw [if_pos (by omega), h, show b.toNat - 32 + 32 = b.toNat by omega, UInt8.ofNat_toNat]
/-- Does a head begin with a text, in whatever letters? -/
def begH (p : ByteArray) (h : S28) : Bool := (lowS p).data.toList.isPrefixOf (lowS h.f0).data.toList
theorem begH_low {p q : ByteArray} (h : lowS p = lowS q) : begH p = begH q := by funext x; unfold begH; rw [h]
theorem stripR_beg (l : List S28) (p : ByteArray) : stripR l p = l.filter fun h => !begH p h := rfl

theorem strips_walk (l : List S28) (hl : okL l) (a : ByteArray) (ha : a.size ≤ 250) (X : List UInt8) (hX : X.length = a.size) :
    ∀ (rest done : List S28), l = done ++ rest → ∀ (fd : List S28), stripR l a = fd ++ rest.filter (fun h => !begH a h) →
    Ev (fun k => chinoiserielaw04_HeadStrips.l1 k l a (numsB X) (stripR l a) (fd.length : Int) (done.length : Int)) true := by
  have h0 := hl.1
  have hk : (stripR l a).length ≤ 4000 := Nat.le_trans (List.length_filter_le _ _) h0
  have hkeep : okL (stripR l a) := hl.filter _
  intro rest
  induction rest with
  | nil =>
    intro done hd fd hf
    have e1 : done.length = l.length := by rw [hd]; simp
    have e2 : fd.length = (stripR l a).length := by rw [hf]; simp
    have e3 : stripR (stripR l a) a = stripR l a := by
      rw [stripR_beg, stripR_beg, List.filter_filter]
      congr 1
      funext h
      simp
    refine Ev.step (f := fun k => (head_Same.f k (stripR (stripR l a) a) (stripR l a)).bind fun t434 => (if t434 = true then ((chinoiserielaw04_works.f k).bind fun t435 => (some t435)) else (some false))) (fun k => ?_) ?_
    · rw [chinoiserielaw04_HeadStrips.l1, if_neg (by omega), if_pos (by omega), strip_f _ hkeep a (by omega), Option.bind_some]
    · rw [e3]
      refine Ev.bind (strips_same _ hk) ?_
      simp only [if_true]
      exact Ev.bind works_ev (Ev.now _)
  | cons h rest ih =>
    intro done hd fd hf
    have hlt : done.length < l.length := by rw [hd]; simp
    have hget : l[done.length] = h := by simp only [hd]; simp
    have hrd : rd_T28 l (done.length : Int) = h := by rw [rd_nat l done.length hlt, hget]
    obtain ⟨z0, z1⟩ := hl.at_ done.length hlt
    rw [hget] at z0 z1
    have e1 : (done ++ [h]).length = done.length + 1 := by simp
    have hdone : l = (done ++ [h]) ++ rest := by rw [hd]; simp
    -- what the test tells
    have hj2 : begH a h = false → Ev (fun k => chinoiserielaw04_HeadStrips.j2 k l a (numsB X) (stripR l a) (fd.length : Int) (done.length : Int) false) true := by
      intro hb
      rw [List.filter_cons_of_pos (by rw [hb]; rfl)] at hf
      have hflt : fd.length < (stripR l a).length := by rw [hf]; simp
      have hfg : (stripR l a)[fd.length] = h := by simp only [hf]; simp
      have i := ih (done ++ [h]) hdone (fd ++ [h]) (by rw [hf]; simp)
      rw [e1, show (fd ++ [h]).length = fd.length + 1 by simp] at i
      refine Ev.step (fun k => ?_) i
      have hrk : rd_T28 (stripR l a) (fd.length : Int) = h := by rw [rd_nat _ fd.length hflt, hfg]
      rw [chinoiserielaw04_HeadStrips.j2, if_neg (by simp), if_neg (by omega), if_pos (by omega), if_pos (by omega), if_pos (by omega), if_pos (by omega), hrd, hrk, if_neg (by simp), up1 _ (by omega), up1 _ (by omega)]
    have hj2t : begH a h = true → Ev (fun k => chinoiserielaw04_HeadStrips.j2 k l a (numsB X) (stripR l a) (fd.length : Int) (done.length : Int) true) true := by
      intro hb
      rw [List.filter_cons_of_neg (by rw [hb]; simp)] at hf
      have i := ih (done ++ [h]) hdone fd hf
      rw [e1] at i
      refine Ev.step (fun k => ?_) i
      rw [chinoiserielaw04_HeadStrips.j2, if_pos rfl, up1 _ (by omega)]
    by_cases hsz : h.f0.size < a.size
    · have hb : begH a h = false := by
        unfold begH
        rw [prefix_take, decide_eq_false]; rw [lowS_len, lowS_len]; omega
      refine Ev.step (fun k => ?_) (hj2 hb)
      rw [chinoiserielaw04_HeadStrips.l1, if_pos (by omega), if_pos (by omega), hrd, numsB_length, hX, if_neg (by omega)]
    · have hz : (h.f0.extract 0 a.size).size ≤ 140737488351232 := by rw [ByteArray.size_extract]; omega
      have hiff : ((lowS (h.f0.extract 0 a.size)).toList == (lowS a).toList) = begH a h := by
        unfold begH
        rw [prefix_take, toList_eq, toList_eq, lowS_len, lowS_len]
        have e : (lowS (h.f0.extract 0 a.size)).data.toList = (lowS h.f0).data.toList.take a.size := by
          unfold lowS
          rw [ByteArray.data_extract, Array.toList_extract, List.extract_eq_take_drop]
          simp [List.map_take]
        rw [e, Bool.eq_iff_iff, beq_iff_eq, decide_eq_true_iff]
        exact ⟨fun h => ⟨by omega, h⟩, fun h => h.2⟩
      have hx : Ev (fun k => chinoiserielaw04_HeadStrips.j2 k l a (numsB X) (stripR l a) (fd.length : Int) (done.length : Int) (begH a h)) true := by
        cases hb : begH a h with
        | false => exact hj2 hb
        | true => exact hj2t hb
      refine Ev.step (fun k => ?_) hx
      rw [chinoiserielaw04_HeadStrips.l1, if_pos (by omega), if_pos (by omega), hrd, numsB_length, hX, if_pos (by omega), if_pos (by omega), if_pos (by omega), low_f _ hz, Option.bind_some, low_f a (by omega), Option.bind_some, hiff]

theorem strips_build (l : List S28) (hl : okL l) (a : ByteArray) (ha : a.size ≤ 250) (bits : Int) : ∀ (n i : Nat) (X : List UInt8), i + n = a.size → X.map lowB = (a.data.toList.take i).map lowB → X.length = i →
    Ev (fun k => chinoiserielaw04_HeadStrips.l0 k l a bits (numsB X) (i : Int)) true := by
  intro n
  induction n with
  | zero =>
    intro i X hi hX hXl
    rw [List.take_of_length_le (by rw [data_length]; omega)] at hX
    have elow : lowS (strOfNums (numsB X)) = lowS a := by
      rw [strOf_numsB]
      unfold lowS
      rw [hX]
    have hsz : (strOfNums (numsB X)).size ≤ 140737488351232 := by rw [strOfNums_size, numsB_length]; omega
    have est : stripR l (strOfNums (numsB X)) = stripR l a := by rw [stripR_beg, stripR_beg, begH_low elow]
    refine Ev.step (fun k => ?_) (strips_walk l hl a ha X (by omega) l [] rfl [] rfl)
    rw [chinoiserielaw04_HeadStrips.l0, if_neg (by omega), strip_f l hl _ hsz, Option.bind_some, est]
    rfl
  | succ n ih =>
    intro i X hi hX hXl
    have hlt : i < a.data.toList.length := by rw [data_length]; omega
    have hlen : (numsB X).length < 140737488355328 := by rw [numsB_length]; omega
    have hgo : ∀ c : UInt8, lowB c = lowB a.data.toList[i] → Ev (fun k => chinoiserielaw04_HeadStrips.l0 k l a bits (numsB X ++ [(c.toNat : Int)]) ((i + 1 : Nat) : Int)) true := by
      intro c hc
      rw [nums_snoc]
      refine ih (i + 1) (X ++ [c]) (by omega) ?_ (by simp [hXl])
      rw [List.take_succ_eq_append_getElem hlt, List.map_append, List.map_append, hX]
      simp [hc]
    have h0 : (0 : Int) ≤ Int.tmod (i : Int) 60 := Int.tmod_nonneg _ (by omega)
    by_cases h1 : (a.data.toList[i]).toNat ≥ 97
    · by_cases h2 : (a.data.toList[i]).toNat ≤ 122
      · by_cases hb : (Go.bits .and .i64 (shr .i64 bits (Int.tmod (i : Int) 60)) 1) = 1
        · obtain ⟨c, c1, c2⟩ := up_back _ h1 h2
          refine Ev.step (fun k => ?_) (hgo c c2)
          rw [chinoiserielaw04_HeadStrips.l0, if_pos (by omega), if_pos (by omega), bt_nat a i hlt, if_pos (by omega), if_pos (by omega), if_pos h0, if_pos hb, if_pos hlen, up1 i (by omega), c1]
        · refine Ev.step (fun k => ?_) (hgo _ rfl)
          rw [chinoiserielaw04_HeadStrips.l0, if_pos (by omega), if_pos (by omega), bt_nat a i hlt, if_pos (by omega), if_pos (by omega), if_pos h0, if_neg hb, if_pos hlen, up1 i (by omega)]
      · refine Ev.step (fun k => ?_) (hgo _ rfl)
        rw [chinoiserielaw04_HeadStrips.l0, if_pos (by omega), if_pos (by omega), bt_nat a i hlt, if_pos (by omega), if_neg (by omega), if_pos hlen, up1 i (by omega)]
    · refine Ev.step (fun k => ?_) (hgo _ rfl)
      rw [chinoiserielaw04_HeadStrips.l0, if_pos (by omega), if_pos (by omega), bt_nat a i hlt, if_neg (by omega), if_pos hlen, up1 i (by omega)]
theorem strips_ev (l : List S28) (a : ByteArray) (bits : Int) : Ev (fun k => chinoiserielaw04_HeadStrips.f k l a bits) true := by
  unfold chinoiserielaw04_HeadStrips.f
  refine Ev.bind (cutF_ev l) ?_
  rw [short_f]
  simp only [Option.bind_some]
  exact strips_build _ (cutL_ok l) _ (shortB_size a) bits (shortB a).size 0 [] (by omega) (by simp) rfl
end Go.Proofs.YtbdafijdfpmdiaaDoor.PHead
