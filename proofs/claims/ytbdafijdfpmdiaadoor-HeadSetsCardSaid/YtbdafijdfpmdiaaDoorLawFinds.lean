/- Plain laws: what is found, dropped and stripped; what is set, and how heads are written. -/
import Derived.Test.YtbdafijdfpmdiaaDoorPureC
import Derived.Test.YtbdafijdfpmdiaaDoorPHeadx10
set_option linter.unusedVariables false
set_option linter.unusedSimpArgs false
namespace Go.Proofs.YtbdafijdfpmdiaaDoor.PHead
open Go.RowKit Go.Proofs.YtbdafijdfpmdiaaDoorW.PrintWords Go.Proofs.YtbdafijdfpmdiaaDoorW.PrintLast Go.Proofs.YtbdafijdfpmdiaaDoorW.PrintMore

theorem ok_len {l : List S28} (h : okL l) : l.length ≤ 9223372036854775806 := by have := h.1; omega
theorem same_self (l : List S28) (h : okL l) : Ev (fun k => chinoiserieref04_Same.f k l l) true := by
  have := refSame_ev l l (ok_len h)
  rwa [sameL_refl] at this
theorem finds_j2 (l : List S28) (hl : okL l) (n : ByteArray) (hn : n.size ≤ 140737488351232) (d s : List S28) (hd : okL d) (hs : s = stripR l n) :
    Ev (fun k => chinoiserielaw04_HeadFinds.j2 k l n d s false) true := by
  obtain ⟨y, hy⟩ := spoilt_ev d hd
  refine Ev.step (f := fun k => (chinoiserielaw04_spoilt.f k d).bind fun bt284 => ((chinoiserieref04_Strip.f k l n).bind fun t288 => ((chinoiserieref04_Same.f k s t288).bind fun t291 => (if t291 = true then ((chinoiserielaw04_works.f k).bind fun t292 => (some t292)) else (some false))))) (fun k => ?_) ?_
  · rw [chinoiserielaw04_HeadFinds.j2, if_neg (by simp)]
  · refine Ev.bind hy (Ev.bind (refStrip_ev l hl n hn) ?_)
    rw [← hs]
    refine Ev.bind (same_self s (by rw [hs]; exact hl.filter _)) ?_
    simp only [if_true]
    exact Ev.bind works_ev (Ev.now _)
theorem finds_j1 (l : List S28) (hl : okL l) (n : ByteArray) (hn : n.size ≤ 140737488351232) :
    Ev (fun k => chinoiserielaw04_HeadFinds.j1 k l n false) true := by
  obtain ⟨y, hy⟩ := spoilt_ev l hl
  refine Ev.step (f := fun k => (chinoiserielaw04_spoilt.f k l).bind fun bt272 => ((chinoiserieref04_Drop.f k l n).bind fun t276 => ((chinoiserieref04_Same.f k (dropR l n) t276).bind fun t279 => (if t279 = true then ((chinoiserieref04_Strip.f k l n).bind fun t280 => ((chinoiserieref04_Same.f k (stripR l n) t280).bind fun t283 => (chinoiserielaw04_HeadFinds.j2 k l n (dropR l n) (stripR l n) (!t283)))) else (chinoiserielaw04_HeadFinds.j2 k l n (dropR l n) (stripR l n) true))))) (fun k => ?_) ?_
  · rw [chinoiserielaw04_HeadFinds.j1, if_neg (by simp), copy_f l hl, Option.bind_some, drop_f l hl, Option.bind_some, strip_f l hl n hn, Option.bind_some]
  · refine Ev.bind hy (Ev.bind (refDrop_ev l hl n hn) (Ev.bind (same_self _ (hl.filter _)) ?_))
    simp only [if_true]
    refine Ev.bind (refStrip_ev l hl n hn) (Ev.bind (same_self _ (hl.filter _)) ?_)
    exact finds_j2 l hl n hn _ _ (hl.filter _) rfl
theorem finds_j0 (l m : List S28) (hl : okL l) (n : ByteArray) (hn : n.size ≤ 140737488351232) (v : ByteArray) (c : Int) (q : ByteArray) (hq : q.size ≤ 140737488351232) :
    Ev (fun k => chinoiserielaw04_HeadFinds.j0 k l m n v c v c q) true := by
  refine Ev.step (f := fun k => (chinoiserieref04_Check.f k l).bind fun t256 => (if checkR l = t256 then ((chinoiserieref04_Alike.f k n q).bind fun t258 => (if (alk n q != t258) = true then (chinoiserielaw04_HeadFinds.j1 k l n true) else ((chinoiserieref04_Lower.f k n).bind fun t260 => (if (lowS n).toList = t260.toList then ((head_Same.f k l m).bind fun t261 => ((chinoiserieref04_Same.f k l m).bind fun t262 => (chinoiserielaw04_HeadFinds.j1 k l n (t261 != t262)))) else (chinoiserielaw04_HeadFinds.j1 k l n true))))) else (chinoiserielaw04_HeadFinds.j1 k l n true))) (fun k => ?_) ?_
  · rw [chinoiserielaw04_HeadFinds.j0, if_pos rfl, if_pos rfl, check_f, Option.bind_some, alike_f, low_f n hn]
    rfl
  · refine Ev.bind (refCheck_ev l hl) ?_
    simp only [if_true]
    refine Ev.bind (refAlike_ev n q hn hq) ?_
    simp only [bne_self_eq_false, Bool.false_eq_true, if_false]
    refine Ev.bind (refLower_ev n hn) ?_
    simp only [if_true]
    refine Ev.bind (headSame_ev l m (ok_len hl)) (Ev.bind (refSame_ev l m (ok_len hl)) ?_)
    rw [bne_self_eq_false]
    exact finds_j1 l hl n hn
theorem finds_ev (l m : List S28) (n : ByteArray) : Ev (fun k => chinoiserielaw04_HeadFinds.f k l m n) true := by
  have hl := cutL_ok l
  have hm := cutL_ok m
  have hn : (shortB n).size ≤ 140737488351232 := by have := shortB_size n; omega
  unfold chinoiserielaw04_HeadFinds.f
  refine Ev.bind (cutF_ev l) (Ev.bind (cutF_ev m) ?_)
  rw [short_f]
  simp only [Option.bind_some, get_f _ hl]
  refine Ev.bind (refGet_ev _ hl _ hn) ?_
  by_cases h : ((cutL m).length : Int) > 0
  · have h' : (0 : Int) < ((cutL m).length : Int) := h
    simp only [h, h', if_true]
    refine finds_j0 _ _ hl _ hn _ _ _ ?_
    have := rd_nat (cutL m) 0 (by omega)
    have e : rd_T28 (cutL m) 0 = (cutL m)[0]'(by omega) := this
    rw [e]
    have := (hm.at_ 0 (by omega)).1
    omega
  · simp only [h, if_false]
    exact finds_j0 _ _ hl _ hn _ _ _ (by decide)
theorem sets_ev (l : List S28) (a v : ByteArray) : Ev (fun k => chinoiserielaw04_HeadSets.f k l a v) true := by
  have hl := cutL_ok l
  have ha : (shortB a).size ≤ 140737488351232 := by have := shortB_size a; omega
  have hv : (shortB v).size ≤ 140737488351232 := by have := shortB_size v; omega
  obtain ⟨y, hy⟩ := spoilt_ev _ hl
  have hset : okL (setR (cutL l) (shortB a) (shortB v)).1 := by
    unfold setR
    split
    · split
      · exact ⟨by simp, by simp⟩
      · refine ⟨?_, ?_⟩
        · have := (hl.filter fun h => !alk h.f0 (shortB a)).1
          have e := cutL_len l
          have e2 := List.length_filter_le (fun h => !alk h.f0 (shortB a)) (cutL l)
          simp only [dropR, List.length_append, List.length_cons, List.length_nil]
          omega
        · intro h hh
          rcases List.mem_append.mp hh with h1 | h1
          · exact (hl.filter _).2 h h1
          · rw [List.mem_singleton.mp h1]
            have g1 := shortB_size a
            have g2 := shortB_size v
            exact ⟨by show (shortB a).size ≤ 1000; omega, by show (shortB v).size ≤ 1000; omega⟩
    · exact ⟨by simp, by simp⟩
  unfold chinoiserielaw04_HeadSets.f
  refine Ev.bind (cutF_ev l) ?_
  rw [short_f, short_f]
  simp only [Option.bind_some, copy_f _ hl, set_f _ hl]
  refine Ev.bind (refSet_ev _ hl _ _ ha hv) (Ev.bind (headBytes_ev _ hl) (Ev.bind (refBytes_ev _ hl) (Ev.bind hy (Ev.bind (same_self _ hset) ?_))))
  simp only [if_true, chinoiserieref00_EqBytes.f, beq_self_eq_true, Option.bind_some]
  refine Ev.bind (same_self _ hl) ?_
  simp only [if_true]
  exact Ev.bind works_ev (Ev.now _)
end Go.Proofs.YtbdafijdfpmdiaaDoor.PHead
