/- Plain law: what Norm tells is plain, and Write of it is an authority that says the same. -/
import Derived.Test.YtipmnecfbbjahaaDoorPureE
import Derived.Test.YtipmnecfbbjahaaDoorPHostx6
set_option linter.unusedVariables false
set_option linter.unusedSimpArgs false
namespace Go.Proofs.YtipmnecfbbjahaaDoor.PHost
open Go.RowKit Go.Proofs.YtipmnecfbbjahaaDoorW.PrintWords Go.Proofs.YtipmnecfbbjahaaDoorW.PrintLast Go.Proofs.YtipmnecfbbjahaaDoorW.PrintMore

/-- A number brought to be from 0 to below n. -/
theorem bring_f (i n : Int) (h0 : 0 < n) (h1 : n ≤ 9223372036854775807) : ∃ r, chinoiserieref00_Bring.f i n = some r ∧ 0 ≤ r ∧ r < n := by
  have hl := Int.tmod_lt_of_pos i h0
  have hg : -n < Int.tmod i n := by
    have := Int.tmod_lt_of_pos (-i) h0
    rw [Int.neg_tmod] at this
    omega
  unfold chinoiserieref00_Bring.f
  rw [if_neg (by omega)]
  by_cases h : Int.tmod i n < 0
  · rw [if_pos h]
    refine ⟨_, rfl, ?_, ?_⟩ <;> (unfold wrap64; omega)
  · rw [if_neg h]
    exact ⟨_, rfl, by omega, hl⟩
/-- The parts that a host is made of. -/
def partsL : List ByteArray := [⟨#[97]⟩, ⟨#[98]⟩, ⟨#[115, 104, 111, 112]⟩, ⟨#[120, 45, 49]⟩, ⟨#[48]⟩, ⟨#[119, 57, 119]⟩, ⟨#[101, 120, 97, 109, 112, 108, 101]⟩, ⟨#[97, 98, 99, 100, 101, 102, 103, 104, 105, 106, 107, 108, 109, 110, 111, 112, 113, 114, 115, 116]⟩]
theorem partsL_ok : ∀ p ∈ partsL, partOk p.data.toList = true ∧ 46 ∉ p.data.toList ∧ p.size ≤ 20 := by decide +kernel
theorem part_f (n : Int) : ∃ p, chinoiserielaw06_part.f n = some p ∧ p ∈ partsL := by
  obtain ⟨r, hr, h0, h1⟩ := bring_f n 8 (by decide) (by decide)
  unfold chinoiserielaw06_part.f
  rw [Option.bind_some, hr, Option.bind_some, if_pos h0, if_pos (by simpa using h1)]
  refine ⟨_, rfl, ?_⟩
  have hlt : r.toNat < partsL.length := by show r.toNat < 8; omega
  show rdOf ByteArray.empty partsL r ∈ partsL
  unfold rdOf
  rw [List.getD_eq_getElem?_getD, List.getElem?_eq_getElem hlt]
  exact List.getElem_mem hlt
theorem ref_join : ∀ (l cur p : List UInt8), 46 ∉ p → refGo (l ++ 46 :: p) cur = (refGo l cur && partOk p) := by
  have hp : ∀ (p cur : List UInt8), 46 ∉ p → refGo p cur = partOk (cur ++ p) := by
    intro p
    induction p with
    | nil => intro cur _; rw [refGo, List.append_nil]
    | cons x p ih =>
      intro cur h
      rw [refGo, if_neg (fun e => h (by rw [e]; exact List.mem_cons_self ..)), ih _ (fun e => h (List.mem_cons_of_mem _ e))]
      simp
  intro l
  induction l with
  | nil =>
    intro cur p h
    have e1 : refGo (46 :: p) cur = (partOk cur && refGo p []) := by rw [refGo, if_pos rfl]
    have e2 : refGo [] cur = partOk cur := rfl
    rw [List.nil_append, e1, e2, hp p [] h, List.nil_append]
  | cons c l ih =>
    intro cur p h
    rw [List.cons_append, refGo, refGo]
    by_cases hc : c = 46
    · rw [if_pos hc, if_pos hc, ih [] p h, Bool.and_assoc]
    · rw [if_neg hc, if_neg hc, ih _ p h]
/-- A host so far. -/
def hostOk (s : ByteArray) : Prop := refGo s.data.toList [] = true ∧ s.size ≤ 58
theorem host_plain {s : ByteArray} (h : hostOk s) : plainB s = true := by
  rw [plain_ref, h.1, decide_eq_true (by have := h.2; omega)]; rfl
theorem part_host {p : ByteArray} (h : p ∈ partsL) : hostOk p := by
  obtain ⟨h1, h2, h3⟩ := partsL_ok p h
  refine ⟨?_, by omega⟩
  have := ref_join [] [] p.data.toList h2
  have key : ∀ (p cur : List UInt8), 46 ∉ p → refGo p cur = partOk (cur ++ p) := by
    intro p
    induction p with
    | nil => intro cur _; rw [refGo, List.append_nil]
    | cons x p ih =>
      intro cur h
      rw [refGo, if_neg (fun e => h (by rw [e]; exact List.mem_cons_self ..)), ih _ (fun e => h (List.mem_cons_of_mem _ e))]
      simp
  rw [key _ [] h2, List.nil_append]
  exact h1
theorem rd_nat (l : List Int) (i : Nat) (h : i < l.length) : rd l (i : Int) = l[i] := by simp [rd, List.getD, h]
theorem plainl_some (l : List Int) : ∀ (n i : Nat) (s : ByteArray), i + n = max 1 (min l.length 5) → 1 ≤ i → hostOk s → ∃ r, hostOk r ∧ Ev (fun k => chinoiserielaw06_plain.l0 k l s (i : Int)) r := by
  have e1 : (⟨#[46]⟩ : ByteArray).size = 1 := rfl
  intro n
  induction n with
  | zero =>
    intro i s hi h1 hs
    refine ⟨s, hs, Ev.step (f := fun k => chinoiserielaw06_plain.j2 k l s (i : Int) false) (fun k => ?_) (Ev.step (fun k => by rw [chinoiserielaw06_plain.j2, if_neg (by simp)]) (Ev.now _))⟩
    by_cases h : i < l.length
    · rw [chinoiserielaw06_plain.l0, if_pos (by omega), decide_eq_false (by omega)]
    · rw [chinoiserielaw06_plain.l0, if_neg (by omega)]
  | succ n ih =>
    intro i s hi h1 hs
    have hlt : i < l.length := by omega
    have hss := hs.2
    obtain ⟨p, hp, hpm⟩ := part_f (rd l (i : Int))
    obtain ⟨q1, q2, q3⟩ := partsL_ok p hpm
    have ew : wrap64 ((s.size : Int) + (p.size : Int)) = ((s.size + p.size : Nat) : Int) := by unfold wrap64; omega
    by_cases hc : s.size + p.size < 58
    · have hj : hostOk ((s ++ (⟨#[46]⟩ : ByteArray)) ++ p) := by
        refine ⟨?_, by rw [ByteArray.size_append, ByteArray.size_append, e1]; omega⟩
        have ed : ((s ++ (⟨#[46]⟩ : ByteArray)) ++ p).data.toList = s.data.toList ++ 46 :: p.data.toList := by
          rw [ByteArray.data_append, ByteArray.data_append]; simp
        rw [ed, ref_join _ _ _ q2, hs.1, q1]; rfl
      obtain ⟨r, hr, hv⟩ := ih (i + 1) _ (by omega) (by omega) hj
      refine ⟨r, hr, Ev.step (f := fun k => chinoiserielaw06_plain.j2 k l s (i : Int) true) (fun k => by rw [chinoiserielaw06_plain.l0, if_pos (by omega), decide_eq_true (by omega)]) (Ev.step (fun k => ?_) hv)⟩
      rw [chinoiserielaw06_plain.j2, if_pos rfl, if_pos (by omega), if_pos (by omega), hp, Option.bind_some, ew, if_pos (by omega), if_pos (by omega), if_pos (by rw [ByteArray.size_append, e1]; omega), up1 i (by omega)]
    · obtain ⟨r, hr, hv⟩ := ih (i + 1) s (by omega) (by omega) hs
      refine ⟨r, hr, Ev.step (f := fun k => chinoiserielaw06_plain.j2 k l s (i : Int) true) (fun k => by rw [chinoiserielaw06_plain.l0, if_pos (by omega), decide_eq_true (by omega)]) (Ev.step (fun k => ?_) hv)⟩
      rw [chinoiserielaw06_plain.j2, if_pos rfl, if_pos (by omega), if_pos (by omega), hp, Option.bind_some, ew, if_neg (by omega), up1 i (by omega)]
theorem plainF_ev (l : List Int) : ∃ r, hostOk r ∧ Ev (fun k => chinoiserielaw06_plain.f k l) r := by
  have go : ∀ s, hostOk s → ∃ r, hostOk r ∧ Ev (fun k => chinoiserielaw06_plain.j0 k l s) r := by
    intro s hs
    obtain ⟨r, hr, hv⟩ := plainl_some l (max 1 (min l.length 5) - 1) 1 s (by omega) (Nat.le_refl _) hs
    exact ⟨r, hr, Ev.step (fun k => by rw [chinoiserielaw06_plain.j0]; rfl) hv⟩
  unfold chinoiserielaw06_plain.f
  by_cases h : l.length > 0
  · obtain ⟨p, hp, hpm⟩ := part_f (rd l 0)
    obtain ⟨r, hr, hv⟩ := go p (part_host hpm)
    refine ⟨r, hr, Ev.congr (fun k => ?_) hv⟩
    rw [if_pos (by omega), if_pos (by omega), hp, Option.bind_some]
  · obtain ⟨r, hr, hv⟩ := go ⟨#[97]⟩ (part_host (by simp [partsL]))
    refine ⟨r, hr, Ev.congr (fun k => ?_) hv⟩
    rw [if_neg (by omega)]
theorem host_pat {h : ByteArray} (hp : plainB h = true) : patN h = 0 := by
  have hb := plain_bytes hp
  have hz := (plain_parts hp).2
  unfold patN
  rw [if_neg (by omega)]
  have e : bare h = h := by
    unfold bare
    rw [if_neg]
    intro hx
    rw [take_two, beq_iff_eq] at hx
    have : (42 : UInt8) ∈ h.data.toList := by
      have : (42 : UInt8) ∈ h.data.toList.take 2 := by rw [hx]; simp
      exact List.mem_of_mem_take this
    exact (hb 42 this).2.1 rfl
  rw [e]
  unfold plainN
  rw [if_pos hp]
theorem up_back (b : UInt8) (h1 : 97 ≤ b.toNat) (h2 : b.toNat ≤ 122) : ∃ c : UInt8, ((b.toNat : Int) - 97 + 65) % 256 = (c.toNat : Int) ∧ lowB c = lowB b := by
  have h : (UInt8.ofNat (b.toNat - 32)).toNat = b.toNat - 32 := by rw [UInt8.toNat_ofNat']; omega
  refine ⟨UInt8.ofNat (b.toNat - 32), by rw [h]; omega, ?_⟩
  have e1 : lowB b = b := by unfold lowB; rw [if_neg (by omega)]
  rw [e1]
  unfold lowB
  rw [if_pos (by omega), h, show b.toNat - 32 + 32 = b.toNat by omega, UInt8.ofNat_toNat]
theorem loudl_ev (s : ByteArray) (hs : s.size ≤ 1000) (bits : Int) : ∀ (n i : Nat) (X : List UInt8), i + n = s.size → X.map lowB = (s.data.toList.take i).map lowB → X.length = i →
    ∃ r : ByteArray, r.data.toList.map lowB = s.data.toList.map lowB ∧ r.size = s.size ∧ Ev (fun k => chinoiserielaw06_loud.l0 k s bits (numsB X) (i : Int)) r := by
  intro n
  induction n with
  | zero =>
    intro i X hi hX hXl
    rw [List.take_of_length_le (by rw [data_length]; omega)] at hX
    refine ⟨⟨X.toArray⟩, hX, by rw [mk_size X]; omega, Ev.step (fun k => ?_) (Ev.now _)⟩
    rw [chinoiserielaw06_loud.l0, if_neg (by omega), strOf_numsB]
  | succ n ih =>
    intro i X hi hX hXl
    have hlt : i < s.data.toList.length := by rw [data_length]; omega
    have hlen : (numsB X).length < 140737488355328 := by rw [numsB_length]; omega
    have hgo : ∀ c : UInt8, lowB c = lowB s.data.toList[i] → ∃ r : ByteArray, r.data.toList.map lowB = s.data.toList.map lowB ∧ r.size = s.size ∧ Ev (fun k => chinoiserielaw06_loud.l0 k s bits (numsB X ++ [(c.toNat : Int)]) ((i + 1 : Nat) : Int)) r := by
      intro c hc
      rw [nums_snoc]
      refine ih (i + 1) (X ++ [c]) (by omega) ?_ (by simp [hXl])
      rw [List.take_succ_eq_append_getElem hlt, List.map_append, List.map_append, hX]
      simp [hc]
    have h0 : (0 : Int) ≤ Int.tmod (i : Int) 31 := Int.tmod_nonneg _ (by omega)
    by_cases h1 : (s.data.toList[i]).toNat ≥ 97
    · by_cases h2 : (s.data.toList[i]).toNat ≤ 122
      · by_cases hb : (Go.bits .and .i64 (shr .i64 bits (Int.tmod (i : Int) 31)) 1) = 1
        · obtain ⟨c, c1, c2⟩ := up_back _ h1 h2
          obtain ⟨r, r1, r2, r3⟩ := hgo c c2
          refine ⟨r, r1, r2, Ev.step (fun k => ?_) r3⟩
          rw [chinoiserielaw06_loud.l0, if_pos (by omega), if_pos (by omega), bt_nat s i hlt, if_pos (by omega), if_pos (by omega), if_pos h0, if_pos hb, if_pos hlen, up1 i (by omega), c1]
        · obtain ⟨r, r1, r2, r3⟩ := hgo _ rfl
          refine ⟨r, r1, r2, Ev.step (fun k => ?_) r3⟩
          rw [chinoiserielaw06_loud.l0, if_pos (by omega), if_pos (by omega), bt_nat s i hlt, if_pos (by omega), if_pos (by omega), if_pos h0, if_neg hb, if_pos hlen, up1 i (by omega)]
      · obtain ⟨r, r1, r2, r3⟩ := hgo _ rfl
        refine ⟨r, r1, r2, Ev.step (fun k => ?_) r3⟩
        rw [chinoiserielaw06_loud.l0, if_pos (by omega), if_pos (by omega), bt_nat s i hlt, if_pos (by omega), if_neg (by omega), if_pos hlen, up1 i (by omega)]
    · obtain ⟨r, r1, r2, r3⟩ := hgo _ rfl
      refine ⟨r, r1, r2, Ev.step (fun k => ?_) r3⟩
      rw [chinoiserielaw06_loud.l0, if_pos (by omega), if_pos (by omega), bt_nat s i hlt, if_neg (by omega), if_pos hlen, up1 i (by omega)]
theorem back_ev (l : List Int) (port bits : Int) : Ev (fun k => chinoiserielaw06_HostBack.f k l port bits) true := by
  obtain ⟨h, hh, hv⟩ := plainF_ev l
  have hp := host_plain hh
  have hz := (plain_parts hp).2
  obtain ⟨t, ht, t0, t1⟩ := bring_f port 65535 (by decide) (by decide)
  obtain ⟨u, hu, u0, u1⟩ := bring_f bits 2147483648 (by decide) (by decide)
  have ew : wrap64 (1 + t) = 1 + t := by unfold wrap64; omega
  have n0 : 1 ≤ 1 + t := by omega
  have n1 : 1 + t ≤ 65535 := by omega
  have hw0 := write_ok hp n0 n1
  have hws := write_size hp n0 n1
  have hil := itoa_len (1 + t) n0 n1
  have hwz : (writeR h (1 + t)).1.size ≤ 1000 := by
    rw [hws]; split <;> omega
  obtain ⟨r, r1, r2, r3⟩ := loudl_ev (writeR h (1 + t)).1 hwz u (writeR h (1 + t)).1.size 0 [] (by omega) (by simp) rfl
  have hn : normR r = (h, 1 + t, 0) := norm_back hp n0 n1 (by rw [r1]; exact map_back hp n0 n1)
  have hfin : Ev (fun k => chinoiserielaw06_HostBack.j0 k bits h (1 + t) (writeR h (1 + t)).1 false) true := by
    refine Ev.step (f := fun k => (chinoiserielaw06_loud.f k (writeR h (1 + t)).1 u).bind fun t198 => ((host_Norm.f t198).bind fun bt199 => ((host_Write.f k bt199.1 bt199.2.1).bind fun bt202 => (if bt199.2.2 = 0 then (if bt199.1.toList = h.toList then (if bt199.2.1 = (1 + t) then (if bt202.2 = 0 then (some (bt202.1.toList == (writeR h (1 + t)).1.toList)) else (some false)) else (some false)) else (some false)) else (some false))))) (fun k => by
      rw [chinoiserielaw06_HostBack.j0, if_neg (by simp), hu, Option.bind_some]) ?_
    refine Ev.bind (a := r) r3 ?_
    rw [norm_f r (by omega), hn]
    simp only [Option.bind_some]
    refine Ev.bind (write_ev h (1 + t) (by omega)) ?_
    rw [hw0]
    simp only [if_true, beq_self_eq_true]
    exact Ev.now _
  unfold chinoiserielaw06_HostBack.f
  refine Ev.bind works_ev ?_
  simp only [if_true]
  refine Ev.bind hv ?_
  rw [ht]
  simp only [Option.bind_some]
  rw [ew]
  refine Ev.bind (write_ev h (1 + t) (by omega)) ?_
  have d3 : plainN h = 0 := by unfold plainN; rw [if_pos hp]
  rw [hw0, plain_f h (by omega), pattern_f h (by omega), d3, host_pat hp]
  simp only [if_true, Option.bind_some, bne_self_eq_false]
  exact hfin
end Go.Proofs.YtipmnecfbbjahaaDoor.PHost
