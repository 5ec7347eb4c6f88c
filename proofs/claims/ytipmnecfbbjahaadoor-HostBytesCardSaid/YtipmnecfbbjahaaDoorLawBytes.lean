/- Plain law: a byte put anywhere into a host leaves it one just if it may stand there. -/
import Derived.Test.YtipmnecfbbjahaaDoorPureF
import Derived.Test.YtipmnecfbbjahaaDoorPHostx8
set_option linter.unusedVariables false
set_option linter.unusedSimpArgs false
namespace Go.Proofs.YtipmnecfbbjahaaDoor.PHost
open Go.RowKit Go.Proofs.YtipmnecfbbjahaaDoorW.PrintWords Go.Proofs.YtipmnecfbbjahaaDoorW.PrintLast Go.Proofs.YtipmnecfbbjahaaDoorW.PrintMore

/-- The part's beginning ahead of a place, and its end behind it. -/
def curA (h : List UInt8) (K : Nat) : List UInt8 := (preGo (h.take K) []).2
def nxtA (h : List UInt8) (K : Nat) : List UInt8 := nxtOf (h.drop K)
theorem cur_zero (h : List UInt8) : curA h 0 = [] := by unfold curA; rw [List.take_zero]; rfl
theorem cur_dot (h : List UInt8) (K : Nat) (hk : K < h.length) (e : h[K] = 46) : curA h (K + 1) = [] := by
  unfold curA
  rw [List.take_succ_eq_append_getElem hk, pre_snoc, if_pos e]
theorem cur_on (h : List UInt8) (K : Nat) (hk : K < h.length) (e : h[K] ≠ 46) : curA h (K + 1) = curA h K ++ [h[K]] := by
  unfold curA
  rw [List.take_succ_eq_append_getElem hk, pre_snoc, if_neg e]
theorem nxt_end (h : List UInt8) (K : Nat) (hk : h.length ≤ K) : nxtA h K = [] := by unfold nxtA; rw [List.drop_eq_nil_of_le hk]; rfl
theorem nxt_dot (h : List UInt8) (K : Nat) (hk : K < h.length) (e : h[K] = 46) : nxtA h K = [] := by
  unfold nxtA nxtOf
  rw [List.drop_eq_getElem_cons hk, List.takeWhile_cons_of_neg (by simp [e])]
theorem nxt_on (h : List UInt8) (K : Nat) (hk : K < h.length) (e : h[K] ≠ 46) : nxtA h K = h[K] :: nxtA h (K + 1) := by
  unfold nxtA nxtOf
  rw [List.drop_eq_getElem_cons hk, List.takeWhile_cons_of_pos (by simp [e])]
theorem plain_zero (s : ByteArray) : (plainN s == 0) = (refGo s.data.toList [] && decide (s.size ≤ 60)) := by
  rw [← plain_ref]
  unfold plainN
  cases plainB s <;> rfl
/-- May a byte stand there (but for a dot)? -/
def edgeA (h : List UInt8) (K : Nat) : Bool := (curA h K).isEmpty || (nxtA h K).isEmpty
def mayA (h : List UInt8) (K : Nat) (c : UInt8) : Bool := inP c && (c != 45 || !edgeA h K)
theorem bytes_say (h : ByteArray) (hh : hostOk h) (K : Nat) (s : ByteArray) (c : UInt8) (hs : s.data.toList = h.data.toList.take K ++ c :: h.data.toList.drop K) :
    (plainN s == 0) = ((if c = 46 then !(curA h.data.toList K).isEmpty && !(nxtA h.data.toList K).isEmpty && ((curA h.data.toList K).getLast? != some 45) && ((nxtA h.data.toList K).head? != some 45) else mayA h.data.toList K c && decide (1 + (nxtA h.data.toList K).length + (curA h.data.toList K).length ≤ 20)) && decide (s.size ≤ 60)) := by
  have h0 : refGo (h.data.toList.take K ++ h.data.toList.drop K) [] = true := by rw [List.take_append_drop]; exact hh.1
  rw [plain_zero, hs, byte_in c h0]
  unfold mayA edgeA curA nxtA
  rw [Bool.not_or]
theorem byte5_ev (h : ByteArray) (hh : hostOk h) (K : Nat) (hK : K ≤ h.size) (s : ByteArray) (c : UInt8) (hs : s.data.toList = h.data.toList.take K ++ c :: h.data.toList.drop K) :
    Ev (fun k => chinoiserielaw06_HostBytes.j5 k (c.toNat : Int) h (K : Int) s (edgeA h.data.toList K) (mayA h.data.toList K c) ((1 + (nxtA h.data.toList K).length + (curA h.data.toList K).length : Nat) : Int)) true := by
  have hz := hh.2
  have hsz : s.size ≤ 140737488351232 := by
    rw [← data_length, hs, List.length_append, List.length_cons, List.length_take, List.length_drop, data_length]; omega
  have hsay := bytes_say h hh K s c hs
  have hd : (decide ((s.size : Int) ≤ 60)) = decide (s.size ≤ 60) := by
    by_cases h : s.size ≤ 60
    · rw [decide_eq_true h, decide_eq_true (by omega)]
    · rw [decide_eq_false h, decide_eq_false (by omega)]
  have tc : (c.toNat : Int) = 46 ↔ c = 46 := toNat_eq (n := 46) (by omega)
  have hw : Ev (fun k => (chinoiserielaw06_works.f k).bind fun t => some t) true := Ev.bind works_ev (Ev.now _)
  refine Ev.step (f := fun k => (chinoiserielaw06_works.f k).bind fun t => some t) (fun k => ?_) hw
  rw [chinoiserielaw06_HostBytes.j5, plain_f s hsz]
  by_cases hc : c = 46
  · rw [if_pos hc] at hsay
    rw [if_pos (tc.2 hc)]
    cases he : edgeA h.data.toList K with
    | true =>
      have hv : (plainN s == 0) = false := by
        rw [hsay]
        unfold edgeA at he
        cases h1 : (curA h.data.toList K).isEmpty with
        | true => rfl
        | false =>
          rw [h1, Bool.false_or] at he
          rw [he]; rfl
      rw [if_pos rfl, Option.bind_some, hv, if_pos (beq_self_eq_true _)]
    | false =>
      rw [if_neg (by simp)]
      unfold edgeA at he
      rw [Bool.or_eq_false_iff] at he
      obtain ⟨e1, e2⟩ := he
      rw [e1, e2] at hsay
      obtain ⟨J, rfl⟩ : ∃ J, K = J + 1 := by
        cases K with
        | zero => rw [cur_zero] at e1; cases e1
        | succ J => exact ⟨J, rfl⟩
      have hJ : J < h.data.toList.length := by rw [data_length]; omega
      have hj : h.data.toList[J] ≠ 46 := fun e => by rw [cur_dot _ _ hJ e] at e1; cases e1
      have hKl : J + 1 < h.data.toList.length := by
        rw [data_length]
        by_cases hx : J + 1 < h.size
        · exact hx
        · exfalso
          rw [nxt_end _ _ (by rw [data_length]; omega)] at e2; cases e2
      have hk : h.data.toList[J + 1] ≠ 46 := fun e => by rw [nxt_dot _ _ hKl e] at e2; cases e2
      have hKs : J + 1 < h.size := by rw [data_length] at hKl; exact hKl
      have dn : wrap64 (((J + 1 : Nat) : Int) - 1) = (J : Int) := by rw [dn1 (J + 1) (by omega) (by omega)]; rfl
      have tj : ((h.data.toList[J]).toNat : Int) = 45 ↔ h.data.toList[J] = 45 := toNat_eq (n := 45) (by omega)
      have tk : ((h.data.toList[J + 1]).toNat : Int) = 45 ↔ h.data.toList[J + 1] = 45 := toNat_eq (n := 45) (by omega)
      rw [cur_on _ _ hJ hj, nxt_on _ _ hKl hk, List.getLast?_concat, List.head?_cons] at hsay
      rw [dn, if_pos (by omega), if_pos (by omega), bt_nat h J hJ, bt_nat h (J + 1) hKl]
      by_cases g1 : h.data.toList[J] = 45
      · have hv : (plainN s == 0) = false := by rw [hsay, g1]; simp
        rw [if_pos (tj.2 g1), Option.bind_some, hv, if_pos (beq_self_eq_true _)]
      · rw [if_neg (fun e => g1 (tj.1 e)), if_pos (by omega), if_pos (by omega), Option.bind_some]
        by_cases g2 : h.data.toList[J + 1] = 45
        · have hv : (plainN s == 0) = false := by rw [hsay, g2]; simp
          rw [if_pos (tk.2 g2), hv, if_pos (beq_self_eq_true _)]
        · have q1 : (some h.data.toList[J] != some 45) = true := by rw [bne_iff_ne]; exact fun e => g1 (Option.some.inj e)
          have q2 : (some h.data.toList[J + 1] != some 45) = true := by rw [bne_iff_ne]; exact fun e => g2 (Option.some.inj e)
          have hv : (plainN s == 0) = decide (s.size ≤ 60) := by rw [hsay, q1, q2]; rfl
          rw [if_neg (fun e => g2 (tk.1 e)), if_pos (by omega), hv, hd, if_pos (by simp)]
  · rw [if_neg hc] at hsay
    rw [if_neg (fun e => hc (tc.1 e)), Option.bind_some]
    cases hm : mayA h.data.toList K c with
    | true =>
      rw [hm, Bool.true_and] at hsay
      rw [if_pos rfl]
      by_cases h20 : 1 + (nxtA h.data.toList K).length + (curA h.data.toList K).length ≤ 20
      · rw [decide_eq_true h20, Bool.true_and] at hsay
        rw [if_pos (by omega), hsay, hd, if_pos (by simp)]
      · rw [decide_eq_false h20, Bool.false_and] at hsay
        rw [if_neg (by omega), hsay, if_pos (beq_self_eq_true _)]
    | false =>
      rw [hm, Bool.false_and, Bool.false_and] at hsay
      rw [if_neg (by simp), hsay, if_pos (beq_self_eq_true _)]
theorem bytel1_ev (h : ByteArray) (hz : h.size ≤ 60) (x1 x8 : Int) (x9 : ByteArray) (x10 x11 : Bool) (r : Bool) : ∀ (i : Nat) (m : Nat), i ≤ h.size → m + i ≤ 200 →
    Ev (fun k => chinoiserielaw06_HostBytes.j5 k x1 h x8 x9 x10 x11 ((m + (curA h.data.toList i).length : Nat) : Int)) r →
    Ev (fun k => chinoiserielaw06_HostBytes.l1 k x1 h x8 x9 x10 x11 (m : Int) ((i : Int) - 1)) r := by
  intro i
  induction i with
  | zero =>
    intro m hi hm hj
    rw [cur_zero] at hj
    exact Ev.step (fun k => by rw [chinoiserielaw06_HostBytes.l1, if_neg (by omega)]; rfl) hj
  | succ i ih =>
    intro m hi hm hj
    have hlt : i < h.data.toList.length := by rw [data_length]; omega
    have t0 : ((h.data.toList[i]).toNat : Int) = 46 ↔ h.data.toList[i] = 46 := toNat_eq (n := 46) (by omega)
    have ei : ((i + 1 : Nat) : Int) - 1 = (i : Int) := by omega
    rw [ei]
    by_cases g : h.data.toList[i] = 46
    · rw [cur_dot _ _ hlt g] at hj
      exact Ev.step (fun k => by rw [chinoiserielaw06_HostBytes.l1, if_pos (by omega), if_pos (by omega), if_pos (by omega), bt_nat h i hlt, if_pos (t0.2 g)]; rfl) hj
    · rw [cur_on _ _ hlt g, List.length_append, List.length_singleton] at hj
      refine Ev.step (fun k => ?_) (ih (m + 1) (by omega) (by omega) (by
        rw [show m + 1 + (curA h.data.toList i).length = m + ((curA h.data.toList i).length + 1) by omega]
        exact hj))
      have ed : wrap64 ((i : Int) - 1) = (i : Int) - 1 := by unfold wrap64; omega
      rw [chinoiserielaw06_HostBytes.l1, if_pos (by omega), if_pos (by omega), if_pos (by omega), bt_nat h i hlt, if_neg (fun e => g (t0.1 e)), up1 m (by omega), ed]
theorem bytel0_ev (h : ByteArray) (hz : h.size ≤ 60) (x1 x8 : Int) (x9 : ByteArray) (x10 x11 : Bool) (r : Bool) : ∀ (n i m : Nat), i + n = h.size → m ≤ i + 1 →
    Ev (fun k => chinoiserielaw06_HostBytes.j3 k x1 h x8 x9 x10 x11 ((m + (nxtA h.data.toList i).length : Nat) : Int)) r →
    Ev (fun k => chinoiserielaw06_HostBytes.l0 k x1 h x8 x9 x10 x11 (m : Int) (i : Int)) r := by
  intro n
  induction n with
  | zero =>
    intro i m hi hm hj
    rw [nxt_end _ _ (by rw [data_length]; omega)] at hj
    exact Ev.step (fun k => by rw [chinoiserielaw06_HostBytes.l0, if_neg (by omega)]; rfl) hj
  | succ n ih =>
    intro i m hi hm hj
    have hlt : i < h.data.toList.length := by rw [data_length]; omega
    have t0 : ((h.data.toList[i]).toNat : Int) = 46 ↔ h.data.toList[i] = 46 := toNat_eq (n := 46) (by omega)
    by_cases g : h.data.toList[i] = 46
    · rw [nxt_dot _ _ hlt g] at hj
      exact Ev.step (fun k => by rw [chinoiserielaw06_HostBytes.l0, if_pos (by omega), if_pos (by omega), bt_nat h i hlt, if_pos (t0.2 g)]; rfl) hj
    · rw [nxt_on _ _ hlt g, List.length_cons] at hj
      refine Ev.step (fun k => ?_) (ih (i + 1) (m + 1) (by omega) (by omega) (by
        rw [show m + 1 + (nxtA h.data.toList (i + 1)).length = m + ((nxtA h.data.toList (i + 1)).length + 1) by omega]
        exact hj))
      rw [chinoiserielaw06_HostBytes.l0, if_pos (by omega), if_pos (by omega), bt_nat h i hlt, if_neg (fun e => g (t0.1 e)), up1 m (by omega), up1 i (by omega)]
theorem nxt_len (h : List UInt8) (K : Nat) : (nxtA h K).length ≤ h.length := by
  unfold nxtA nxtOf
  have h1 := (List.takeWhile_prefix (fun b : UInt8 => b != 46) (l := h.drop K)).length_le
  rw [List.length_drop] at h1
  omega
theorem in_kinds (c : UInt8) : inP c = (decide (97 ≤ c.toNat ∧ c.toNat ≤ 122) || decide (48 ≤ c.toNat ∧ c.toNat ≤ 57) || decide (c.toNat = 45)) := by
  have h : ∀ n : Fin 256, inP (UInt8.ofNat n.1) = (decide (97 ≤ n.1 ∧ n.1 ≤ 122) || decide (48 ≤ n.1 ∧ n.1 ≤ 57) || decide (n.1 = 45)) := by decide +kernel
  have := h ⟨c.toNat, UInt8.toNat_lt c⟩
  rwa [UInt8.ofNat_toNat] at this
theorem byte0_ev (h : ByteArray) (hh : hostOk h) (K : Nat) (hK : K ≤ h.size) (s : ByteArray) (c : UInt8) (hs : s.data.toList = h.data.toList.take K ++ c :: h.data.toList.drop K) :
    Ev (fun k => chinoiserielaw06_HostBytes.j0 k (c.toNat : Int) h (K : Int) s (edgeA h.data.toList K)) true := by
  have hz := hh.2
  have hnl := nxt_len h.data.toList K
  rw [data_length] at hnl
  have h5 := byte5_ev h hh K hK s c hs
  have h1 := bytel1_ev h (by omega) (c.toNat : Int) (K : Int) s (edgeA h.data.toList K) (mayA h.data.toList K c) true K (1 + (nxtA h.data.toList K).length) hK (by omega) h5
  have hp : wrap64 ((K : Int) - 1) = (K : Int) - 1 := by unfold wrap64; omega
  have h3 : Ev (fun k => chinoiserielaw06_HostBytes.j3 k (c.toNat : Int) h (K : Int) s (edgeA h.data.toList K) (mayA h.data.toList K c) ((1 + (nxtA h.data.toList K).length : Nat) : Int)) true :=
    Ev.step (fun k => by rw [chinoiserielaw06_HostBytes.j3, hp]) h1
  have h0 := bytel0_ev h (by omega) (c.toNat : Int) (K : Int) s (edgeA h.data.toList K) (mayA h.data.toList K c) true (h.size - K) K 1 (by omega) (by omega) h3
  have hj : Ev (fun k => chinoiserielaw06_HostBytes.j1 k (c.toNat : Int) h (K : Int) s (edgeA h.data.toList K) (mayA h.data.toList K c)) true :=
    Ev.step (fun k => by rw [chinoiserielaw06_HostBytes.j1]; rfl) h0
  refine Ev.step (fun k => ?_) hj
  have hm : mayA h.data.toList K c = (if c.toNat = 45 then !edgeA h.data.toList K else (decide (97 ≤ c.toNat ∧ c.toNat ≤ 122) || decide (48 ≤ c.toNat ∧ c.toNat ≤ 57))) := by
    unfold mayA
    rw [in_kinds]
    have tc : c = 45 ↔ c.toNat = 45 := ⟨fun e => by rw [e]; rfl, fun e => UInt8.toNat_inj.mp (by rw [e]; rfl)⟩
    by_cases g : c.toNat = 45
    · rw [if_pos g, tc.2 g]; simp
    · have : (c != 45) = true := by rw [bne_iff_ne]; exact fun e => g (tc.1 e)
      rw [if_neg g, this, decide_eq_false g]; simp
  rw [hm, chinoiserielaw06_HostBytes.j0]
  generalize c.toNat = b at *
  by_cases g5 : b = 45
  · subst g5
    rw [if_pos rfl, if_neg (by omega), if_neg (by omega), if_pos (by omega)]
  · rw [if_neg g5]
    by_cases g1 : 97 ≤ b
    · rw [if_pos (by omega)]
      by_cases g2 : b ≤ 122
      · rw [if_pos (by omega), decide_eq_true (p := 97 ≤ b ∧ b ≤ 122) ⟨g1, g2⟩]; rfl
      · rw [if_neg (by omega), if_pos (by omega), if_neg (by omega), if_neg (by omega), decide_eq_false (p := 97 ≤ b ∧ b ≤ 122) (by omega), decide_eq_false (p := 48 ≤ b ∧ b ≤ 57) (by omega)]; rfl
    · rw [if_neg (by omega), decide_eq_false (p := 97 ≤ b ∧ b ≤ 122) (by omega)]
      by_cases g3 : 48 ≤ b
      · rw [if_pos (by omega)]
        by_cases g4 : b ≤ 57
        · rw [if_pos (by omega), decide_eq_true (p := 48 ≤ b ∧ b ≤ 57) ⟨g3, g4⟩]; rfl
        · rw [if_neg (by omega), if_neg (by omega), decide_eq_false (p := 48 ≤ b ∧ b ≤ 57) (by omega)]; rfl
      · rw [if_neg (by omega), if_neg (by omega), decide_eq_false (p := 48 ≤ b ∧ b ≤ 57) (by omega)]; rfl
theorem bytes_ev (l : List Int) (a c : Int) (h0 : 0 ≤ a) (h1 : a < 256) : Ev (fun k => chinoiserielaw06_HostBytes.f k l a c) true := by
  obtain ⟨h, hh, hv⟩ := plainF_ev l
  have hz := hh.2
  have ew : wrap64 ((h.size : Int) + 1) = (h.size : Int) + 1 := by unfold wrap64; omega
  obtain ⟨t, ht, t0, t1⟩ := bring_f c ((h.size : Int) + 1) (by omega) (by omega)
  obtain ⟨K, rfl⟩ : ∃ K : Nat, t = (K : Int) := ⟨t.toNat, by omega⟩
  obtain ⟨b, hb⟩ : ∃ b : UInt8, (b.toNat : Int) = a := ⟨UInt8.ofNat a.toNat, by rw [UInt8.toNat_ofNat']; omega⟩
  have hK : K ≤ h.size := by omega
  have e1 : strOfNums [a] = ⟨#[b]⟩ := by
    have := strOf_numsB [b]
    rw [← hb]
    exact this
  have hb1 : (⟨#[b]⟩ : ByteArray).size = 1 := rfl
  obtain ⟨s, hs⟩ : ∃ s, ((h.extract 0 K) ++ (⟨#[b]⟩ : ByteArray)) ++ (h.extract K h.size) = s := ⟨_, rfl⟩
  have hsd : s.data.toList = h.data.toList.take K ++ b :: h.data.toList.drop K := by
    rw [← hs, ByteArray.data_append, ByteArray.data_append, Array.toList_append, Array.toList_append, ext_data, ext_data, List.drop_zero, List.take_of_length_le (i := h.size) (by rw [data_length]; exact Nat.le_refl _)]
    simp
  have hx0 : (h.extract 0 K).size = K := by rw [ByteArray.size_extract]; omega
  have hgo := byte0_ev h hh K hK s b hsd
  rw [hb] at hgo
  have hedge : ∀ e, edgeA h.data.toList K = e → Ev (fun k => chinoiserielaw06_HostBytes.j0 k a h (K : Int) s e) true := fun e he => by rw [← he]; exact hgo
  unfold chinoiserielaw06_HostBytes.f
  refine Ev.bind hv ?_
  rw [ew, ht]
  simp only [Option.bind_some, e1, Int.toNat_natCast, hs]
  have c1 : (0 ≤ (K : Int)) = True := eq_true (by omega)
  have c2 : ((K : Int) ≤ (h.size : Int)) = True := eq_true (by omega)
  have c3 : ((h.extract 0 K).size + (⟨#[b]⟩ : ByteArray).size ≤ 9223372036854775807) = True := eq_true (by rw [hx0, hb1]; omega)
  have c4 : (((h.extract 0 K) ++ (⟨#[b]⟩ : ByteArray)).size + (h.extract K h.size).size ≤ 9223372036854775807) = True := eq_true (by rw [ByteArray.size_append, hx0, hb1, ByteArray.size_extract]; omega)
  simp only [c1, c2, c3, c4, if_true]
  by_cases k0 : K = 0
  · refine Ev.congr (fun k => by rw [if_pos (by omega)]) (hedge true ?_)
    rw [k0]; unfold edgeA; rw [cur_zero]; rfl
  · by_cases k1 : K = h.size
    · refine Ev.congr (fun k => by rw [if_neg (by omega), if_pos (by omega)]) (hedge true ?_)
      unfold edgeA
      rw [nxt_end _ _ (by rw [data_length]; omega)]
      simp
    · obtain ⟨J, rfl⟩ : ∃ J, K = J + 1 := ⟨K - 1, by omega⟩
      have hJ : J < h.data.toList.length := by rw [data_length]; omega
      have hKl : J + 1 < h.data.toList.length := by rw [data_length]; omega
      have dn : wrap64 (((J + 1 : Nat) : Int) - 1) = (J : Int) := by rw [dn1 (J + 1) (by omega) (by omega)]; rfl
      have tj : ((h.data.toList[J]).toNat : Int) = 46 ↔ h.data.toList[J] = 46 := toNat_eq (n := 46) (by omega)
      have tk : ((h.data.toList[J + 1]).toNat : Int) = 46 ↔ h.data.toList[J + 1] = 46 := toNat_eq (n := 46) (by omega)
      by_cases g1 : h.data.toList[J] = 46
      · refine Ev.congr (fun k => by rw [if_neg (by omega), if_neg (by omega), dn, if_pos (by omega), if_pos (by omega), bt_nat h J hJ, if_pos (tj.2 g1)]) (hedge true ?_)
        unfold edgeA
        rw [cur_dot _ _ hJ g1]; rfl
      · refine Ev.congr (fun k => by rw [if_neg (by omega), if_neg (by omega), dn, if_pos (by omega), if_pos (by omega), bt_nat h J hJ, if_neg (fun e => g1 (tj.1 e)), if_pos (by omega), bt_nat h (J + 1) hKl]) (hedge _ ?_)
        unfold edgeA
        rw [cur_on _ _ hJ g1]
        have e2 : (curA h.data.toList J ++ [h.data.toList[J]]).isEmpty = false := by simp
        rw [e2, Bool.false_or]
        by_cases g2 : h.data.toList[J + 1] = 46
        · rw [nxt_dot _ _ hKl g2]
          symm
          rw [List.isEmpty_nil, beq_iff_eq]
          exact tk.2 g2
        · rw [nxt_on _ _ hKl g2]
          symm
          rw [List.isEmpty_cons, beq_eq_false_iff_ne]
          exact fun e => g2 (tk.1 e)
end Go.Proofs.YtipmnecfbbjahaaDoor.PHost
