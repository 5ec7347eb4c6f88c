/- head.folded: a name in small letters, whatever the orders that its first statement leaves open. -/
import Derived.Test.YtbdafijdfpmdiaaDoorExtC
import Derived.Deep.RegionWith
import Derived.Deep.DeepCutAuto
namespace Go.Proofs.YtbdafijdfpmdiaaDoor.PHead
open Go.RowKit Go.Proofs.YtbdafijdfpmdiaaDoorW.PrintWords Go.Proofs.YtbdafijdfpmdiaaDoorW.PrintLast Go.Proofs.YtbdafijdfpmdiaaDoorW.PrintMore

/-- Block m is a row of just the numbers l (bytes). -/
def CRow (W : World) (m : Nat) (l : List Int) : Prop := ∃ cur : Array Value, W.heap[m]? = some (.cells cur 5 (0, 0)) ∧ cur.size = l.length ∧ ∀ j, j < l.length → cur[j]? = some (.int .u8 (l.getD j 0))
theorem CRow.cell {W : World} {g : Nat} {l : List Int} (h : CRow W g l) (j : Nat) (hj : j < l.length) : W.cell? ⟨g, j, none⟩ = some (.int .u8 (l.getD j 0)) := by
  obtain ⟨cur, h1, h2, h3⟩ := h
  simp [World.cell?, h1, h3 j hj]
theorem CRow.free {W : World} {g : Nat} {l : List Int} (h : CRow W g l) (j : Nat) : W.frozen? ⟨g, j, none⟩ = false := by
  obtain ⟨cur, h1, h2, h3⟩ := h
  simp [World.frozen?, h1]
theorem CRow.set {W : World} {g : Nat} {l : List Int} (h : CRow W g l) (j : Nat) (v : Int) : CRow (W.setCell ⟨g, j, none⟩ (.int .u8 v)) g (l.set j v) := by
  obtain ⟨cur, h1, h2, h3⟩ := h
  refine ⟨cur.setIfInBounds j (.int .u8 v), ?_, by simpa using h2, ?_⟩
  · simp [World.setCell, Array.getElem?_modify, h1]
  · intro i hi
    have hi' : i < l.length := by simpa using hi
    by_cases e : j = i
    · subst e
      have : j < cur.size := by omega
      simp [List.getD, this, hi']
    · rw [Array.getElem?_setIfInBounds_ne (by exact e), h3 i hi']
      simp [List.getD, List.getElem?_set_ne e]
theorem CRow.ne {W : World} {g m : Nat} {l : List Int} {f : Nat → Int} (h : CRow W m l) (h' : ARow W g f) : m ≠ g := by
  obtain ⟨cur, h1, _⟩ := h
  obtain ⟨cs, h2, _⟩ := h'
  exact blk_ne h1 h2 (by decide)
theorem ARow.far {W : World} {g m : Nat} {f : Nat → Int} (h : ARow W g f) (hne : m ≠ g) (j : Nat) (v : Value) : ARow (W.setCell ⟨m, j, none⟩ v) g f := by
  obtain ⟨cells, h1, h2⟩ := h
  exact ⟨cells, blk_far h1 (fun e => hne e.symm) v, h2⟩

/-- The first k letters made small; zeros behind. -/
def outL (l : List UInt8) (k : Nat) : List Int := (l.take k).map (fun b => ((lowB b).toNat : Int)) ++ List.replicate (l.length - k) 0
theorem outL_len (l : List UInt8) (k : Nat) (hk : k ≤ l.length) : (outL l k).length = l.length := by simp [outL]; omega
theorem outL_succ (l : List UInt8) (k : Nat) (hk : k < l.length) : outL l (k + 1) = (outL l k).set k ((lowB l[k]).toNat : Int) := by
  have h1 : ((l.take k).map (fun b => ((lowB b).toNat : Int))).length = k := by simp; omega
  unfold outL
  rw [List.take_succ_eq_append_getElem hk, List.map_append, List.set_append_right _ _ (by omega), h1, Nat.sub_self, show l.length - k = (l.length - (k + 1)) + 1 from by omega, List.replicate_succ, List.set_cons_zero]
  simp
theorem outL_all (l : List UInt8) : outL l l.length = numsB (l.map lowB) := by simp [outL, numsB, Function.comp_def]

theorem nam_yes (b : UInt8) (h : namB b = true) : tabv b.toNat = ((lowB b).toNat : Int) ∧ 0 < ((lowB b).toNat : Int) := by
  have hb := b.toNat_lt
  simp only [namB, Bool.or_eq_true, decide_eq_true_eq] at h
  unfold tabv lowB
  by_cases h1 : (97 ≤ b.toNat ∧ b.toNat ≤ 122) ∨ (48 ≤ b.toNat ∧ b.toNat ≤ 57) ∨ b.toNat = 45 ∨ b.toNat = 95
  · rw [if_pos h1, if_neg (by omega)]
    omega
  · have h2 : 65 ≤ b.toNat ∧ b.toNat ≤ 90 := by omega
    rw [if_neg h1, if_pos h2, if_pos h2, UInt8.toNat_ofNat']
    omega
theorem nam_no (b : UInt8) (h : namB b = false) : tabv b.toNat = 0 := by
  simp only [namB, Bool.or_eq_false_iff, decide_eq_false_iff_not] at h
  unfold tabv
  rw [if_neg (by omega), if_neg (by omega)]
theorem tabv_range (c : Nat) (hc : c < 256) : 0 ≤ tabv c ∧ tabv c ≤ 255 := by
  unfold tabv
  split
  · omega
  · split <;> omega

/-- What folded answers of a text of 1 to 30 bytes. -/
def foldRes (s : ByteArray) : Ending := .returned (.tuple #[.string (if s.data.toList.all namB then lowS s else ⟨#[]⟩), .bool (s.data.toList.all namB)])
theorem foldRes_yes {s : ByteArray} (h : s.data.toList.all namB = true) : .returned (.tuple #[.string (lowS s), .bool true]) = foldRes s := by unfold foldRes; rw [h]; rfl
theorem foldRes_no {s : ByteArray} (h : s.data.toList.all namB = false) : .returned (.tuple #[.string ⟨#[]⟩, .bool false]) = foldRes s := by unfold foldRes; rw [h]; rfl

set_option maxHeartbeats 4000000 in
set_option maxRecDepth 100000 in
theorem fold_in (a0 : ByteArray) (w : World) (h1 : 1 ≤ a0.size) (h2 : a0.size ≤ 30) :
    Calls Tryd.prog 47 #[.string a0] w fun e w' => e = foldRes a0 ∧ Below w.heap.size w w' := by
  have b1 : ((a0.size : Int) == 0) = false := beq_eq_false_iff_ne.2 (by omega)
  have b2 : decide (30 < (a0.size : Int)) = false := decide_eq_false (by omega)
  have hb : 0 ≤ (a0.size : Int) := by omega
  have hb2 : (a0.size : Int) ≤ 30 := by omega
  obtain ⟨zs, hzs, hmk⟩ := make38 a0.size h2
  have HZ := Lib.hid hzs
  clear hzs
  go_enter Tryd.func47, Tryd.ntmps47
  go_upto_region 3 with (fail)
  go_cut [4, 5] (fun v4 v5 wc => ∃ (g m : Nat), v4 = .pointer (some ⟨g, 0, none⟩) ∧ v5 = .slice (some ⟨m, 0, none⟩) a0.size a0.size ∧ ARow wc g tabv ∧ wc.heap[m]? = some (.cells zs 5 (0, 0)) ∧ w.heap.size ≤ m ∧ Below w.heap.size w wc)
  case first =>
    refine wp_region_any (by kernel_rfl) ?_
    change wpAny _ _ _ _ _ _ _ (World.drew _)
    refine wpAny_take (i := 1) (v := ?_) rfl (by kernel_rfl) (by kernel_rfl) (by kernel_rfl) (fun _ _ _ h => h) (Or.inl ⟨by rfl, ?_⟩) ?_
    rotate_left
    · intro w'
      go_simp
      with_reducible rfl
    refine wpAny_take (i := 2) (v := ?_) rfl (by kernel_rfl) (by kernel_rfl) (by kernel_rfl) (fun _ _ _ h => h) (Or.inl ⟨by rfl, ?_⟩) ?_
    rotate_left
    · intro w'
      go_simp
      with_reducible rfl
    have HB := Below.refl w.heap.size w
    replace HB := below_drew1 HB
    obtain ⟨W0, hW0⟩ : ∃ W0, w.drew = W0 := ⟨_, rfl⟩
    rw [hW0] at HB ⊢
    clear hW0
    refine wpAny_ready (rs := [0, 3, 4]) (by kernel_rfl) (by simp) ?_
    refine AllReady.cons rfl (fun K hK => ?_) ?_
    · skip
      go_simp
      refine (build60 _).mono ?_
      rintro e W1 ⟨x, rfl, ht, hb⟩
      refine hK _ _ ?_
      clear hK K
      replace HB := HB.trans (hb.mono HB.size)
      clear hb
      refine wpAny_ready (rs := [3, 4]) (by kernel_rfl) (by simp) ?_
      refine AllReady.cons rfl (fun K hK => ?_) ?_
      · skip
        go_simp
        refine hK _ _ ?_
        clear hK K
        have Hm := heap_alloc_new W1 (.cells zs 5)
        have hb := below_alloc (Below.refl W1.heap.size W1) (.cells zs 5)
        have mw : w.heap.size ≤ W1.heap.size := HB.size
        replace HB := HB.trans (hb.mono HB.size)
        clear hb
        obtain ⟨m, hm⟩ : ∃ q, W1.heap.size = q := ⟨_, rfl⟩
        obtain ⟨W2, hW⟩ : ∃ q, W1.alloc (.cells zs 5) = q := ⟨_, rfl⟩
        rw [hW] at Hm HB ⊢
        rw [hm] at Hm mw ⊢
        clear hW hm
        refine wpAny_ready (rs := [4]) (by kernel_rfl) (by simp) ?_
        refine AllReady.cons rfl (fun K hK => ?_) ?_
        · skip
          go_simp
          refine hK _ _ ?_
          clear hK K
          have Hg := heap_alloc_new W2 (.cells Tryd.zeroCells65 65)
          have hb := below_alloc (Below.refl W2.heap.size W2) (.cells Tryd.zeroCells65 65)
          have gw : w.heap.size ≤ W2.heap.size := HB.size
          replace HB := HB.trans (hb.mono HB.size)
          replace Hm := (hb.block m (blk_lt Hm)).trans Hm
          clear hb
          obtain ⟨g, hg⟩ : ∃ q, W2.heap.size = q := ⟨_, rfl⟩
          obtain ⟨W3, hW⟩ : ∃ q, W2.alloc (.cells Tryd.zeroCells65 65) = q := ⟨_, rfl⟩
          rw [hW] at Hg HB Hm ⊢
          rw [hg] at Hg gw ⊢
          clear hW hg
          refine wpAny_ready (rs := [5]) (by kernel_rfl) (by simp) ?_
          refine AllReady.cons rfl (fun K hK => ?_) ?_
          · skip
            refine step_store65 ht rfl (.tmp 4) (.tmp 15) rfl g rfl rfl Hg ?_
            refine hK _ _ ?_
            clear hK K
            replace Hm := (setRow_other W3 g m x (blk_ne Hm Hg (by decide))).trans Hm
            replace HB := below_setRow HB gw x
            replace Hg : ARow (W3.setRow g x) g tabv := ⟨x, setRow_heap _ g _ x 65 (0, 0) Hg, ht⟩
            obtain ⟨W4, hW⟩ : ∃ q, W3.setRow g x = q := ⟨_, rfl⟩
            rw [hW] at Hg HB Hm ⊢
            clear hW
            refine wpAny_take (i := 6) (v := ?_) rfl (by kernel_rfl) (by kernel_rfl) (by kernel_rfl) (fun _ _ _ h => h) (Or.inl ⟨by rfl, ?_⟩) ?_
            rotate_left
            · intro w'
              go_simp
              with_reducible rfl
            refine wpAny_done (by kernel_rfl) ?_ _
            go_wp2
            go_meet
            case rel => exact ⟨g, m, rfl, rfl, Hg, Hm, mw, HB⟩
          exact AllReady.nil
        exact AllReady.nil
      refine AllReady.cons rfl (fun K hK => ?_) ?_
      · skip
        go_simp
        refine hK _ _ ?_
        clear hK K
        have Hg := heap_alloc_new W1 (.cells Tryd.zeroCells65 65)
        have hb := below_alloc (Below.refl W1.heap.size W1) (.cells Tryd.zeroCells65 65)
        have gw : w.heap.size ≤ W1.heap.size := HB.size
        replace HB := HB.trans (hb.mono HB.size)
        clear hb
        obtain ⟨g, hg⟩ : ∃ q, W1.heap.size = q := ⟨_, rfl⟩
        obtain ⟨W2, hW⟩ : ∃ q, W1.alloc (.cells Tryd.zeroCells65 65) = q := ⟨_, rfl⟩
        rw [hW] at Hg HB ⊢
        rw [hg] at Hg gw ⊢
        clear hW hg
        refine wpAny_ready (rs := [3, 5]) (by kernel_rfl) (by simp) ?_
        refine AllReady.cons rfl (fun K hK => ?_) ?_
        · skip
          go_simp
          refine hK _ _ ?_
          clear hK K
          have Hm := heap_alloc_new W2 (.cells zs 5)
          have hb := below_alloc (Below.refl W2.heap.size W2) (.cells zs 5)
          have mw : w.heap.size ≤ W2.heap.size := HB.size
          replace HB := HB.trans (hb.mono HB.size)
          replace Hg := (hb.block g (blk_lt Hg)).trans Hg
          clear hb
          obtain ⟨m, hm⟩ : ∃ q, W2.heap.size = q := ⟨_, rfl⟩
          obtain ⟨W3, hW⟩ : ∃ q, W2.alloc (.cells zs 5) = q := ⟨_, rfl⟩
          rw [hW] at Hm HB Hg ⊢
          rw [hm] at Hm mw ⊢
          clear hW hm
          refine wpAny_ready (rs := [5]) (by kernel_rfl) (by simp) ?_
          refine AllReady.cons rfl (fun K hK => ?_) ?_
          · skip
            refine step_store65 ht rfl (.tmp 4) (.tmp 15) rfl g rfl rfl Hg ?_
            refine hK _ _ ?_
            clear hK K
            replace Hm := (setRow_other W3 g m x (blk_ne Hm Hg (by decide))).trans Hm
            replace HB := below_setRow HB gw x
            replace Hg : ARow (W3.setRow g x) g tabv := ⟨x, setRow_heap _ g _ x 65 (0, 0) Hg, ht⟩
            obtain ⟨W4, hW⟩ : ∃ q, W3.setRow g x = q := ⟨_, rfl⟩
            rw [hW] at Hg HB Hm ⊢
            clear hW
            refine wpAny_take (i := 6) (v := ?_) rfl (by kernel_rfl) (by kernel_rfl) (by kernel_rfl) (fun _ _ _ h => h) (Or.inl ⟨by rfl, ?_⟩) ?_
            rotate_left
            · intro w'
              go_simp
              with_reducible rfl
            refine wpAny_done (by kernel_rfl) ?_ _
            go_wp2
            go_meet
            case rel => exact ⟨g, m, rfl, rfl, Hg, Hm, mw, HB⟩
          exact AllReady.nil
        refine AllReady.cons rfl (fun K hK => ?_) ?_
        · skip
          refine step_store65 ht rfl (.tmp 4) (.tmp 15) rfl g rfl rfl Hg ?_
          refine hK _ _ ?_
          clear hK K
          replace HB := below_setRow HB gw x
          replace Hg : ARow (W2.setRow g x) g tabv := ⟨x, setRow_heap _ g _ x 65 (0, 0) Hg, ht⟩
          obtain ⟨W3, hW⟩ : ∃ q, W2.setRow g x = q := ⟨_, rfl⟩
          rw [hW] at Hg HB ⊢
          clear hW
          refine wpAny_ready (rs := [3]) (by kernel_rfl) (by simp) ?_
          refine AllReady.cons rfl (fun K hK => ?_) ?_
          · skip
            go_simp
            refine hK _ _ ?_
            clear hK K
            have Hm := heap_alloc_new W3 (.cells zs 5)
            have hb := below_alloc (Below.refl W3.heap.size W3) (.cells zs 5)
            have mw : w.heap.size ≤ W3.heap.size := HB.size
            replace HB := HB.trans (hb.mono HB.size)
            replace Hg := Hg.below hb
            clear hb
            obtain ⟨m, hm⟩ : ∃ q, W3.heap.size = q := ⟨_, rfl⟩
            obtain ⟨W4, hW⟩ : ∃ q, W3.alloc (.cells zs 5) = q := ⟨_, rfl⟩
            rw [hW] at Hm HB Hg ⊢
            rw [hm] at Hm mw ⊢
            clear hW hm
            refine wpAny_take (i := 6) (v := ?_) rfl (by kernel_rfl) (by kernel_rfl) (by kernel_rfl) (fun _ _ _ h => h) (Or.inl ⟨by rfl, ?_⟩) ?_
            rotate_left
            · intro w'
              go_simp
              with_reducible rfl
            refine wpAny_done (by kernel_rfl) ?_ _
            go_wp2
            go_meet
            case rel => exact ⟨g, m, rfl, rfl, Hg, Hm, mw, HB⟩
          exact AllReady.nil
        exact AllReady.nil
      exact AllReady.nil
    refine AllReady.cons rfl (fun K hK => ?_) ?_
    · skip
      go_simp
      refine hK _ _ ?_
      clear hK K
      have Hm := heap_alloc_new W0 (.cells zs 5)
      have hb := below_alloc (Below.refl W0.heap.size W0) (.cells zs 5)
      have mw : w.heap.size ≤ W0.heap.size := HB.size
      replace HB := HB.trans (hb.mono HB.size)
      clear hb
      obtain ⟨m, hm⟩ : ∃ q, W0.heap.size = q := ⟨_, rfl⟩
      obtain ⟨W1, hW⟩ : ∃ q, W0.alloc (.cells zs 5) = q := ⟨_, rfl⟩
      rw [hW] at Hm HB ⊢
      rw [hm] at Hm mw ⊢
      clear hW hm
      refine wpAny_ready (rs := [0, 4]) (by kernel_rfl) (by simp) ?_
      refine AllReady.cons rfl (fun K hK => ?_) ?_
      · skip
        go_simp
        refine (build60 _).mono ?_
        rintro e W2 ⟨x, rfl, ht, hb⟩
        refine hK _ _ ?_
        clear hK K
        replace HB := HB.trans (hb.mono HB.size)
        replace Hm := (hb.block m (blk_lt Hm)).trans Hm
        clear hb
        refine wpAny_ready (rs := [4]) (by kernel_rfl) (by simp) ?_
        refine AllReady.cons rfl (fun K hK => ?_) ?_
        · skip
          go_simp
          refine hK _ _ ?_
          clear hK K
          have Hg := heap_alloc_new W2 (.cells Tryd.zeroCells65 65)
          have hb := below_alloc (Below.refl W2.heap.size W2) (.cells Tryd.zeroCells65 65)
          have gw : w.heap.size ≤ W2.heap.size := HB.size
          replace HB := HB.trans (hb.mono HB.size)
          replace Hm := (hb.block m (blk_lt Hm)).trans Hm
          clear hb
          obtain ⟨g, hg⟩ : ∃ q, W2.heap.size = q := ⟨_, rfl⟩
          obtain ⟨W3, hW⟩ : ∃ q, W2.alloc (.cells Tryd.zeroCells65 65) = q := ⟨_, rfl⟩
          rw [hW] at Hg HB Hm ⊢
          rw [hg] at Hg gw ⊢
          clear hW hg
          refine wpAny_ready (rs := [5]) (by kernel_rfl) (by simp) ?_
          refine AllReady.cons rfl (fun K hK => ?_) ?_
          · skip
            refine step_store65 ht rfl (.tmp 4) (.tmp 15) rfl g rfl rfl Hg ?_
            refine hK _ _ ?_
            clear hK K
            replace Hm := (setRow_other W3 g m x (blk_ne Hm Hg (by decide))).trans Hm
            replace HB := below_setRow HB gw x
            replace Hg : ARow (W3.setRow g x) g tabv := ⟨x, setRow_heap _ g _ x 65 (0, 0) Hg, ht⟩
            obtain ⟨W4, hW⟩ : ∃ q, W3.setRow g x = q := ⟨_, rfl⟩
            rw [hW] at Hg HB Hm ⊢
            clear hW
            refine wpAny_take (i := 6) (v := ?_) rfl (by kernel_rfl) (by kernel_rfl) (by kernel_rfl) (fun _ _ _ h => h) (Or.inl ⟨by rfl, ?_⟩) ?_
            rotate_left
            · intro w'
              go_simp
              with_reducible rfl
            refine wpAny_done (by kernel_rfl) ?_ _
            go_wp2
            go_meet
            case rel => exact ⟨g, m, rfl, rfl, Hg, Hm, mw, HB⟩
          exact AllReady.nil
        exact AllReady.nil
      refine AllReady.cons rfl (fun K hK => ?_) ?_
      · skip
        go_simp
        refine hK _ _ ?_
        clear hK K
        have Hg := heap_alloc_new W1 (.cells Tryd.zeroCells65 65)
        have hb := below_alloc (Below.refl W1.heap.size W1) (.cells Tryd.zeroCells65 65)
        have gw : w.heap.size ≤ W1.heap.size := HB.size
        replace HB := HB.trans (hb.mono HB.size)
        replace Hm := (hb.block m (blk_lt Hm)).trans Hm
        clear hb
        obtain ⟨g, hg⟩ : ∃ q, W1.heap.size = q := ⟨_, rfl⟩
        obtain ⟨W2, hW⟩ : ∃ q, W1.alloc (.cells Tryd.zeroCells65 65) = q := ⟨_, rfl⟩
        rw [hW] at Hg HB Hm ⊢
        rw [hg] at Hg gw ⊢
        clear hW hg
        refine wpAny_ready (rs := [0]) (by kernel_rfl) (by simp) ?_
        refine AllReady.cons rfl (fun K hK => ?_) ?_
        · skip
          go_simp
          refine (build60 _).mono ?_
          rintro e W3 ⟨x, rfl, ht, hb⟩
          refine hK _ _ ?_
          clear hK K
          replace HB := HB.trans (hb.mono HB.size)
          replace Hg := (hb.block g (blk_lt Hg)).trans Hg
          replace Hm := (hb.block m (blk_lt Hm)).trans Hm
          clear hb
          refine wpAny_ready (rs := [5]) (by kernel_rfl) (by simp) ?_
          refine AllReady.cons rfl (fun K hK => ?_) ?_
          · skip
            refine step_store65 ht rfl (.tmp 4) (.tmp 15) rfl g rfl rfl Hg ?_
            refine hK _ _ ?_
            clear hK K
            replace Hm := (setRow_other W3 g m x (blk_ne Hm Hg (by decide))).trans Hm
            replace HB := below_setRow HB gw x
            replace Hg : ARow (W3.setRow g x) g tabv := ⟨x, setRow_heap _ g _ x 65 (0, 0) Hg, ht⟩
            obtain ⟨W4, hW⟩ : ∃ q, W3.setRow g x = q := ⟨_, rfl⟩
            rw [hW] at Hg HB Hm ⊢
            clear hW
            refine wpAny_take (i := 6) (v := ?_) rfl (by kernel_rfl) (by kernel_rfl) (by kernel_rfl) (fun _ _ _ h => h) (Or.inl ⟨by rfl, ?_⟩) ?_
            rotate_left
            · intro w'
              go_simp
              with_reducible rfl
            refine wpAny_done (by kernel_rfl) ?_ _
            go_wp2
            go_meet
            case rel => exact ⟨g, m, rfl, rfl, Hg, Hm, mw, HB⟩
          exact AllReady.nil
        exact AllReady.nil
      exact AllReady.nil
    refine AllReady.cons rfl (fun K hK => ?_) ?_
    · skip
      go_simp
      refine hK _ _ ?_
      clear hK K
      have Hg := heap_alloc_new W0 (.cells Tryd.zeroCells65 65)
      have hb := below_alloc (Below.refl W0.heap.size W0) (.cells Tryd.zeroCells65 65)
      have gw : w.heap.size ≤ W0.heap.size := HB.size
      replace HB := HB.trans (hb.mono HB.size)
      clear hb
      obtain ⟨g, hg⟩ : ∃ q, W0.heap.size = q := ⟨_, rfl⟩
      obtain ⟨W1, hW⟩ : ∃ q, W0.alloc (.cells Tryd.zeroCells65 65) = q := ⟨_, rfl⟩
      rw [hW] at Hg HB ⊢
      rw [hg] at Hg gw ⊢
      clear hW hg
      refine wpAny_ready (rs := [0, 3]) (by kernel_rfl) (by simp) ?_
      refine AllReady.cons rfl (fun K hK => ?_) ?_
      · skip
        go_simp
        refine (build60 _).mono ?_
        rintro e W2 ⟨x, rfl, ht, hb⟩
        refine hK _ _ ?_
        clear hK K
        replace HB := HB.trans (hb.mono HB.size)
        replace Hg := (hb.block g (blk_lt Hg)).trans Hg
        clear hb
        refine wpAny_ready (rs := [3, 5]) (by kernel_rfl) (by simp) ?_
        refine AllReady.cons rfl (fun K hK => ?_) ?_
        · skip
          go_simp
          refine hK _ _ ?_
          clear hK K
          have Hm := heap_alloc_new W2 (.cells zs 5)
          have hb := below_alloc (Below.refl W2.heap.size W2) (.cells zs 5)
          have mw : w.heap.size ≤ W2.heap.size := HB.size
          replace HB := HB.trans (hb.mono HB.size)
          replace Hg := (hb.block g (blk_lt Hg)).trans Hg
          clear hb
          obtain ⟨m, hm⟩ : ∃ q, W2.heap.size = q := ⟨_, rfl⟩
          obtain ⟨W3, hW⟩ : ∃ q, W2.alloc (.cells zs 5) = q := ⟨_, rfl⟩
          rw [hW] at Hm HB Hg ⊢
          rw [hm] at Hm mw ⊢
          clear hW hm
          refine wpAny_ready (rs := [5]) (by kernel_rfl) (by simp) ?_
          refine AllReady.cons rfl (fun K hK => ?_) ?_
          · skip
            refine step_store65 ht rfl (.tmp 4) (.tmp 15) rfl g rfl rfl Hg ?_
            refine hK _ _ ?_
            clear hK K
            replace Hm := (setRow_other W3 g m x (blk_ne Hm Hg (by decide))).trans Hm
            replace HB := below_setRow HB gw x
            replace Hg : ARow (W3.setRow g x) g tabv := ⟨x, setRow_heap _ g _ x 65 (0, 0) Hg, ht⟩
            obtain ⟨W4, hW⟩ : ∃ q, W3.setRow g x = q := ⟨_, rfl⟩
            rw [hW] at Hg HB Hm ⊢
            clear hW
            refine wpAny_take (i := 6) (v := ?_) rfl (by kernel_rfl) (by kernel_rfl) (by kernel_rfl) (fun _ _ _ h => h) (Or.inl ⟨by rfl, ?_⟩) ?_
            rotate_left
            · intro w'
              go_simp
              with_reducible rfl
            refine wpAny_done (by kernel_rfl) ?_ _
            go_wp2
            go_meet
            case rel => exact ⟨g, m, rfl, rfl, Hg, Hm, mw, HB⟩
          exact AllReady.nil
        refine AllReady.cons rfl (fun K hK => ?_) ?_
        · skip
          refine step_store65 ht rfl (.tmp 4) (.tmp 15) rfl g rfl rfl Hg ?_
          refine hK _ _ ?_
          clear hK K
          replace HB := below_setRow HB gw x
          replace Hg : ARow (W2.setRow g x) g tabv := ⟨x, setRow_heap _ g _ x 65 (0, 0) Hg, ht⟩
          obtain ⟨W3, hW⟩ : ∃ q, W2.setRow g x = q := ⟨_, rfl⟩
          rw [hW] at Hg HB ⊢
          clear hW
          refine wpAny_ready (rs := [3]) (by kernel_rfl) (by simp) ?_
          refine AllReady.cons rfl (fun K hK => ?_) ?_
          · skip
            go_simp
            refine hK _ _ ?_
            clear hK K
            have Hm := heap_alloc_new W3 (.cells zs 5)
            have hb := below_alloc (Below.refl W3.heap.size W3) (.cells zs 5)
            have mw : w.heap.size ≤ W3.heap.size := HB.size
            replace HB := HB.trans (hb.mono HB.size)
            replace Hg := Hg.below hb
            clear hb
            obtain ⟨m, hm⟩ : ∃ q, W3.heap.size = q := ⟨_, rfl⟩
            obtain ⟨W4, hW⟩ : ∃ q, W3.alloc (.cells zs 5) = q := ⟨_, rfl⟩
            rw [hW] at Hm HB Hg ⊢
            rw [hm] at Hm mw ⊢
            clear hW hm
            refine wpAny_take (i := 6) (v := ?_) rfl (by kernel_rfl) (by kernel_rfl) (by kernel_rfl) (fun _ _ _ h => h) (Or.inl ⟨by rfl, ?_⟩) ?_
            rotate_left
            · intro w'
              go_simp
              with_reducible rfl
            refine wpAny_done (by kernel_rfl) ?_ _
            go_wp2
            go_meet
            case rel => exact ⟨g, m, rfl, rfl, Hg, Hm, mw, HB⟩
          exact AllReady.nil
        exact AllReady.nil
      refine AllReady.cons rfl (fun K hK => ?_) ?_
      · skip
        go_simp
        refine hK _ _ ?_
        clear hK K
        have Hm := heap_alloc_new W1 (.cells zs 5)
        have hb := below_alloc (Below.refl W1.heap.size W1) (.cells zs 5)
        have mw : w.heap.size ≤ W1.heap.size := HB.size
        replace HB := HB.trans (hb.mono HB.size)
        replace Hg := (hb.block g (blk_lt Hg)).trans Hg
        clear hb
        obtain ⟨m, hm⟩ : ∃ q, W1.heap.size = q := ⟨_, rfl⟩
        obtain ⟨W2, hW⟩ : ∃ q, W1.alloc (.cells zs 5) = q := ⟨_, rfl⟩
        rw [hW] at Hm HB Hg ⊢
        rw [hm] at Hm mw ⊢
        clear hW hm
        refine wpAny_ready (rs := [0]) (by kernel_rfl) (by simp) ?_
        refine AllReady.cons rfl (fun K hK => ?_) ?_
        · skip
          go_simp
          refine (build60 _).mono ?_
          rintro e W3 ⟨x, rfl, ht, hb⟩
          refine hK _ _ ?_
          clear hK K
          replace HB := HB.trans (hb.mono HB.size)
          replace Hg := (hb.block g (blk_lt Hg)).trans Hg
          replace Hm := (hb.block m (blk_lt Hm)).trans Hm
          clear hb
          refine wpAny_ready (rs := [5]) (by kernel_rfl) (by simp) ?_
          refine AllReady.cons rfl (fun K hK => ?_) ?_
          · skip
            refine step_store65 ht rfl (.tmp 4) (.tmp 15) rfl g rfl rfl Hg ?_
            refine hK _ _ ?_
            clear hK K
            replace Hm := (setRow_other W3 g m x (blk_ne Hm Hg (by decide))).trans Hm
            replace HB := below_setRow HB gw x
            replace Hg : ARow (W3.setRow g x) g tabv := ⟨x, setRow_heap _ g _ x 65 (0, 0) Hg, ht⟩
            obtain ⟨W4, hW⟩ : ∃ q, W3.setRow g x = q := ⟨_, rfl⟩
            rw [hW] at Hg HB Hm ⊢
            clear hW
            refine wpAny_take (i := 6) (v := ?_) rfl (by kernel_rfl) (by kernel_rfl) (by kernel_rfl) (fun _ _ _ h => h) (Or.inl ⟨by rfl, ?_⟩) ?_
            rotate_left
            · intro w'
              go_simp
              with_reducible rfl
            refine wpAny_done (by kernel_rfl) ?_ _
            go_wp2
            go_meet
            case rel => exact ⟨g, m, rfl, rfl, Hg, Hm, mw, HB⟩
          exact AllReady.nil
        exact AllReady.nil
      exact AllReady.nil
    exact AllReady.nil
  case rest =>
    clear hmk
    obtain ⟨g, m, rfl, rfl, Hg, Hm0, mw, HB⟩ := hcut
    have hl := Lib.size_eq a0
    have HL := Lib.hid hl
    have hout : CRow wc m (outL a0.data.toList 0) := ⟨zs, Hm0, by rw [HZ.out.1, outL_len _ _ (Nat.zero_le _), hl], fun j hj => by
      rw [outL_len _ _ (Nat.zero_le _), ← hl] at hj
      rw [HZ.out.2 j hj]
      simp [outL, List.getD, ← hl, hj]⟩
    clear Hm0 HZ hl
    go_wp2
    go_loopw [21] (fun v21 wr => ∃ k : Nat, v21 = .int .i64 k ∧ k ≤ a0.size ∧ (a0.data.toList.take k).all namB = true ∧ ARow wr g tabv ∧ CRow wr m (outL a0.data.toList k) ∧ Below w.heap.size w wr) (fun i _ => a0.size - (intOf i).toNat)
    case atStart => exact ⟨0, rfl, Nat.zero_le _, rfl, Hg, hout, HB⟩
    case round =>
      clear hout Hg HB
      obtain ⟨k, rfl, hk, hall, Hg, Hm, HB⟩ := hrel
      by_cases hlt : k < a0.size
      · have hkl : k < a0.data.toList.length := by have := HL.out; omega
        have hx : a0[k]'hlt = a0.data.toList[k] := by rw [Array.getElem_toList]; rfl
        have hn1 := nam_yes (a0.data.toList[k])
        have hn0 := nam_no (a0.data.toList[k])
        have hs := outL_succ a0.data.toList k hkl
        have htk : (a0.data.toList.take (k + 1)).all namB = ((a0.data.toList.take k).all namB && namB (a0.data.toList[k])) := by
          rw [List.take_succ_eq_append_getElem hkl, List.all_append]; simp
        have hmem : (a0.data.toList[k]) ∈ a0.data.toList := List.getElem_mem hkl
        obtain ⟨b, hb⟩ : ∃ b, a0.data.toList[k] = b := ⟨_, rfl⟩
        rw [hb] at hn1 hn0 hs htk hx hmem
        have hlen : (outL a0.data.toList k).length = a0.size := by rw [outL_len _ _ (by omega), ← HL.out]
        have hbt2 := b.toNat_lt
        have hct := Hg.cell b.toNat hbt2
        have hcm := Hm.cell k (by omega)
        have hfm := Hm.free k
        have hne := Hm.ne Hg
        have hct2 : ∀ v, (wr.setCell ⟨m, k, none⟩ v).cell? ⟨g, b.toNat, none⟩ = some (.int .u8 (tabv b.toNat)) := fun v => (cell_far (p := ⟨m, k, none⟩) (fun e => hne e.symm) v).trans hct
        have hset := Hm.set k (tabv b.toNat)
        have hfar := Hg.far hne k (.int .u8 (tabv b.toNat))
        have hbel : Below w.heap.size w (wr.setCell ⟨m, k, none⟩ (.int .u8 (tabv b.toNat))) := HB.setCell (p := ⟨m, k, none⟩) mw _
        have H1 := Lib.hid hn1
        have H0 := Lib.hid hn0
        have HS := Lib.hid hs
        have HT := Lib.hid htk
        have HA := Lib.hid hall
        have HLen := Lib.hid hlen
        have HSet := Lib.hid hset
        have HFar := Lib.hid hfar
        have HBel := Lib.hid hbel
        have HMem := Lib.hid hmem
        clear hn1 hn0 hs htk hall hlen hset hfar hbel hb Hg Hm HB hmem
        by_cases hn : namB b = true
        · have hz : (tabv b.toNat == 0) = false := beq_eq_false_iff_ne.2 (by have := H1.out hn; omega)
          have HN := Lib.hid hn
          clear hn
          go_wp2
          go_roundw
          case rel =>
            refine ⟨k + 1, by go_num, by omega, by rw [HT.out, HA.out, HN.out]; rfl, HFar.out, ?_, HBel.out⟩
            rw [HS.out, ← (H1.out HN.out).1]
            exact HSet.out
          case measure => simp [intOf]; omega
        · have hz : (tabv b.toNat == 0) = true := beq_iff_eq.2 (H0.out (by simpa using hn))
          have hfin : a0.data.toList.all namB = false := by
            rw [List.all_eq_false]
            exact ⟨b, HMem.out, hn⟩
          have HF := Lib.hid hfin
          clear hn hfin
          go_wp2
          go_ret2
          exact ⟨foldRes_no HF.out, HBel.out⟩
      · obtain rfl : k = a0.size := by omega
        have hfull : a0.data.toList.take a0.size = a0.data.toList := List.take_of_length_le (by rw [← HL.out]; exact Nat.le_refl _)
        have hcv2 := run_convert_bytes_arg (P := Tryd.prog) wr 38 5 Tryd.underlying38 Tryd.underlying5 m 0 a0.size a0.size (outL a0.data.toList a0.size) (by rw [outL_len _ _ (by rw [← HL.out]; exact Nat.le_refl _), ← HL.out]) (fun i hi => by rw [Nat.zero_add]; exact Hm.cell i (by rw [outL_len _ _ (by rw [← HL.out]; exact Nat.le_refl _), ← HL.out]; exact hi)) 9 Tryd.underlying9
        have hfin : strOfNums (outL a0.data.toList a0.size) = lowS a0 := by
          rw [HL.out, outL_all, strOf_numsB]
          rfl
        rw [hfin] at hcv2
        rw [hfull] at hall
        have HA := Lib.hid hall
        have HB' := Lib.hid HB
        clear hall hfull hfin HB Hm Hg
        go_wp2
        go_ret2
        exact ⟨foldRes_yes HA.out, HB'.out⟩

theorem head_folded.calls (a0 : ByteArray) (r1 : ByteArray) (r2 : Bool) (w : World) (h : head_folded.f a0 = some (r1, r2)) :
    Calls Tryd.prog 47 #[.string a0] w fun e w' => e = .returned (.tuple #[.string r1, .bool r2]) ∧ Below w.heap.size w w' := by
  by_cases h1 : 1 ≤ a0.size
  · by_cases h2 : a0.size ≤ 30
    · have hi : isNam a0 = a0.data.toList.all namB := by simp [isNam, h1, h2]
      unfold head_folded.f at h
      rw [hi] at h
      refine (fold_in a0 w h1 h2).mono ?_
      rintro e w' ⟨rfl, hb⟩
      refine ⟨?_, hb⟩
      by_cases hc : a0.data.toList.all namB = true
      · rw [if_pos hc] at h
        simp only [Option.some.injEq, Prod.mk.injEq] at h
        obtain ⟨rfl, rfl⟩ := h
        exact (foldRes_yes hc).symm
      · rw [if_neg hc] at h
        simp only [Option.some.injEq, Prod.mk.injEq] at h
        obtain ⟨rfl, rfl⟩ := h
        exact (foldRes_no (by simpa using hc)).symm
    · have hi : isNam a0 = false := by simp [isNam, h2]
      unfold head_folded.f at h
      rw [hi] at h
      simp only [Bool.false_eq_true, if_false, Option.some.injEq, Prod.mk.injEq] at h
      obtain ⟨rfl, rfl⟩ := h
      have b1 : ((a0.size : Int) == 0) = false := beq_eq_false_iff_ne.2 (by omega)
      have b2 : decide (30 < (a0.size : Int)) = true := decide_eq_true (by omega)
      clear hi
      go_enter Tryd.func47, Tryd.ntmps47
      go_wp2
      go_ret2
      exact ⟨rfl, Below.refl _ _⟩
  · have hi : isNam a0 = false := by simp [isNam, h1]
    unfold head_folded.f at h
    rw [hi] at h
    simp only [Bool.false_eq_true, if_false, Option.some.injEq, Prod.mk.injEq] at h
    obtain ⟨rfl, rfl⟩ := h
    have b1 : ((a0.size : Int) == 0) = true := beq_iff_eq.2 (by omega)
    clear hi
    go_enter Tryd.func47, Tryd.ntmps47
    go_wp2
    go_ret2
    exact ⟨rfl, Below.refl _ _⟩
end Go.Proofs.YtbdafijdfpmdiaaDoor.PHead
