/- Contracts and words that the laws stand on (TxReadsWalk). -/
import Derived.Test.YteljmpoaggfliaaRfC
import Derived.Test.YteljmpoaggfliaaTxS
import Derived.Test.YteljmpoaggfliaaTrdC
set_option linter.unusedVariables false
set_option linter.unusedSimpArgs false
namespace Go.Proofs.Yteljmpoaggfliaa
section
open Go Go.RowKit Go.Proofs
attribute [local go_sem] Oper.semAt_some
attribute [local irreducible] Calls
theorem boolE_of {a b : List UInt8} {w w' : World} (h : Below w.heap.size w w') : BoolE (a = b) w (.returned (.bool (a == b))) w' := ⟨a == b, rfl, by simp, h⟩
theorem cs_len' (m : TxM) : m.cs.length = 4 := rfl
attribute [local irreducible] TxM.cs
set_option maxHeartbeats 2000000 in
set_option maxRecDepth 100000 in
theorem rsame32 (m n : TxM) (w : World) (hm : TxW m w) (hn : TxW n w) (om : m.p.ok) (on : n.p.ok) (sm : Sml m.p) (sn : Sml n.p) :
    Calls Try.prog 32 #[.agg m.cs.toArray, .agg n.cs.toArray] w fun e w' => BoolE (txB m.p = txB n.p) w e w' := by
  have HS := Lib.hid (((St.start w).addF hm.away0).addF hn.away0)
  have HOm := Lib.hid om; have HOn := Lib.hid on; have HMm := Lib.hid sm; have HMn := Lib.hid sn
  clear hm hn om on sm sn
  go_enter Try.func32, Try.ntmps32
  go_wp2_with (first
    | go_skip
    | (refine atd 2 (by rfl) ?_; refine wl (by rfl) (s_bx (l := m.cs) HS.out (by rfl) (by rfl) ?_); intro b2 Wn hS; clear HS; have HS := Lib.hid hS; clear hS)
    | (refine atd 3 (by rfl) ?_; refine wl (by rfl) (s_bx (l := n.cs) HS.out (by rfl) (by rfl) ?_); intro b3 Wn hS; clear HS; have HS := Lib.hid hS; clear hS))
  refine wp_region_tr (.yield 0 (.yield 3 (.act 1 (.act 2 (.act 4 (.act 5 (.yield 6 (.yield 7 .done)) .none) .none) (.act 4 (.act 2 (.act 5 (.yield 6 (.yield 7 .done)) .none) (.act 5 (.act 2 (.yield 6 (.yield 7 .done)) .none) .none)) .none)) .none))) (by kernel_rfl) (by kernel_rfl) (by kernel_rfl) (fun _ _ _ _ _ h => h) (fun w' => St w w' [Blk b3 n.cs 55, Blk b2 m.cs 55] [TxW n, TxW m]) HS.out.drew ?_
  intro OPS hops
  have hS := HS.out.drew
  clear HS; have HS := Lib.hid hS; clear hS
  refine wpT_yield _ (by rw [hops.out]; simp only [List.getElem?_toArray, List.getElem?_cons_succ, List.getElem?_cons_zero]; rfl) (by first | rfl | (rw [hops.out]; rfl)) (fun w' hS => by first | exact run_lda (n := 4) (cs := m.cs) ag55 (by rfl) (by rfl) (hS.range (i := 1) rfl (by rw [cs_len']; exact csall m)) (cs_len' m) | exact run_lda (n := 4) (cs := n.cs) ag55 (by rfl) (by rfl) (hS.range (i := 0) rfl (by rw [cs_len']; exact csall n)) (cs_len' n) | (go_simp; rfl)) ?_
  simp only [Act.put, List.setIfInBounds_toArray, List.set_cons_succ, List.set_cons_zero]
  refine wpT_yield _ (by rw [hops.out]; simp only [List.getElem?_toArray, List.getElem?_cons_succ, List.getElem?_cons_zero]; rfl) (by first | rfl | (rw [hops.out]; rfl)) (fun w' hS => by first | exact run_lda (n := 4) (cs := m.cs) ag55 (by rfl) (by rfl) (hS.range (i := 1) rfl (by rw [cs_len']; exact csall m)) (cs_len' m) | exact run_lda (n := 4) (cs := n.cs) ag55 (by rfl) (by rfl) (hS.range (i := 0) rfl (by rw [cs_len']; exact csall n)) (cs_len' n) | (go_simp; rfl)) ?_
  simp only [Act.put, List.setIfInBounds_toArray, List.set_cons_succ, List.set_cons_zero]
  refine wpT_act (by rw [hops.out]; simp only [List.getElem?_toArray, List.getElem?_cons_succ, List.getElem?_cons_zero]; rfl) (by first | rfl | (rw [hops.out]; rfl)) ?_ trivial
  go_simp
  refine (bytes89 m _ HOm.out (HS.out.fact (i := 1) rfl) HMm.out).mono ?_
  rintro e Wn ⟨vm, rfl, hb⟩
  have hS := HS.out.take hb
  clear HS; have HS := Lib.hid hS; clear hS
  clear hb
  refine ⟨HS.out.sub 0, ?_⟩
  try simp only [Act.put, List.setIfInBounds_toArray, List.set_cons_succ, List.set_cons_zero]
  refine wpT_act (by rw [hops.out]; simp only [List.getElem?_toArray, List.getElem?_cons_succ, List.getElem?_cons_zero]; rfl) (by first | rfl | (rw [hops.out]; rfl)) ?_ ?_
  · first | refine wp_of_run (run_str (xs := txB m.p) (by rfl) (by rfl) (Row.hb (HS.out.res (i := 0) rfl))) ?_ | refine wp_of_run (run_str (xs := txB m.p) (by rfl) (by rfl) (Row.hb (HS.out.res (i := 1) rfl))) ?_
    refine ⟨by (first | exact HS.out.sub 0 | exact (HS.out.sub 0).sub 0), ?_⟩
    try simp only [Act.put, List.setIfInBounds_toArray, List.set_cons_succ, List.set_cons_zero]
    refine wpT_act (by rw [hops.out]; simp only [List.getElem?_toArray, List.getElem?_cons_succ, List.getElem?_cons_zero]; rfl) (by first | rfl | (rw [hops.out]; rfl)) ?_ trivial
    go_simp
    refine (bytes89 n _ HOn.out (HS.out.fact (i := 0) rfl) HMn.out).mono ?_
    rintro e Wn ⟨vn, rfl, hb⟩
    have hS := HS.out.take hb
    clear HS; have HS := Lib.hid hS; clear hS
    clear hb
    refine ⟨(HS.out.sub 0).sub 0, ?_⟩
    try simp only [Act.put, List.setIfInBounds_toArray, List.set_cons_succ, List.set_cons_zero]
    refine wpT_act (by rw [hops.out]; simp only [List.getElem?_toArray, List.getElem?_cons_succ, List.getElem?_cons_zero]; rfl) (by first | rfl | (rw [hops.out]; rfl)) ?_ trivial
    first | refine wp_of_run (run_str (xs := txB n.p) (by rfl) (by rfl) (Row.hb (HS.out.res (i := 0) rfl))) ?_ | refine wp_of_run (run_str (xs := txB n.p) (by rfl) (by rfl) (Row.hb (HS.out.res (i := 1) rfl))) ?_
    refine ⟨by (first | exact HS.out.sub 0 | exact (HS.out.sub 0).sub 0), ?_⟩
    try simp only [Act.put, List.setIfInBounds_toArray, List.set_cons_succ, List.set_cons_zero]
    refine wpT_yield _ (by rw [hops.out]; simp only [List.getElem?_toArray, List.getElem?_cons_succ, List.getElem?_cons_zero]; rfl) (by first | rfl | (rw [hops.out]; rfl)) (fun w' hS => by first | exact run_lda (n := 4) (cs := m.cs) ag55 (by rfl) (by rfl) (hS.range (i := 1) rfl (by rw [cs_len']; exact csall m)) (cs_len' m) | exact run_lda (n := 4) (cs := n.cs) ag55 (by rfl) (by rfl) (hS.range (i := 0) rfl (by rw [cs_len']; exact csall n)) (cs_len' n) | (go_simp; rfl)) ?_
    simp only [Act.put, List.setIfInBounds_toArray, List.set_cons_succ, List.set_cons_zero]
    refine wpT_yield _ (by rw [hops.out]; simp only [List.getElem?_toArray, List.getElem?_cons_succ, List.getElem?_cons_zero]; rfl) (by first | rfl | (rw [hops.out]; rfl)) (fun w' hS => by first | exact run_lda (n := 4) (cs := m.cs) ag55 (by rfl) (by rfl) (hS.range (i := 1) rfl (by rw [cs_len']; exact csall m)) (cs_len' m) | exact run_lda (n := 4) (cs := n.cs) ag55 (by rfl) (by rfl) (hS.range (i := 0) rfl (by rw [cs_len']; exact csall n)) (cs_len' n) | (go_simp; rfl)) ?_
    simp only [Act.put, List.setIfInBounds_toArray, List.set_cons_succ, List.set_cons_zero]
    simp only [wpT]
    clear OPS hops
    go_wp2_with fail
    go_ret
    exact boolE_of HS.out.below
  refine wpT_act (by rw [hops.out]; simp only [List.getElem?_toArray, List.getElem?_cons_succ, List.getElem?_cons_zero]; rfl) (by first | rfl | (rw [hops.out]; rfl)) ?_ ?_
  · go_simp
    refine (bytes89 n _ HOn.out (HS.out.fact (i := 0) rfl) HMn.out).mono ?_
    rintro e Wn ⟨vn, rfl, hb⟩
    have hS := HS.out.take hb
    clear HS; have HS := Lib.hid hS; clear hS
    clear hb
    refine ⟨(HS.out.sub 0).sub 0, ?_⟩
    try simp only [Act.put, List.setIfInBounds_toArray, List.set_cons_succ, List.set_cons_zero]
    refine wpT_act (by rw [hops.out]; simp only [List.getElem?_toArray, List.getElem?_cons_succ, List.getElem?_cons_zero]; rfl) (by first | rfl | (rw [hops.out]; rfl)) ?_ ?_
    · first | refine wp_of_run (run_str (xs := txB m.p) (by rfl) (by rfl) (Row.hb (HS.out.res (i := 0) rfl))) ?_ | refine wp_of_run (run_str (xs := txB m.p) (by rfl) (by rfl) (Row.hb (HS.out.res (i := 1) rfl))) ?_
      refine ⟨by (first | exact HS.out.sub 0 | exact (HS.out.sub 0).sub 0), ?_⟩
      try simp only [Act.put, List.setIfInBounds_toArray, List.set_cons_succ, List.set_cons_zero]
      refine wpT_act (by rw [hops.out]; simp only [List.getElem?_toArray, List.getElem?_cons_succ, List.getElem?_cons_zero]; rfl) (by first | rfl | (rw [hops.out]; rfl)) ?_ trivial
      first | refine wp_of_run (run_str (xs := txB n.p) (by rfl) (by rfl) (Row.hb (HS.out.res (i := 0) rfl))) ?_ | refine wp_of_run (run_str (xs := txB n.p) (by rfl) (by rfl) (Row.hb (HS.out.res (i := 1) rfl))) ?_
      refine ⟨by (first | exact HS.out.sub 0 | exact (HS.out.sub 0).sub 0), ?_⟩
      try simp only [Act.put, List.setIfInBounds_toArray, List.set_cons_succ, List.set_cons_zero]
      refine wpT_yield _ (by rw [hops.out]; simp only [List.getElem?_toArray, List.getElem?_cons_succ, List.getElem?_cons_zero]; rfl) (by first | rfl | (rw [hops.out]; rfl)) (fun w' hS => by first | exact run_lda (n := 4) (cs := m.cs) ag55 (by rfl) (by rfl) (hS.range (i := 1) rfl (by rw [cs_len']; exact csall m)) (cs_len' m) | exact run_lda (n := 4) (cs := n.cs) ag55 (by rfl) (by rfl) (hS.range (i := 0) rfl (by rw [cs_len']; exact csall n)) (cs_len' n) | (go_simp; rfl)) ?_
      simp only [Act.put, List.setIfInBounds_toArray, List.set_cons_succ, List.set_cons_zero]
      refine wpT_yield _ (by rw [hops.out]; simp only [List.getElem?_toArray, List.getElem?_cons_succ, List.getElem?_cons_zero]; rfl) (by first | rfl | (rw [hops.out]; rfl)) (fun w' hS => by first | exact run_lda (n := 4) (cs := m.cs) ag55 (by rfl) (by rfl) (hS.range (i := 1) rfl (by rw [cs_len']; exact csall m)) (cs_len' m) | exact run_lda (n := 4) (cs := n.cs) ag55 (by rfl) (by rfl) (hS.range (i := 0) rfl (by rw [cs_len']; exact csall n)) (cs_len' n) | (go_simp; rfl)) ?_
      simp only [Act.put, List.setIfInBounds_toArray, List.set_cons_succ, List.set_cons_zero]
      simp only [wpT]
      clear OPS hops
      go_wp2_with fail
      go_ret
      exact boolE_of HS.out.below
    refine wpT_act (by rw [hops.out]; simp only [List.getElem?_toArray, List.getElem?_cons_succ, List.getElem?_cons_zero]; rfl) (by first | rfl | (rw [hops.out]; rfl)) ?_ ?_
    · first | refine wp_of_run (run_str (xs := txB n.p) (by rfl) (by rfl) (Row.hb (HS.out.res (i := 0) rfl))) ?_ | refine wp_of_run (run_str (xs := txB n.p) (by rfl) (by rfl) (Row.hb (HS.out.res (i := 1) rfl))) ?_
      refine ⟨by (first | exact HS.out.sub 0 | exact (HS.out.sub 0).sub 0), ?_⟩
      try simp only [Act.put, List.setIfInBounds_toArray, List.set_cons_succ, List.set_cons_zero]
      refine wpT_act (by rw [hops.out]; simp only [List.getElem?_toArray, List.getElem?_cons_succ, List.getElem?_cons_zero]; rfl) (by first | rfl | (rw [hops.out]; rfl)) ?_ trivial
      first | refine wp_of_run (run_str (xs := txB m.p) (by rfl) (by rfl) (Row.hb (HS.out.res (i := 0) rfl))) ?_ | refine wp_of_run (run_str (xs := txB m.p) (by rfl) (by rfl) (Row.hb (HS.out.res (i := 1) rfl))) ?_
      refine ⟨by (first | exact HS.out.sub 0 | exact (HS.out.sub 0).sub 0), ?_⟩
      try simp only [Act.put, List.setIfInBounds_toArray, List.set_cons_succ, List.set_cons_zero]
      refine wpT_yield _ (by rw [hops.out]; simp only [List.getElem?_toArray, List.getElem?_cons_succ, List.getElem?_cons_zero]; rfl) (by first | rfl | (rw [hops.out]; rfl)) (fun w' hS => by first | exact run_lda (n := 4) (cs := m.cs) ag55 (by rfl) (by rfl) (hS.range (i := 1) rfl (by rw [cs_len']; exact csall m)) (cs_len' m) | exact run_lda (n := 4) (cs := n.cs) ag55 (by rfl) (by rfl) (hS.range (i := 0) rfl (by rw [cs_len']; exact csall n)) (cs_len' n) | (go_simp; rfl)) ?_
      simp only [Act.put, List.setIfInBounds_toArray, List.set_cons_succ, List.set_cons_zero]
      refine wpT_yield _ (by rw [hops.out]; simp only [List.getElem?_toArray, List.getElem?_cons_succ, List.getElem?_cons_zero]; rfl) (by first | rfl | (rw [hops.out]; rfl)) (fun w' hS => by first | exact run_lda (n := 4) (cs := m.cs) ag55 (by rfl) (by rfl) (hS.range (i := 1) rfl (by rw [cs_len']; exact csall m)) (cs_len' m) | exact run_lda (n := 4) (cs := n.cs) ag55 (by rfl) (by rfl) (hS.range (i := 0) rfl (by rw [cs_len']; exact csall n)) (cs_len' n) | (go_simp; rfl)) ?_
      simp only [Act.put, List.setIfInBounds_toArray, List.set_cons_succ, List.set_cons_zero]
      simp only [wpT]
      clear OPS hops
      go_wp2_with fail
      go_ret
      exact boolE_of HS.out.below
    exact trivial
  exact trivial
end
section
open Go Go.RowKit Go.Proofs
/-! A transaction whose scripts are written over. -/
/-- Cells of bytes. -/
def AllU (T : List Value) : Prop := ∀ v ∈ T, ∃ z : Int, v = .int .u8 z
theorem AllU.bs (l : List UInt8) : AllU (bs l) := fun v hv => by
  obtain ⟨x, _, rfl⟩ := List.mem_map.1 hv
  exact ⟨_, rfl⟩
theorem AllU.set {T : List Value} (h : AllU T) (j : Nat) (z : Int) : AllU (T.set j (.int .u8 z)) := fun v hv => by
  rcases List.mem_or_eq_of_mem_set hv with hv | rfl
  · exact h v hv
  · exact ⟨z, rfl⟩
/-- A script that may be written over. -/
def ByU (v : Value) (n : Nat) (W : World) : Prop := ∃ T, AllU T ∧ (Row v 5 1 n T).ok W
theorem ByU.set {v : Value} {n g j : Nat} {z : Int} {W : World} (h : ByU v n W) {cur : Array Value} (hg : W.heap[g]? = some (.cells cur 5 (0, 0))) : ByU v n (W.setCell ⟨g, j, none⟩ (.int .u8 z)) := by
  obtain ⟨T, hT, h1, h2⟩ := h
  rcases h2 with ⟨rfl, hn⟩ | ⟨g', cap, cur', rfl, hb, hg', hnc, hm, hz, ht⟩
  · exact ⟨T, hT, h1, .inl ⟨rfl, hn⟩⟩
  · by_cases e : g' = g
    · subst e
      refine ⟨T.set j (.int .u8 z), hT.set j z, by simpa using h1, .inr ⟨g', cap, cur'.setIfInBounds j (.int .u8 z), rfl, hb, heap_setCell_same W g' j cur' 5 _ hg', hnc, hm, by simpa using hz, ?_⟩⟩
      rw [Array.toList_setIfInBounds, List.take_set, ht]
    · exact ⟨T, hT, h1, .inr ⟨g', cap, cur', rfl, hb, (heap_setCell_other W ⟨g, j, none⟩ g' _ e).trans hg', hnc, hm, hz, ht⟩⟩
theorem Row.keepSet {v : Value} {E : TypeId} {s n g j : Nat} {l : List Value} {u : Value} {W : World} (h : (Row v E s n l).ok W) {cur : Array Value} (hE : E ≠ 5) (hg : W.heap[g]? = some (.cells cur 5 (0, 0))) : (Row v E s n l).ok (W.setCell ⟨g, j, none⟩ u) := by
  obtain ⟨h1, h2⟩ := h
  rcases h2 with ⟨rfl, hn⟩ | ⟨g', cap, cur', rfl, hb, hg', hnc, hm, hz, ht⟩
  · exact ⟨h1, .inl ⟨rfl, hn⟩⟩
  · have e : g' ≠ g := by
      intro e; subst e; rw [hg'] at hg; injection hg with hg; injection hg with _ hg; exact hE hg
    exact ⟨h1, .inr ⟨g', cap, cur', rfl, hb, (heap_setCell_other W ⟨g, j, none⟩ g' _ e).trans hg', hnc, hm, hz, ht⟩⟩
theorem ByU.cell {A : Option Addr} {n c j : Nat} {W : World} (h : ByU (.slice A n c) n W) (hj : j < n) : ∃ g z cur, A = some ⟨g, 0, none⟩ ∧ W.cell? ⟨g, j, none⟩ = some (.int .u8 z) ∧ W.heap[g]? = some (.cells cur 5 (0, 0)) := by
  obtain ⟨T, hT, h1, h2⟩ := h
  rcases h2 with ⟨e, hn⟩ | ⟨g', cap, cur', e, hb, hg', hnc, hm, hz, ht⟩
  · omega
  · injection e with e1 e2 e3
    subst e1
    have hjT : j < T.length := by rw [h1]; omega
    obtain ⟨z, hz'⟩ := hT _ (List.getElem_mem hjT)
    refine ⟨g', z, cur', rfl, ?_, hg'⟩
    rw [blk_cell hg']
    have h3 : T[j]? = some (.int .u8 z) := by rw [List.getElem?_eq_getElem hjT, hz']
    rw [← ht, List.getElem?_take_of_lt (by omega)] at h3
    simpa using h3
/-- A transaction in new memory: its lists as they are, its scripts bytes of some kind. -/
def TxU (m : TxM) : Res where
  fp := (TxR m).fp
  ok := fun W => ((Row m.iv 66 35 m.ins.length (m.ins.map inC).flatten).ok W ∧ (Row m.ov 68 2 m.outs.length (m.outs.map outC).flatten).ok W) ∧ (∀ x ∈ m.ins, ByU x.1 x.2.s.length W) ∧ ∀ x ∈ m.outs, ByU x.1 x.2.s.length W
  loc := fun W W' h ho => by
    have hm : ∀ {k : Nat}, k ∈ (TxR m).fp → W'.heap[k]? = W.heap[k]? := fun hk => h _ hk
    simp only [TxR, Res.pair, ScrR, List.mem_append, List.mem_flatMap, List.mem_map] at hm
    refine ⟨⟨Res.loc _ W W' (fun k hk => hm (.inl (.inr hk))) ho.1.1, Res.loc _ W W' (fun k hk => hm (.inr (.inl hk))) ho.1.2⟩, fun x hx => ?_, fun x hx => ?_⟩
    · obtain ⟨T, hT, hr⟩ := ho.2.1 x hx
      exact ⟨T, hT, Res.loc _ W W' (fun k hk => hm (.inl (.inl ⟨_, ⟨x, hx, rfl⟩, hk⟩))) hr⟩
    · obtain ⟨T, hT, hr⟩ := ho.2.2 x hx
      exact ⟨T, hT, Res.loc _ W W' (fun k hk => hm (.inr (.inr ⟨_, ⟨x, hx, rfl⟩, hk⟩))) hr⟩
  cel := fun W ho k hk => by
    simp only [TxR, Res.pair, ScrR, List.mem_append, List.mem_flatMap, List.mem_map] at hk
    rcases hk with (⟨_, ⟨x, hx, rfl⟩, hk⟩ | hk) | hk | ⟨_, ⟨x, hx, rfl⟩, hk⟩
    · obtain ⟨T, _, hr⟩ := ho.2.1 x hx; exact Res.cel _ W hr k hk
    · exact Res.cel _ W ho.1.1 k hk
    · exact Res.cel _ W ho.1.2 k hk
    · obtain ⟨T, _, hr⟩ := ho.2.2 x hx; exact Res.cel _ W hr k hk
theorem TxU.of {m : TxM} {W : World} (h : (TxR m).ok W) : (TxU m).ok W := by
  obtain ⟨⟨h1, h2⟩, h3, h4⟩ := h
  exact ⟨⟨h2, h3⟩, fun x hx => ⟨_, AllU.bs _, h1 _ (List.mem_map_of_mem (f := fun x : Value × TIn => (x.1, x.2.s)) hx)⟩, fun x hx => ⟨_, AllU.bs _, h4 _ (List.mem_map_of_mem (f := fun x : Value × TOut => (x.1, x.2.s)) hx)⟩⟩
theorem TxU.set {m : TxM} {W : World} {g j : Nat} {z : Int} (h : (TxU m).ok W) {cur : Array Value} (hg : W.heap[g]? = some (.cells cur 5 (0, 0))) : (TxU m).ok (W.setCell ⟨g, j, none⟩ (.int .u8 z)) :=
  ⟨⟨Row.keepSet h.1.1 (by decide) hg, Row.keepSet h.1.2 (by decide) hg⟩, fun x hx => (h.2.1 x hx).set hg, fun x hx => (h.2.2 x hx).set hg⟩
theorem TxU.sl {m : TxM} {W : World} (hm : m.p.ok) (h : (TxU m).ok W) : SLc W m.iv 35 (m.ins.map inC) ∧ SLc W m.ov 2 (m.outs.map outC) :=
  ⟨SLc.of_row (B := 0) (E := 66) (by rw [List.length_map]; exact h.1.1) (fun x hx => by obtain ⟨y, hy, rfl⟩ := List.mem_map.1 hx; exact inC_length (hm.ins _ (List.mem_map_of_mem hy))),
   SLc.of_row (B := 0) (E := 68) (by rw [List.length_map]; exact h.1.2) (fun x hx => by obtain ⟨y, hy, rfl⟩ := List.mem_map.1 hx; rfl)⟩
section
variable {w W : World} {L : List Res} {Fs : List (World → Prop)}
/-- A part is seen with less. -/
theorem St.weak {i : Nat} {r q : Res} (h : St w W L Fs) (hi : L[i]? = some r) (hok : r.ok W → q.ok W) (hfp : q.fp = r.fp) : St w W (L.set i q) Fs := by
  have hr := h.own r (List.mem_of_getElem? hi)
  exact h.upd hi (Chg.refl _ _) (hok hr.1) (fun k hk => ⟨.inl (hfp ▸ hk), (hr.2 k (hfp ▸ hk)).2⟩)
theorem St.setU {i g j : Nat} {z : Int} {m : TxM} {cur : Array Value} (h : St w W L Fs) (hi : L[i]? = some (TxU m)) (hk : g ∈ (TxU m).fp) (hg : W.heap[g]? = some (.cells cur 5 (0, 0))) : St w (W.setCell ⟨g, j, none⟩ (.int .u8 z)) L Fs := by
  have hr := h.own _ (List.mem_of_getElem? hi)
  have := h.upd (W' := W.setCell ⟨g, j, none⟩ (.int .u8 z)) hi ((Chg.refl _ _).setCell (.inl hk) _) (TxU.set hr.1 hg) (fun k hk => ⟨.inl hk, by have := (hr.2 k hk).2; simpa [World.setCell] using this⟩)
  rwa [set_same hi] at this
end
theorem TxU.in_fp {m : TxM} {x : Value × TIn} {g n c : Nat} (hx : x ∈ m.ins) (e : x.1 = .slice (some ⟨g, 0, none⟩) n c) : g ∈ (TxU m).fp := by
  show g ∈ (TxR m).fp
  simp only [TxR, Res.pair, ScrR, List.mem_append, List.mem_flatMap, List.mem_map]
  exact .inl (.inl ⟨_, ⟨x, hx, rfl⟩, by simp only [e]; simp [Value.ownBlock]⟩)
theorem TxU.out_fp {m : TxM} {x : Value × TOut} {g n c : Nat} (hx : x ∈ m.outs) (e : x.1 = .slice (some ⟨g, 0, none⟩) n c) : g ∈ (TxU m).fp := by
  show g ∈ (TxR m).fp
  simp only [TxR, Res.pair, ScrR, List.mem_append, List.mem_flatMap, List.mem_map]
  exact .inr (.inr ⟨_, ⟨x, hx, rfl⟩, by simp only [e]; simp [Value.ownBlock]⟩)
end
section
open Go Go.RowKit Go.Proofs
attribute [local go_sem] Oper.semAt_some
attribute [local irreducible] Calls
theorem run_slh28 {W : World} {o : Oper} {ev : Operand → Value} {x y : Operand} {A : Option Addr} {n c : Nat} (k : Nat) (ho : o.op = .slice 28 x none (some y) none) (hx : ev x = .slice A n c) (hy : ev y = .int .i64 (k : Int)) (hk : k ≤ n) (hn : n ≤ c) : (execOp ev o).run Try.prog W = .ok (.value (.slice A k c)) W := by
  have h := run_cut_h 28 5 Try.underlying28 size5 A n c k hk hn W
  unfold execOp
  simp only [ho, hx, hy, Instr.sliceAt, run_underlying Try.underlying28, Option.map_some, Option.map_none, Sem.run_bind, Sem.run_pure, Result.andThen_ok, h]
theorem ba_seven (xs : List UInt8) : ((⟨xs.toArray⟩ : ByteArray) ++ (⟨#[7]⟩ : ByteArray)).toList = xs ++ [7] := by
  rw [ba_toList]
  simp
theorem row7 {W : World} {v : Value} (h : (Row v 5 1 1 (bs [7])).ok W) : HB W v [7] := Row.hb (l := [7]) h
theorem hb_cap {W : World} {A : Option Addr} {n c : Nat} {l : List UInt8} (h : HB W (.slice A n c) l) : n ≤ c := by
  obtain ⟨p, c', e, h0, _⟩ := h
  injection e with _ e2 e3
  omega
def zP : TxP := ⟨0, [], [], 0⟩
def zM : TxM := ⟨0, .slice none 0 0, [], .slice none 0 0, [], 0⟩
theorem zM_cs : zM.cs = Z4 := rfl
theorem zM_p : zM.p = zP := rfl
theorem zR (W : World) : (TxR zM).ok W := ⟨⟨fun x hx => (nomatch hx), World.ownsRow_nil _ _ _ _⟩, World.ownsRow_nil _ _ _ _, fun x hx => (nomatch hx)⟩
def firT (xs : List UInt8) : TxP := match pTx xs with | some (t, _) => t | none => zP
def firN (xs : List UInt8) : Nat := match pTx xs with | some (_, r) => xs.length - r.length | none => 0
def firE (xs : List UInt8) : Int := match pTx xs with | some _ => 0 | none => 60
def decT (xs : List UInt8) : TxP := match pDec xs with | some t => t | none => zP
def decE (xs : List UInt8) : Int := match pDec xs with | some _ => 0 | none => 60
theorem zNew {w w' : World} (hb : Below w.heap.size w w') : St w w' [TxR zM] [] := (St.start w).new hb (zR w') (fun k hk => by simp [TxR, zM, Res.pair, ScrR, Row, Value.ownBlock] at hk)
theorem FirP.uni {xs : List UInt8} {w w' : World} {e : Ending} (h : FirP xs w e w') : ∃ m : TxM, m.p = firT xs ∧ e = .returned (.tuple #[.agg m.cs.toArray, .int .i64 ((firN xs : Nat) : Int), .int .i64 (firE xs)]) ∧ St w w' [TxR m] [] := by
  unfold firT firN firE
  rcases h with ⟨hp, rfl, hb⟩ | ⟨m, r, hp, _, rfl, hs⟩
  · rw [hp]; exact ⟨zM, rfl, rfl, zNew hb⟩
  · rw [hp]; exact ⟨m, rfl, rfl, hs⟩
theorem DecP.uni {xs : List UInt8} {w w' : World} {e : Ending} (h : DecP xs w e w') : ∃ m : TxM, m.p = decT xs ∧ e = .returned (.tuple #[.agg m.cs.toArray, .int .i64 (decE xs)]) ∧ St w w' [TxR m] [] := by
  unfold decT decE
  rcases h with ⟨hp, rfl, hb⟩ | ⟨m, hp, rfl, hs⟩
  · rw [hp]; exact ⟨zM, rfl, rfl, zNew hb⟩
  · rw [hp]; exact ⟨m, rfl, rfl, hs⟩
theorem zP_ok : zP.ok ∧ Sml zP := ⟨⟨by decide, by decide, fun x hx => (nomatch hx), fun x hx => (nomatch hx)⟩, ⟨⟨by decide, by decide⟩, fun x hx => (nomatch hx), fun x hx => (nomatch hx)⟩⟩
theorem firT_ok (xs : List UInt8) : (firT xs).ok ∧ Sml (firT xs) := by
  unfold firT
  split
  · rename_i t r hp
    obtain ⟨_, h1, h2⟩ := pTx_back hp
    exact ⟨h1, Sml.of h2⟩
  · exact zP_ok
theorem decT_ok (xs : List UInt8) : (decT xs).ok ∧ Sml (decT xs) := by
  unfold decT
  split
  · rename_i t hp
    have hq : ∃ r, pTx xs = some (t, r) := by
      unfold pDec at hp
      split at hp
      · rename_i t' hp'; injection hp with hp; subst hp; exact ⟨_, hp'⟩
      · cases hp
    obtain ⟨r, hq⟩ := hq
    obtain ⟨_, h1, h2⟩ := pTx_back hq
    exact ⟨h1, Sml.of h2⟩
  · exact zP_ok
theorem cs_1 (m : TxM) : m.cs[1]? = some m.iv := rfl
theorem cs_2 (m : TxM) : m.cs[2]? = some m.ov := rfl
theorem TxU.iat {m : TxM} {W : World} {g n c i : Nat} {x : Value × TIn} (hm : m.p.ok) (e : m.iv = .slice (some ⟨g, 0, none⟩) n c) (hi : m.ins[i]? = some x) (h : (TxU m).ok W) : W.cell? ⟨g, i * 35 + 33, none⟩ = some x.1 := by
  have h1 := (TxU.sl hm h).1
  rw [e] at h1
  have := (h1.range (by rw [List.getElem?_map, hi]; rfl)) 33 _ (inC_33 (hm.ins _ (List.mem_map_of_mem (List.mem_of_getElem? hi))))
  rwa [Nat.zero_add] at this
theorem TxU.oat {m : TxM} {W : World} {g n c i : Nat} {x : Value × TOut} (hm : m.p.ok) (e : m.ov = .slice (some ⟨g, 0, none⟩) n c) (hi : m.outs[i]? = some x) (h : (TxU m).ok W) : W.cell? ⟨g, i * 2 + 1, none⟩ = some x.1 := by
  have h1 := (TxU.sl hm h).2
  rw [e] at h1
  have := (h1.range (by rw [List.getElem?_map, hi]; rfl)) 1 _ rfl
  rwa [Nat.zero_add] at this
theorem TxU_fp {m : TxM} : (TxU m).fp = (TxR m).fp := rfl
theorem TxU_iv {m : TxM} {W : World} (h : (TxU m).ok W) : (Row m.iv 66 35 m.ins.length (m.ins.map inC).flatten).ok W := h.1.1
theorem TxU_ov {m : TxM} {W : World} (h : (TxU m).ok W) : (Row m.ov 68 2 m.outs.length (m.outs.map outC).flatten).ok W := h.1.2
theorem TxU_bi {m : TxM} {W : World} (h : (TxU m).ok W) {x : Value × TIn} (hx : x ∈ m.ins) : ByU x.1 x.2.s.length W := h.2.1 x hx
theorem TxU_bo {m : TxM} {W : World} (h : (TxU m).ok W) {x : Value × TOut} (hx : x ∈ m.outs) : ByU x.1 x.2.s.length W := h.2.2 x hx
theorem byU_sl {v : Value} {n : Nat} {W : World} (h : ByU v n W) : ∃ A c, v = .slice A n c := by obtain ⟨T, _, h⟩ := h; exact row_sl h
theorem cs_oneR {m : TxM} {W : World} (h : (TxR m).ok W) : ∀ v ∈ m.cs, v.oneCell' = true := cs_one h
attribute [local irreducible] TxM.cs firT firN firE decT decE TxR TxU
set_option maxHeartbeats 1000000 in
set_option maxRecDepth 100000 in
theorem reads4_far (Av : Option Addr) (cv : Nat) (zs : List UInt8) (w : World) (h5 : 5000 < zs.length) : Calls Try.prog 4 #[.slice Av zs.length cv] w fun e w' => e = .returned (.bool true) ∧ Below w.heap.size w w' := by
  have k1 : (5000 : Int) < (zs.length : Int) := by omega
  go_enter Try.func4, Try.ntmps4
  go_wp2_with (first
    | go_skip)
  go_ret
  exact ⟨rfl, Below.refl _ _⟩
set_option maxHeartbeats 8000000 in
set_option maxRecDepth 100000 in
theorem reads4 (Av : Option Addr) (cv : Nat) (zs : List UInt8) (w : World) (hv : HB w (.slice Av zs.length cv) zs) (h5 : zs.length ≤ 5000) : Calls Try.prog 4 #[.slice Av zs.length cv] w fun e w' => e = .returned (.bool true) ∧ Below w.heap.size w w' := by
  have k1 : decide ((5000 : Int) < (zs.length : Int)) = false := decide_eq_false (by omega)
  have HS := Lib.hid ((St.start w).addF hv.away0)
  obtain ⟨ys, hys⟩ : ∃ ys, zs ++ [7] = ys := ⟨_, rfl⟩
  have HYL := Lib.hid (show ys.length = zs.length + 1 by rw [← hys]; simp)
  have HYT := Lib.hid (show ys.take zs.length = zs by rw [← hys]; simp)
  have HYS := Lib.hid hys
  clear hys hv
  go_enter Try.func4, Try.ntmps4
  go_wp2_with (first
    | go_skip
    | (refine atd 21 (by rfl) ?_; refine wl (by rfl) (s_bs0 (E := 5) HS.out 1 (by rfl) Try.underlying28 (by kernel_rfl) (by rfl) ?_); intro b21 Wn hS; clear HS; have HS := Lib.hid hS; clear hS)
    | (refine atd 23 (by rfl) ?_; refine wl (by rfl) (s_app (xs := []) HS.out 0 (by rfl) Try.underlying28 u8_info (by rfl) (by rfl) (by rfl) (HS.out.fact (i := 0) rfl) (by simp only [List.length_nil]; omega) ?_); intro v23 Wn hS; rw [List.nil_append] at hS; clear HS; have HS := Lib.hid hS; clear hS)
    | (refine atd 24 (by rfl) ?_; refine wl (by rfl) (s_bs (E := 5) (z := (.int .u8 0)) HS.out 1 1 (bs [7]) (by rfl) Try.underlying28 (by kernel_rfl) (by rfl) (by decide) (by decide) (by kernel_rfl) (by rfl) (by decide) ?_); intro b24 Wn hS; clear HS; have HS := Lib.hid hS; clear hS)
    | (refine atd 25 (by rfl) ?_; refine wl (by rfl) (s_app (xs := zs) (ys := [7]) HS.out 1 (by rfl) Try.underlying28 u8_info (by rfl) (by rfl) (by rfl) (row7 (HS.out.res (i := 0) rfl)) (by simp only [List.length_cons, List.length_nil]; omega) ?_); intro v25 Wn hS; replace hS := hS.sub 0; rw [HYS.out] at hS; obtain ⟨A25, c25, rfl⟩ := row_sl (hS.res (i := 0) rfl); have HCAP := Lib.hid (hb_cap (Row.hb (hS.res (i := 0) rfl))); clear HS; have HS := Lib.hid hS; clear hS)
    | (refine atd 30 (by rfl) ?_; refine wl (by rfl) (wp_of_run (run_slh28 zs.length (by rfl) (by rfl) (by rfl) (by have := HYL.out; omega) HCAP.out) ?_))
    | (refine atd 45 (by rfl) ?_; refine wl (by rfl) (wp_of_run (run_slh28 zs.length (by rfl) (by rfl) (by rfl) (by have := HYL.out; omega) HCAP.out) ?_))
    | (go_at_call 28; refine (first28 _ zs _ (by have h := (Row.hb (HS.out.res (i := 0) rfl)).take (b := zs.length) (by have := HYL.out; omega); rw [HYT.out] at h; exact h) (by omega)).mono ?_; intro e Wn h; obtain ⟨m1, hp1, rfl, hs⟩ := h.uni; clear h; have ok1 : m1.p.ok := (by rw [hp1]; exact (firT_ok zs).1); have htw := TxR.tw ok1 (hs.res (i := 0) rfl); obtain ⟨ver, iv, ins, ov, outs, lock⟩ := m1; obtain ⟨A, c, B, d, e1, e2, hc, hd⟩ := htw.shape; dsimp only at e1 e2; subst e1 e2; have HP1 := Lib.hid hp1; have HO1 := Lib.hid ok1; have hS := HS.out.join hs; clear hs htw hp1 ok1 hc hd; clear HS; have HS := Lib.hid hS; clear hS)
    | (refine atd 4 (by rfl) ?_; refine wl (by rfl) (s_al (l := Z4) HS.out (by rfl) z55 (by rfl) ?_); intro b4 Wn hS; clear HS; have HS := Lib.hid hS; clear hS)
    | (refine sto 4 (by rfl) ?_; refine wl (by rfl) (s_sta (cs := TxM.cs (⟨ver, .slice A ins.length c, ins, .slice B outs.length d, outs, lock⟩ : TxM)) HS.out 0 4 (by rfl) (by rfl) (by rfl) ag55 (by rfl) (by exact cs_len' (⟨ver, .slice A ins.length c, ins, .slice B outs.length d, outs, lock⟩ : TxM)) (cs_oneR (HS.out.res (i := 1) rfl)) (by exact Nat.le_refl _) ?_); intro Wn hS; rw [splice_all (l := Z4) (cs := TxM.cs (⟨ver, .slice A ins.length c, ins, .slice B outs.length d, outs, lock⟩ : TxM)) (by rw [cs_len']; rfl)] at hS; clear HS; have HS := Lib.hid hS; clear hS)
    | (go_at_call 29; refine (rfirst29 _ zs _ (HS.out.fact (i := 0) rfl) (by omega)).mono ?_; intro e Wn h; obtain ⟨m2, hp2, rfl, hs⟩ := h.uni; clear h; have HP2 := Lib.hid hp2; have hS := HS.out.join hs; clear hs hp2; clear HS; have HS := Lib.hid hS; clear hS)
    | (refine atd 7 (by rfl) ?_; refine wl (by rfl) (s_al (l := Z4) HS.out (by rfl) z55 (by rfl) ?_); intro b7 Wn hS; clear HS; have HS := Lib.hid hS; clear hS)
    | (refine sto 7 (by rfl) ?_; refine wl (by rfl) (s_sta (cs := TxM.cs m2) HS.out 0 4 (by rfl) (by rfl) (by rfl) ag55 (by rfl) (by exact cs_len' m2) (cs_oneR (HS.out.res (i := 1) rfl)) (by exact Nat.le_refl _) ?_); intro Wn hS; rw [splice_all (l := Z4) (cs := TxM.cs m2) (by rw [cs_len']; rfl)] at hS; clear HS; have HS := Lib.hid hS; clear hS)
    | (go_at_call 30; refine (dec30 _ zs _ (by have h := (Row.hb (HS.out.res (i := 4) rfl)).take (b := zs.length) (by have := HYL.out; omega); rw [HYT.out] at h; exact h) (by omega)).mono ?_; intro e Wn h; obtain ⟨m3, hp3, rfl, hs⟩ := h.uni; clear h; have HP3 := Lib.hid hp3; have hS := HS.out.join hs; clear hs hp3; clear HS; have HS := Lib.hid hS; clear hS)
    | (refine atd 10 (by rfl) ?_; refine wl (by rfl) (s_al (l := Z4) HS.out (by rfl) z55 (by rfl) ?_); intro b10 Wn hS; clear HS; have HS := Lib.hid hS; clear hS)
    | (refine sto 10 (by rfl) ?_; refine wl (by rfl) (s_sta (cs := TxM.cs m3) HS.out 0 4 (by rfl) (by rfl) (by rfl) ag55 (by rfl) (by exact cs_len' m3) (cs_oneR (HS.out.res (i := 1) rfl)) (by exact Nat.le_refl _) ?_); intro Wn hS; rw [splice_all (l := Z4) (cs := TxM.cs m3) (by rw [cs_len']; rfl)] at hS; clear HS; have HS := Lib.hid hS; clear hS)
    | (go_at_call 31; refine (rdec31 _ zs _ (HS.out.fact (i := 0) rfl) (by omega)).mono ?_; intro e Wn h; obtain ⟨m4, hp4, rfl, hs⟩ := h.uni; clear h; have HP4 := Lib.hid hp4; have hS := HS.out.join hs; clear hs hp4; clear HS; have HS := Lib.hid hS; clear hS)
    | (refine atd 12 (by rfl) ?_; refine wl (by rfl) (s_al (l := Z4) HS.out (by rfl) z55 (by rfl) ?_); intro b12 Wn hS; clear HS; have HS := Lib.hid hS; clear hS)
    | (refine sto 12 (by rfl) ?_; refine wl (by rfl) (s_sta (cs := TxM.cs m4) HS.out 0 4 (by rfl) (by rfl) (by rfl) ag55 (by rfl) (by exact cs_len' m4) (cs_oneR (HS.out.res (i := 1) rfl)) (by exact Nat.le_refl _) ?_); intro Wn hS; rw [splice_all (l := Z4) (cs := TxM.cs m4) (by rw [cs_len']; rfl)] at hS; clear HS; have HS := Lib.hid hS; clear hS)
    | (refine atd 54 (by rfl) ?_; refine wl (by rfl) (s_lda (cs := TxM.cs (⟨ver, .slice A ins.length c, ins, .slice B outs.length d, outs, lock⟩ : TxM)) HS.out 6 4 (by rfl) (by rfl) (by rfl) ag55 (by exact csall (⟨ver, .slice A ins.length c, ins, .slice B outs.length d, outs, lock⟩ : TxM)) (by exact cs_len' (⟨ver, .slice A ins.length c, ins, .slice B outs.length d, outs, lock⟩ : TxM)) ?_))
    | (refine atd 55 (by rfl) ?_; refine wl (by rfl) (s_lda (cs := TxM.cs m2) HS.out 4 4 (by rfl) (by rfl) (by rfl) ag55 (by exact csall m2) (by exact cs_len' m2) ?_))
    | (refine atd 69 (by rfl) ?_; refine wl (by rfl) (s_lda (cs := TxM.cs m3) HS.out 2 4 (by rfl) (by rfl) (by rfl) ag55 (by exact csall m3) (by exact cs_len' m3) ?_))
    | (refine atd 70 (by rfl) ?_; refine wl (by rfl) (s_lda (cs := TxM.cs m4) HS.out 0 4 (by rfl) (by rfl) (by rfl) ag55 (by exact csall m4) (by exact cs_len' m4) ?_))
    | (go_at_call 32; refine (rsame32 (⟨ver, .slice A ins.length c, ins, .slice B outs.length d, outs, lock⟩ : TxM) m2 _ (TxR.tw (by rw [HP1.out]; exact (firT_ok zs).1) (HS.out.res (i := 7) rfl)) (TxR.tw (by rw [HP2.out]; exact (firT_ok zs).1) (HS.out.res (i := 5) rfl)) (by rw [HP1.out]; exact (firT_ok zs).1) (by rw [HP2.out]; exact (firT_ok zs).1) (by rw [HP1.out]; exact (firT_ok zs).2) (by rw [HP2.out]; exact (firT_ok zs).2)).mono ?_; rintro e Wn ⟨b, rfl, hi, hb⟩; obtain rfl : b = true := hi.2 (by rw [HP1.out, HP2.out]); have hS := HS.out.call hb; clear hb hi; clear HS; have HS := Lib.hid hS; clear hS)
    | (go_at_call 32; refine (rsame32 m3 m4 _ (TxR.tw (by rw [HP3.out]; exact (decT_ok zs).1) (HS.out.res (i := 3) rfl)) (TxR.tw (by rw [HP4.out]; exact (decT_ok zs).1) (HS.out.res (i := 1) rfl)) (by rw [HP3.out]; exact (decT_ok zs).1) (by rw [HP4.out]; exact (decT_ok zs).1) (by rw [HP3.out]; exact (decT_ok zs).2) (by rw [HP4.out]; exact (decT_ok zs).2)).mono ?_; rintro e Wn ⟨b, rfl, hi, hb⟩; obtain rfl : b = true := hi.2 (by rw [HP3.out, HP4.out]); have hS := HS.out.call hb; clear hb hi; clear HS; have HS := Lib.hid hS; clear hS)
    | (refine atd 80 (by rfl) ?_; refine wl (by rfl) (s_ld HS.out 6 (by rfl) (by rfl) (by rfl) (by kernel_rfl) (by exact cs_1 _) ?_)))
  have hS := (((((HS.out.sub 0).sub 0).sub 0).sub 0).sub 0).sub 0
  have hS2 := hS.weak (i := 1) (q := TxU (⟨ver, .slice A ins.length c, ins, .slice B outs.length d, outs, lock⟩ : TxM)) rfl TxU.of TxU_fp
  clear HS hS
  have HS := Lib.hid (show St w _ [Blk b4 (TxM.cs (⟨ver, .slice A ins.length c, ins, .slice B outs.length d, outs, lock⟩ : TxM)) 55, TxU (⟨ver, .slice A ins.length c, ins, .slice B outs.length d, outs, lock⟩ : TxM), Row (.slice A25 ys.length c25) 5 1 ys.length (bs ys)] [fun W => HB W (.slice Av zs.length cv) zs] from hS2)
  clear hS2
  have hsml := (firT_ok zs).2
  rw [← HP1.out] at hsml
  obtain ⟨⟨hb1, hb2⟩, hb3, hb4⟩ := hsml
  simp only [TxM.p, List.length_map] at hb1 hb2
  have HSM1 := Lib.hid (fun x (hx : x ∈ ins) => hb3 x.2 (List.mem_map_of_mem (f := (·.2)) hx))
  have HSM2 := Lib.hid (fun x (hx : x ∈ outs) => hb4 x.2 (List.mem_map_of_mem (f := (·.2)) hx))
  clear hb3 hb4
  go_loopw [82] (fun s82 wr => ∃ i : Nat, i ≤ ins.length ∧ s82 = .int .i64 (i : Int) ∧ St w wr [Blk b4 (TxM.cs (⟨ver, .slice A ins.length c, ins, .slice B outs.length d, outs, lock⟩ : TxM)) 55, TxU (⟨ver, .slice A ins.length c, ins, .slice B outs.length d, outs, lock⟩ : TxM), Row (.slice A25 ys.length c25) 5 1 ys.length (bs ys)] [fun W => HB W (.slice Av zs.length cv) zs]) (fun s82 _ => ins.length - (intOf s82).toNat)
  case atStart => exact ⟨0, by omega, rfl, HS.out⟩
  case round =>
    obtain ⟨i, hi, rfl, hs⟩ := hrel
    clear HS
    have HS := Lib.hid hs
    clear hs
    by_cases hlt : i < ins.length
    · have j1 : (i : Int) < (ins.length : Int) := by omega
      have hli : ins[i]? = some ins[i] := List.getElem?_eq_getElem hlt
      have hU := HS.out.res (i := 1) rfl
      obtain ⟨gi, rfl⟩ := row_at (TxU_iv hU) (show 0 < ins.length by omega)
      generalize ins[i] = x at hli
      have hby := TxU_bi hU (List.mem_of_getElem? hli)
      obtain ⟨xv, y⟩ := x
      obtain ⟨Ap, cp, exv⟩ := byU_sl hby
      dsimp only at exv hby
      subst exv
      have HIV := Lib.hid (fun W (h : (TxU (⟨ver, .slice (some ⟨gi, 0, none⟩) ins.length c, ins, .slice B outs.length d, outs, lock⟩ : TxM)).ok W) => TxU.iat (m := (⟨ver, .slice (some ⟨gi, 0, none⟩) ins.length c, ins, .slice B outs.length d, outs, lock⟩ : TxM)) HO1.out rfl hli h)
      have HBY := Lib.hid (fun W (h : (TxU (⟨ver, .slice (some ⟨gi, 0, none⟩) ins.length c, ins, .slice B outs.length d, outs, lock⟩ : TxM)).ok W) => TxU_bi h (List.mem_of_getElem? hli))
      have HMEM := Lib.hid (List.mem_of_getElem? hli)
      have hyl := HSM1.out _ HMEM.out
      dsimp only at HIV HBY hyl
      clear hU hby hli
      go_wp2_with (first
        | go_skip
        | (refine atd 86 (by rfl) ?_; refine wl (by rfl) (s_ld HS.out 0 (by rfl) (by rfl) (by rfl) (by kernel_rfl) (by exact cs_1 _) ?_))
        | (refine atd 90 (by rfl) ?_; refine wl (by rfl) (wp_of_run (run_ld (by kernel_rfl) (by rfl) (by rfl) (HIV.out _ (HS.out.res (i := 1) rfl))) ?_)))
      go_loopw [92] (fun s92 wq => ∃ k : Nat, k ≤ y.s.length ∧ s92 = .int .i64 (k : Int) ∧ St w wq [Blk b4 (TxM.cs (⟨ver, .slice (some ⟨gi, 0, none⟩) ins.length c, ins, .slice B outs.length d, outs, lock⟩ : TxM)) 55, TxU (⟨ver, .slice (some ⟨gi, 0, none⟩) ins.length c, ins, .slice B outs.length d, outs, lock⟩ : TxM), Row (.slice A25 ys.length c25) 5 1 ys.length (bs ys)] [fun W => HB W (.slice Av zs.length cv) zs]) (fun s92 _ => y.s.length - (intOf s92).toNat)
      case atStart => exact ⟨0, by omega, rfl, HS.out⟩
      case round =>
        obtain ⟨k, hk, rfl, hs⟩ := hrel
        clear HS
        have HS := Lib.hid hs
        clear hs
        by_cases hkl : k < y.s.length
        · have j2 : (k : Int) < (y.s.length : Int) := by omega
          obtain ⟨g, z, cur, hA, hcell, hheap⟩ := ByU.cell (HBY.out _ (HS.out.res (i := 1) rfl)) hkl
          subst hA
          have HC := Lib.hid hcell; have HH := Lib.hid hheap
          have HFP := Lib.hid (TxU.in_fp (m := (⟨ver, .slice (some ⟨gi, 0, none⟩) ins.length c, ins, .slice B outs.length d, outs, lock⟩ : TxM)) HMEM.out rfl)
          clear hcell hheap
          go_wp2_with (first
            | go_skip
            | (refine atd 96 (by rfl) ?_; refine wl (by rfl) (s_ld HS.out 0 (by rfl) (by rfl) (by rfl) (by kernel_rfl) (by exact cs_1 _) ?_))
            | (refine atd 100 (by rfl) ?_; refine wl (by rfl) (wp_of_run (run_ld (by kernel_rfl) (by rfl) (by rfl) (HIV.out _ (HS.out.res (i := 1) rfl))) ?_))
            | (refine atd 103 (by rfl) ?_; refine wl (by rfl) (wp_of_run (run_ld (v := .int .u8 z) (by kernel_rfl) (by rfl) (by rfl) HC.out) ?_))
            | (refine sto 105 (by rfl) ?_; refine wl (by rfl) (wp_of_skip (run_stc (by kernel_rfl) (by rfl) (by rfl) (by rfl) (by rfl) HC.out (blk_free HH.out k)) ?_); have hS := HS.out.setU (i := 1) (j := k) (z := IntKind.wrap .u8 (z + 1)) rfl HFP.out HH.out; clear HS; have HS := Lib.hid hS; clear hS))
          exact ⟨⟨k + 1, by omega, by push_cast; rfl, HS.out⟩, by simp [intOf]; omega⟩
        · have j2 : ¬ (k : Int) < (y.s.length : Int) := by omega
          go_wp2_with (first
            | go_skip)
          exact ⟨⟨i + 1, by omega, by push_cast; rfl, HS.out⟩, by simp [intOf]; omega⟩
    · have j1 : ¬ (i : Int) < (ins.length : Int) := by omega
      clear hlt hi
      go_wp2_with (first
        | go_skip
        | (refine atd 109 (by rfl) ?_; refine wl (by rfl) (s_ld HS.out 0 (by rfl) (by rfl) (by rfl) (by kernel_rfl) (by exact cs_2 _) ?_)))
      go_loopw [111] (fun s111 wr => ∃ i : Nat, i ≤ outs.length ∧ s111 = .int .i64 (i : Int) ∧ St w wr [Blk b4 (TxM.cs (⟨ver, .slice A ins.length c, ins, .slice B outs.length d, outs, lock⟩ : TxM)) 55, TxU (⟨ver, .slice A ins.length c, ins, .slice B outs.length d, outs, lock⟩ : TxM), Row (.slice A25 ys.length c25) 5 1 ys.length (bs ys)] [fun W => HB W (.slice Av zs.length cv) zs]) (fun s111 _ => outs.length - (intOf s111).toNat)
      case atStart => exact ⟨0, by omega, rfl, HS.out⟩
      case round =>
        obtain ⟨i, hi, rfl, hs⟩ := hrel
        clear HS
        have HS := Lib.hid hs
        clear hs
        by_cases hlt : i < outs.length
        · have j1 : (i : Int) < (outs.length : Int) := by omega
          have hli : outs[i]? = some outs[i] := List.getElem?_eq_getElem hlt
          have hU := HS.out.res (i := 1) rfl
          obtain ⟨gi, rfl⟩ := row_at (TxU_ov hU) (show 0 < outs.length by omega)
          generalize outs[i] = x at hli
          have hby := TxU_bo hU (List.mem_of_getElem? hli)
          obtain ⟨xv, y⟩ := x
          obtain ⟨Ap, cp, exv⟩ := byU_sl hby
          dsimp only at exv hby
          subst exv
          have HIV := Lib.hid (fun W (h : (TxU (⟨ver, .slice A ins.length c, ins, .slice (some ⟨gi, 0, none⟩) outs.length d, outs, lock⟩ : TxM)).ok W) => TxU.oat (m := (⟨ver, .slice A ins.length c, ins, .slice (some ⟨gi, 0, none⟩) outs.length d, outs, lock⟩ : TxM)) HO1.out rfl hli h)
          have HBY := Lib.hid (fun W (h : (TxU (⟨ver, .slice A ins.length c, ins, .slice (some ⟨gi, 0, none⟩) outs.length d, outs, lock⟩ : TxM)).ok W) => TxU_bo h (List.mem_of_getElem? hli))
          have HMEM := Lib.hid (List.mem_of_getElem? hli)
          have hyl := HSM2.out _ HMEM.out
          dsimp only at HIV HBY hyl
          clear hU hby hli
          go_wp2_with (first
            | go_skip
            | (refine atd 115 (by rfl) ?_; refine wl (by rfl) (s_ld HS.out 0 (by rfl) (by rfl) (by rfl) (by kernel_rfl) (by exact cs_2 _) ?_))
            | (refine atd 119 (by rfl) ?_; refine wl (by rfl) (wp_of_run (run_ld (by kernel_rfl) (by rfl) (by rfl) (HIV.out _ (HS.out.res (i := 1) rfl))) ?_)))
          go_loopw [121] (fun s121 wq => ∃ k : Nat, k ≤ y.s.length ∧ s121 = .int .i64 (k : Int) ∧ St w wq [Blk b4 (TxM.cs (⟨ver, .slice A ins.length c, ins, .slice (some ⟨gi, 0, none⟩) outs.length d, outs, lock⟩ : TxM)) 55, TxU (⟨ver, .slice A ins.length c, ins, .slice (some ⟨gi, 0, none⟩) outs.length d, outs, lock⟩ : TxM), Row (.slice A25 ys.length c25) 5 1 ys.length (bs ys)] [fun W => HB W (.slice Av zs.length cv) zs]) (fun s121 _ => y.s.length - (intOf s121).toNat)
          case atStart => exact ⟨0, by omega, rfl, HS.out⟩
          case round =>
            obtain ⟨k, hk, rfl, hs⟩ := hrel
            clear HS
            have HS := Lib.hid hs
            clear hs
            by_cases hkl : k < y.s.length
            · have j2 : (k : Int) < (y.s.length : Int) := by omega
              obtain ⟨g, z, cur, hA, hcell, hheap⟩ := ByU.cell (HBY.out _ (HS.out.res (i := 1) rfl)) hkl
              subst hA
              have HC := Lib.hid hcell; have HH := Lib.hid hheap
              have HFP := Lib.hid (TxU.out_fp (m := (⟨ver, .slice A ins.length c, ins, .slice (some ⟨gi, 0, none⟩) outs.length d, outs, lock⟩ : TxM)) HMEM.out rfl)
              clear hcell hheap
              go_wp2_with (first
                | go_skip
                | (refine atd 125 (by rfl) ?_; refine wl (by rfl) (s_ld HS.out 0 (by rfl) (by rfl) (by rfl) (by kernel_rfl) (by exact cs_2 _) ?_))
                | (refine atd 129 (by rfl) ?_; refine wl (by rfl) (wp_of_run (run_ld (by kernel_rfl) (by rfl) (by rfl) (HIV.out _ (HS.out.res (i := 1) rfl))) ?_))
                | (refine atd 132 (by rfl) ?_; refine wl (by rfl) (wp_of_run (run_ld (v := .int .u8 z) (by kernel_rfl) (by rfl) (by rfl) HC.out) ?_))
                | (refine sto 134 (by rfl) ?_; refine wl (by rfl) (wp_of_skip (run_stc (by kernel_rfl) (by rfl) (by rfl) (by rfl) (by rfl) HC.out (blk_free HH.out k)) ?_); have hS := HS.out.setU (i := 1) (j := k) (z := IntKind.wrap .u8 (z + 1)) rfl HFP.out HH.out; clear HS; have HS := Lib.hid hS; clear hS))
              exact ⟨⟨k + 1, by omega, by push_cast; rfl, HS.out⟩, by simp [intOf]; omega⟩
            · have j2 : ¬ (k : Int) < (y.s.length : Int) := by omega
              go_wp2_with (first
                | go_skip)
              exact ⟨⟨i + 1, by omega, by push_cast; rfl, HS.out⟩, by simp [intOf]; omega⟩
        · have j1 : ¬ (i : Int) < (outs.length : Int) := by omega
          clear hlt hi
          go_wp2_with (first
            | go_skip
            | (refine atd 138 (by rfl) ?_; refine wl (by rfl) (wp_of_run (run_str (by rfl) (by rfl) (Row.hb (HS.out.res (i := 2) rfl))) ?_))
            | (refine atd 140 (by rfl) ?_; refine wl (by rfl) (wp_of_run (run_str (by rfl) (by rfl) (HS.out.fact (i := 0) rfl)) ?_)))
          go_ret
          exact ⟨by rw [← HYS.out]; simp [ba_seven], HS.out.below⟩
theorem txReads_walk (v : Value) (w : World) (g0 : Rd Try.prog w 28 [v]) : Calls Try.prog 4 #[v] w fun e w' => e = .returned (.bool true) ∧ Below w.heap.size w w' := by
  obtain ⟨s1, zs, h1, hv⟩ := hbd_of g0
  injection h1 with h1 _
  subst h1
  obtain ⟨Av, cv, rfl, _⟩ := hv.shape
  by_cases h5 : zs.length ≤ 5000
  · exact reads4 Av cv zs w hv h5
  · exact reads4_far Av cv zs w (by omega)
end
end Go.Proofs.Yteljmpoaggfliaa
