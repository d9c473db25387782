/- Contracts and words that the laws stand on (TxE). -/
import Derived.Test.YteljmpoaggfliaaTxD
set_option linter.unusedVariables false
set_option linter.unusedSimpArgs false
namespace Go.Proofs.Yteljmpoaggfliaa
section
open Go Go.RowKit Go.Proofs
attribute [local go_sem] Oper.semAt_some
attribute [local irreducible] Calls

theorem TxW.in_s {t : TxM} {W : World} {b o n c i : Nat} {v : Value} {y : TIn} (h : TxW t W) (hok : t.p.ok) (he : t.iv = .slice (some ⟨b, o, none⟩) n c) (hx : t.ins[i]? = some (v, y)) : W.cell? ⟨b, o + i * 35 + 33, none⟩ = some v :=
  h.in_at he hx 33 _ (inC_33 (x := (v, y)) (hok.ins _ (List.mem_map_of_mem (f := (·.2)) (List.mem_of_getElem? hx))))
theorem TxW.out_s {t : TxM} {W : World} {b o n c i : Nat} {v : Value} {y : TOut} (h : TxW t W) (he : t.ov = .slice (some ⟨b, o, none⟩) n c) (hx : t.outs[i]? = some (v, y)) : W.cell? ⟨b, o + i * 2 + 1, none⟩ = some v :=
  h.out_at he hx 1 _ rfl
theorem compact3 (n : Nat) (h : n < 65536) : compact n = if n < 253 then 1 else 3 := by
  unfold compact
  split
  · rfl
  · first | rfl | rw [if_pos h]
def wI (ins : List TIn) (lo : Nat) (i : Nat) : Nat := 8 + compact ins.length + compact lo + ((ins.take i).map fun x => 40 + compact x.s.length + x.s.length).sum
def wO (ins : List TIn) (outs : List TOut) (i : Nat) : Nat := wI ins outs.length ins.length + ((outs.take i).map fun x => 8 + compact x.s.length + x.s.length).sum
theorem wI_snoc {ins : List (Value × TIn)} {lo i : Nat} {x : Value × TIn} (h : ins[i]? = some x) : wI (ins.map (·.2)) lo (i + 1) = wI (ins.map (·.2)) lo i + 40 + compact x.2.s.length + x.2.s.length := by
  have h2 : (ins.map (·.2))[i]? = some x.2 := by rw [List.getElem?_map, h]; rfl
  unfold wI
  rw [take_snoc _ i _ h2]
  simp only [List.map_append, List.map_cons, List.map_nil, List.sum_append, List.sum_cons, List.sum_nil]
  omega
theorem wO_snoc {ins : List TIn} {outs : List (Value × TOut)} {i : Nat} {x : Value × TOut} (h : outs[i]? = some x) : wO ins (outs.map (·.2)) (i + 1) = wO ins (outs.map (·.2)) i + 8 + compact x.2.s.length + x.2.s.length := by
  have h2 : (outs.map (·.2))[i]? = some x.2 := by rw [List.getElem?_map, h]; rfl
  unfold wO
  rw [take_snoc _ i _ h2]
  simp only [List.map_append, List.map_cons, List.map_nil, List.sum_append, List.sum_cons, List.sum_nil]
  omega
theorem sum_le {α : Type} (f : α → Nat) (m : Nat) : ∀ (l : List α), (∀ x ∈ l, f x ≤ m) → (l.map f).sum ≤ l.length * m
  | [], _ => by simp
  | x :: l, h => by
    have h1 := h x (List.mem_cons_self ..)
    have h2 := sum_le f m l (fun y hy => h y (List.mem_cons_of_mem _ hy))
    simp only [List.map_cons, List.sum_cons, List.length_cons, Nat.add_mul]
    omega
theorem wI_le {ins : List TIn} (lo i : Nat) (hl : ins.length ≤ 60) (h : ∀ x ∈ ins, x.s.length ≤ 2100) : wI ins lo i ≤ 200000 := by
  have h1 := sum_le (fun x : TIn => 40 + compact x.s.length + x.s.length) 2200 (ins.take i) (fun x hx => by have := h x (List.mem_of_mem_take hx); have := compact9 x.s.length; omega)
  have h2 : (ins.take i).length ≤ 60 := by rw [List.length_take]; omega
  have h3 := compact9 ins.length
  have h4 := compact9 lo
  unfold wI
  omega
theorem wO_le {ins : List TIn} {outs : List TOut} (i : Nat) (hl : ins.length ≤ 60) (h : ∀ x ∈ ins, x.s.length ≤ 2100) (hl2 : outs.length ≤ 60) (h' : ∀ x ∈ outs, x.s.length ≤ 2100) : wO ins outs i ≤ 400000 := by
  have h1 := sum_le (fun x : TOut => 8 + compact x.s.length + x.s.length) 2200 (outs.take i) (fun x hx => by have := h' x (List.mem_of_mem_take hx); have := compact9 x.s.length; omega)
  have h2 : (outs.take i).length ≤ 60 := by rw [List.length_take]; omega
  have h3 := wI_le outs.length ins.length hl h
  unfold wO
  omega
theorem flat_sum {α : Type} (f : α → List UInt8) : ∀ l : List α, (l.flatMap f).length = (l.map fun x => (f x).length).sum
  | [] => rfl
  | x :: l => by simp [List.flatMap_cons, flat_sum f l]
theorem txB_len {t : TxP} (h : t.ok) : wO t.ins t.outs t.outs.length = (txB t).length := by
  have h1 : t.ins.map (fun x => (inB x).length) = t.ins.map (fun x => 40 + compact x.s.length + x.s.length) := List.map_congr_left fun x hx => by
    have := (h.ins x hx).h
    simp [inB, le_length, csize_length, this]; omega
  have h2 : t.outs.map (fun x => (outB x).length) = t.outs.map (fun x => 8 + compact x.s.length + x.s.length) := List.map_congr_left fun x hx => by
    simp [outB, le_length, csize_length]; omega
  unfold wO wI txB
  simp only [List.length_append, le_length, csize_length, flat_sum, h1, h2, List.take_of_length_le (Nat.le_refl _)]
  omega
set_option maxHeartbeats 1000000 in
set_option maxRecDepth 100000 in
theorem size36 (n : Nat) (w : World) (hn : n < 65536) : Calls Try.prog 36 #[.int .i64 (n : Int)] w fun e w' => e = .returned (.int .i64 (compact n : Int)) ∧ w = w' := by
  by_cases h : n < 253
  · have k1 : (n : Int) < 253 := by omega
    go_enter Try.func36, Try.ntmps36
    go_wp2_with fail
    go_ret
    exact ⟨by rw [compact3 n hn, if_pos h]; rfl, rfl⟩
  · have k1 : ¬ (n : Int) < 253 := by omega
    go_enter Try.func36, Try.ntmps36
    go_wp2_with fail
    go_ret
    exact ⟨by rw [compact3 n hn, if_neg h]; rfl, rfl⟩
theorem enc35_N (t : TxM) (N : Nat) (w : World) (hok : t.p.ok) (ht : TxW t w) (hc : chkT t.p = true) (hN : (txB t.p).length = N) : Calls Try.prog 35 #[.agg t.cs.toArray] w fun e w' => ∃ A c, e = .returned (.tuple #[.slice A N c, .int .i64 0]) ∧ New w w' (Row (.slice A N c) 5 1 N (bs (txB t.p))) := by
  refine (enc35_yes t w hok ht hc).mono ?_
  rintro e w' ⟨v', rfl, hb⟩
  rw [hN] at hb
  obtain ⟨A, c, rfl⟩ : ∃ A c, v' = .slice A N c := by
    rcases hb.2.1.2 with ⟨rfl, he⟩ | ⟨g, cap, cur, rfl, _⟩
    · exact ⟨none, 0, by rw [he]⟩
    · exact ⟨_, _, rfl⟩
  exact ⟨A, c, rfl, hb⟩
set_option maxHeartbeats 1000000 in
set_option maxRecDepth 100000 in
theorem long5a (t : TxM) (w : World) (hok : t.p.ok) (ht : TxW t w) (hg : grtT t.p = false) : Calls Try.prog 5 #[.agg t.cs.toArray] w fun e w' => e = .returned (.bool true) ∧ Below w.heap.size w w' := by
  obtain ⟨ver, iv, ins, ov, outs, lock⟩ := t
  obtain ⟨A, c, B, d, e1, e2, hc, hd⟩ := ht.shape
  dsimp only at e1 e2 hc hd
  subst e1 e2
  dsimp only [TxM.cs]
  have HG := Lib.hid (show grtTI (TxM.p ⟨ver, .slice A ins.length c, ins, .slice B outs.length d, outs, lock⟩) = 1 by unfold grtTI; rw [hg]; rfl)
  have HS := Lib.hid ((St.start w).addF ht.away0)
  have HOK := Lib.hid hok
  clear ht hok hg
  go_enter Try.func5, Try.ntmps5
  go_wp2_with (first
    | (refine atd 1 (by rfl) ?_; refine wl (by rfl) (s_bx (l := [.int .u32 (ver : Int), .slice A ins.length c, .slice B outs.length d, .int .u32 (lock : Int)]) HS.out (by rfl) (by rfl) ?_); intro b1 Wn hS; clear HS; have HS := Lib.hid hS; clear hS)
    | (go_at_call 33; refine (alive33 _).mono ?_; rintro e Wn ⟨rfl, hb⟩; have hS := HS.out.call hb; clear hb; clear HS; have HS := Lib.hid hS; clear hS)
    | (refine atd 10 (by rfl) ?_; refine wl (by rfl) (s_lda (cs := [.int .u32 (ver : Int), .slice A ins.length c, .slice B outs.length d, .int .u32 (lock : Int)]) HS.out 0 4 (by rfl) (by rfl) (by rfl) ag55 (by rfl) (by rfl) ?_))
    | (go_at_call 34; refine (great34 ⟨ver, .slice A ins.length c, ins, .slice B outs.length d, outs, lock⟩ _ HOK.out (HS.out.fact (i := 0) rfl)).mono ?_; rintro e Wn ⟨rfl, hb⟩; rw [HG.out]; have hS := HS.out.call hb; clear hb; clear HS; have HS := Lib.hid hS; clear hS))
  go_ret
  exact ⟨rfl, HS.out.below⟩
set_option maxHeartbeats 1000000 in
set_option maxRecDepth 100000 in
theorem long5b (t : TxM) (w : World) (hok : t.p.ok) (ht : TxW t w) (hg : grtT t.p = true) (hc : chkT t.p = false) : Calls Try.prog 5 #[.agg t.cs.toArray] w fun e w' => e = .returned (.bool true) ∧ Below w.heap.size w w' := by
  obtain ⟨ver, iv, ins, ov, outs, lock⟩ := t
  obtain ⟨A, c, B, d, e1, e2, hc, hd⟩ := ht.shape
  dsimp only at e1 e2 hc hd
  subst e1 e2
  dsimp only [TxM.cs]
  have HG := Lib.hid (show grtTI (TxM.p ⟨ver, .slice A ins.length c, ins, .slice B outs.length d, outs, lock⟩) = 0 by unfold grtTI; rw [hg]; rfl)
  have HC := Lib.hid hc
  obtain ⟨⟨g1, g2⟩, g3, g4⟩ := grtT_iff.1 hg
  simp only [TxM.p, List.length_map] at g1 g2
  have HS := Lib.hid ((St.start w).addF ht.away0)
  have HOK := Lib.hid hok
  clear ht hok hg hc g3 g4
  go_enter Try.func5, Try.ntmps5
  go_wp2_with (first
    | (refine atd 1 (by rfl) ?_; refine wl (by rfl) (s_bx (l := [.int .u32 (ver : Int), .slice A ins.length c, .slice B outs.length d, .int .u32 (lock : Int)]) HS.out (by rfl) (by rfl) ?_); intro b1 Wn hS; clear HS; have HS := Lib.hid hS; clear hS)
    | (go_at_call 33; refine (alive33 _).mono ?_; rintro e Wn ⟨rfl, hb⟩; have hS := HS.out.call hb; clear hb; clear HS; have HS := Lib.hid hS; clear hS)
    | (refine atd 10 (by rfl) ?_; refine wl (by rfl) (s_lda (cs := [.int .u32 (ver : Int), .slice A ins.length c, .slice B outs.length d, .int .u32 (lock : Int)]) HS.out 0 4 (by rfl) (by rfl) (by rfl) ag55 (by rfl) (by rfl) ?_))
    | (go_at_call 34; refine (great34 ⟨ver, .slice A ins.length c, ins, .slice B outs.length d, outs, lock⟩ _ HOK.out (HS.out.fact (i := 0) rfl)).mono ?_; rintro e Wn ⟨rfl, hb⟩; rw [HG.out]; have hS := HS.out.call hb; clear hb; clear HS; have HS := Lib.hid hS; clear hS)
    | (refine atd 19 (by rfl) ?_; refine wl (by rfl) (s_lda (cs := [.int .u32 (ver : Int), .slice A ins.length c, .slice B outs.length d, .int .u32 (lock : Int)]) HS.out 0 4 (by rfl) (by rfl) (by rfl) ag55 (by rfl) (by rfl) ?_))
    | (go_at_call 35; refine (enc35_no ⟨ver, .slice A ins.length c, ins, .slice B outs.length d, outs, lock⟩ _ HOK.out (HS.out.fact (i := 0) rfl) (by dsimp only; omega) (by dsimp only; omega) HC.out).mono ?_; rintro e Wn ⟨rfl, hb⟩; have hS := HS.out.call hb; clear hb; clear HS; have HS := Lib.hid hS; clear hS))
  go_ret
  exact ⟨rfl, HS.out.below⟩
set_option maxHeartbeats 4000000 in
set_option maxRecDepth 100000 in
theorem long5c (t : TxM) (w : World) (hok : t.p.ok) (ht : TxW t w) (hg : grtT t.p = true) (hc : chkT t.p = true) : Calls Try.prog 5 #[.agg t.cs.toArray] w fun e w' => e = .returned (.bool true) ∧ Below w.heap.size w w' := by
  obtain ⟨ver, iv, ins, ov, outs, lock⟩ := t
  obtain ⟨A, c, B, d, e1, e2, hc, hd⟩ := ht.shape
  dsimp only at e1 e2 hc hd
  subst e1 e2
  dsimp only [TxM.cs]
  have HG := Lib.hid (show grtTI (TxM.p ⟨ver, .slice A ins.length c, ins, .slice B outs.length d, outs, lock⟩) = 0 by unfold grtTI; rw [hg]; rfl)
  have HC := Lib.hid hc
  obtain ⟨⟨g1, g2⟩, g3, g4⟩ := grtT_iff.1 hg
  simp only [TxM.p, List.length_map] at g1 g2
  have HS := Lib.hid ((St.start w).addF ht.away0)
  have HOK := Lib.hid hok
  have HG1 := Lib.hid g3; have HG2 := Lib.hid g4
  have g3' : ∀ x ∈ ins.map (·.2), x.s.length ≤ 2100 := g3
  have g4' : ∀ x ∈ outs.map (·.2), x.s.length ≤ 2100 := g4
  have HWL1 := Lib.hid (fun i => wI_le (ins := ins.map (·.2)) outs.length i (by simpa using g1) g3')
  have HWL2 := Lib.hid (fun i => wO_le (ins := ins.map (·.2)) (outs := outs.map (·.2)) i (by simpa using g1) g3' (by simpa using g2) g4')
  obtain ⟨N, hN⟩ : ∃ N, (txB (TxM.p ⟨ver, .slice A ins.length c, ins, .slice B outs.length d, outs, lock⟩)).length = N := ⟨_, rfl⟩
  have HN := Lib.hid hN
  have HF := Lib.hid (show wO (ins.map (·.2)) (outs.map (·.2)) outs.length = N by have := txB_len hok; rw [← hN, ← this]; simp [TxM.p])
  have HIO := Lib.hid (show wI (ins.map (·.2)) outs.length ins.length = wO (ins.map (·.2)) (outs.map (·.2)) 0 by simp [wO])
  have hz1 := compact9 ins.length; have hz2 := compact9 outs.length
  have HW0 := Lib.hid (show (Value.int .i64 (8 + (compact ins.length : Int) + (compact outs.length : Int))) = Value.int .i64 ((wI (ins.map (·.2)) outs.length 0 : Nat) : Int) by simp [wI])
  have u1 : IntKind.i64.wrap (8 + (compact ins.length : Int)) = 8 + (compact ins.length : Int) := by rw [IntKind.wrap_i64]; omega
  have u2 : IntKind.i64.wrap (8 + (compact ins.length : Int) + (compact outs.length : Int)) = 8 + (compact ins.length : Int) + (compact outs.length : Int) := by rw [IntKind.wrap_i64]; omega
  clear ht hok hg hc g3 g4 g3' g4' hN
  go_enter Try.func5, Try.ntmps5
  go_wp2_with (first
    | (refine atd 1 (by rfl) ?_; refine wl (by rfl) (s_bx (l := [.int .u32 (ver : Int), .slice A ins.length c, .slice B outs.length d, .int .u32 (lock : Int)]) HS.out (by rfl) (by rfl) ?_); intro b1 Wn hS; clear HS; have HS := Lib.hid hS; clear hS)
    | (go_at_call 33; refine (alive33 _).mono ?_; rintro e Wn ⟨rfl, hb⟩; have hS := HS.out.call hb; clear hb; clear HS; have HS := Lib.hid hS; clear hS)
    | (refine atd 10 (by rfl) ?_; refine wl (by rfl) (s_lda (cs := [.int .u32 (ver : Int), .slice A ins.length c, .slice B outs.length d, .int .u32 (lock : Int)]) HS.out 0 4 (by rfl) (by rfl) (by rfl) ag55 (by rfl) (by rfl) ?_))
    | (go_at_call 34; refine (great34 ⟨ver, .slice A ins.length c, ins, .slice B outs.length d, outs, lock⟩ _ HOK.out (HS.out.fact (i := 0) rfl)).mono ?_; rintro e Wn ⟨rfl, hb⟩; rw [HG.out]; have hS := HS.out.call hb; clear hb; clear HS; have HS := Lib.hid hS; clear hS)
    | (refine atd 19 (by rfl) ?_; refine wl (by rfl) (s_lda (cs := [.int .u32 (ver : Int), .slice A ins.length c, .slice B outs.length d, .int .u32 (lock : Int)]) HS.out 0 4 (by rfl) (by rfl) (by rfl) ag55 (by rfl) (by rfl) ?_))
    | (go_at_call 35; go_loud (refine (enc35_N ⟨ver, .slice A ins.length c, ins, .slice B outs.length d, outs, lock⟩ N _ HOK.out (HS.out.fact (i := 0) rfl) HC.out HN.out).mono ?_; rintro e Wn ⟨A1, c1, rfl, hb⟩); have hS := HS.out.take hb; clear hb; clear HS; have HS := Lib.hid hS; clear hS))
  refine wp_region_pi [(0, true), (1, true), (2, true), (5, true), (6, true), (7, true), (3, false), (4, true), (8, false), (9, true), (10, true)] (by kernel_rfl) (by kernel_rfl) rfl (by kernel_rfl) (fun _ _ _ _ _ h => h) (fun w' => St w w' [Row (.slice A1 N c1) 5 1 N (bs (txB (TxM.p ⟨ver, .slice A ins.length c, ins, .slice B outs.length d, outs, lock⟩))), Blk b1 [.int .u32 (ver : Int), .slice A ins.length c, .slice B outs.length d, .int .u32 (lock : Int)] 55] [TxW ⟨ver, .slice A ins.length c, ins, .slice B outs.length d, outs, lock⟩]) HS.out.drew ?_
  intro OPS hops
  have hS := HS.out.drew
  clear HS; have HS := Lib.hid hS; clear hS
  iterate 6
    first | (refine wpPi_yield _ (by rw [hops.out]; simp only [List.getElem?_toArray, List.getElem?_cons_succ, List.getElem?_cons_zero]; rfl) (by first | rfl | (rw [hops.out]; rfl)) (fun w' hS => by first | exact run_ld (by kernel_rfl) (by rfl) (by rfl) (hS.cell (i := 1) (k := 1) rfl (by rfl)) | exact run_ld (by kernel_rfl) (by rfl) (by rfl) (hS.cell (i := 1) (k := 2) rfl (by rfl)) | (go_simp; rfl)) ?_; simp only [Act.put, List.setIfInBounds_toArray, List.set_cons_succ, List.set_cons_zero]) | (refine wpPi_skip (by rw [hops.out]; simp only [List.getElem?_toArray, List.getElem?_cons_succ, List.getElem?_cons_zero]; rfl) (by first | rfl | (rw [hops.out]; rfl)) ?_; simp only [Act.put, List.setIfInBounds_toArray, List.set_cons_succ, List.set_cons_zero])
  refine wpPi_act (by rw [hops.out]; simp only [List.getElem?_toArray, List.getElem?_cons_succ, List.getElem?_cons_zero]; rfl) (by first | rfl | (rw [hops.out]; rfl)) ?_
  go_simp
  refine (size36 (ins.length) _ (by omega)).mono ?_
  rintro e Wn ⟨rfl, rfl⟩
  refine ⟨HS.out, ?_⟩
  try simp only [Act.put, List.setIfInBounds_toArray, List.set_cons_succ, List.set_cons_zero]
  iterate 1
    first | (refine wpPi_yield _ (by rw [hops.out]; simp only [List.getElem?_toArray, List.getElem?_cons_succ, List.getElem?_cons_zero]; rfl) (by first | rfl | (rw [hops.out]; rfl)) (fun w' hS => by first | exact run_ld (by kernel_rfl) (by rfl) (by rfl) (hS.cell (i := 1) (k := 1) rfl (by rfl)) | exact run_ld (by kernel_rfl) (by rfl) (by rfl) (hS.cell (i := 1) (k := 2) rfl (by rfl)) | (go_simp; rfl)) ?_; simp only [Act.put, List.setIfInBounds_toArray, List.set_cons_succ, List.set_cons_zero]) | (refine wpPi_skip (by rw [hops.out]; simp only [List.getElem?_toArray, List.getElem?_cons_succ, List.getElem?_cons_zero]; rfl) (by first | rfl | (rw [hops.out]; rfl)) ?_; simp only [Act.put, List.setIfInBounds_toArray, List.set_cons_succ, List.set_cons_zero])
  refine wpPi_act (by rw [hops.out]; simp only [List.getElem?_toArray, List.getElem?_cons_succ, List.getElem?_cons_zero]; rfl) (by first | rfl | (rw [hops.out]; rfl)) ?_
  go_simp
  refine (size36 (outs.length) _ (by omega)).mono ?_
  rintro e Wn ⟨rfl, rfl⟩
  refine ⟨HS.out, ?_⟩
  try simp only [Act.put, List.setIfInBounds_toArray, List.set_cons_succ, List.set_cons_zero]
  iterate 2
    first | (refine wpPi_yield _ (by rw [hops.out]; simp only [List.getElem?_toArray, List.getElem?_cons_succ, List.getElem?_cons_zero]; rfl) (by first | rfl | (rw [hops.out]; rfl)) (fun w' hS => by first | exact run_ld (by kernel_rfl) (by rfl) (by rfl) (hS.cell (i := 1) (k := 1) rfl (by rfl)) | exact run_ld (by kernel_rfl) (by rfl) (by rfl) (hS.cell (i := 1) (k := 2) rfl (by rfl)) | (go_simp; rfl)) ?_; simp only [Act.put, List.setIfInBounds_toArray, List.set_cons_succ, List.set_cons_zero]) | (refine wpPi_skip (by rw [hops.out]; simp only [List.getElem?_toArray, List.getElem?_cons_succ, List.getElem?_cons_zero]; rfl) (by first | rfl | (rw [hops.out]; rfl)) ?_; simp only [Act.put, List.setIfInBounds_toArray, List.set_cons_succ, List.set_cons_zero])
  simp only [wpPi]
  clear OPS hops
  go_wp2_with (first
    | (refine atd 42 (by rfl) ?_; refine wl (by rfl) (s_ld HS.out 1 (by rfl) (by rfl) (by rfl) (by kernel_rfl) (by rfl) ?_)))
  go_loopw [6, 44] (fun s6 s44 wr => ∃ (i : Nat), i ≤ ins.length ∧ s44 = .int .i64 (i : Int) ∧ s6 = .int .i64 (wI (ins.map (·.2)) outs.length i : Int) ∧ St w wr [Row (.slice A1 N c1) 5 1 N (bs (txB (TxM.p ⟨ver, .slice A ins.length c, ins, .slice B outs.length d, outs, lock⟩))), Blk b1 [.int .u32 (ver : Int), .slice A ins.length c, .slice B outs.length d, .int .u32 (lock : Int)] 55] [TxW ⟨ver, .slice A ins.length c, ins, .slice B outs.length d, outs, lock⟩]) (fun s6 s44 _ => ins.length - (intOf s44).toNat)
  case atStart => exact ⟨0, by omega, rfl, HW0.out, HS.out⟩
  case round =>
    obtain ⟨i, hi, rfl, rfl, hs⟩ := hrel
    clear HS
    have HS := Lib.hid hs
    clear hs
    by_cases hlt : i < ins.length
    · have hli : ins[i]? = some ins[i] := List.getElem?_eq_getElem hlt
      have htw := HS.out.fact (i := 0) rfl
      obtain ⟨bb, o, rfl⟩ := htw.in_b rfl hlt
      generalize ins[i] = x at hli
      have hr := htw.in_at rfl hli
      obtain ⟨xv, y⟩ := x
      obtain ⟨Ap, cp, exv, _⟩ := (htw.is _ (List.mem_of_getElem? hli)).shape
      dsimp only at exv
      subst exv
      have HLI := Lib.hid hli
      have hys := HG1.out y (List.mem_map_of_mem (f := (·.2)) (List.mem_of_getElem? hli))
      have hwl := HWL1.out i
      have hco := compact9 y.s.length
      have j1 : (i : Int) < (ins.length : Int) := by omega
      obtain ⟨x1, hx1⟩ : ∃ x1, x1 = wI (ins.map (·.2)) outs.length i := ⟨_, rfl⟩
      have HX1 := Lib.hid hx1
      rw [← hx1] at hwl
      rw [← hx1]
      clear hr htw hli hx1
      have w1 : IntKind.i64.wrap ((x1 : Int) + 40) = (x1 : Int) + 40 := by rw [IntKind.wrap_i64]; omega
      have w2 : IntKind.i64.wrap ((x1 : Int) + 40 + (compact y.s.length : Int)) = (x1 : Int) + 40 + (compact y.s.length : Int) := by rw [IntKind.wrap_i64]; omega
      have w3 : IntKind.i64.wrap ((x1 : Int) + 40 + (compact y.s.length : Int) + (y.s.length : Int)) = (x1 : Int) + 40 + (compact y.s.length : Int) + (y.s.length : Int) := by rw [IntKind.wrap_i64]; omega
      go_wp2_with fail
      refine wp_region_pi [(0, true), (1, true), (2, true), (3, true), (4, true), (5, true), (6, true), (7, true), (8, true), (11, true), (12, true), (13, true), (14, true), (15, true), (16, true), (17, true), (9, false), (10, true), (18, true), (19, true)] (by kernel_rfl) (by kernel_rfl) rfl (by kernel_rfl) (fun _ _ _ _ _ h => h) (fun w' => St w w' [Row (.slice A1 N c1) 5 1 N (bs (txB (TxM.p ⟨ver, .slice (some ⟨bb, o, none⟩) ins.length c, ins, .slice B outs.length d, outs, lock⟩))), Blk b1 [.int .u32 (ver : Int), .slice (some ⟨bb, o, none⟩) ins.length c, .slice B outs.length d, .int .u32 (lock : Int)] 55] [TxW ⟨ver, .slice (some ⟨bb, o, none⟩) ins.length c, ins, .slice B outs.length d, outs, lock⟩]) HS.out.drew ?_
      intro OPS hops
      have hS := HS.out.drew
      clear HS; have HS := Lib.hid hS; clear hS
      iterate 16
        first | (refine wpPi_yield _ (by rw [hops.out]; simp only [List.getElem?_toArray, List.getElem?_cons_succ, List.getElem?_cons_zero]; rfl) (by first | rfl | (rw [hops.out]; rfl)) (fun w' hS => by first | exact run_ld (by kernel_rfl) (by rfl) (by rfl) (hS.cell (i := 1) (k := 1) rfl (by rfl)) | exact run_ld (by kernel_rfl) (by rfl) (by rfl) (hS.cell (i := 1) (k := 2) rfl (by rfl)) | exact run_ld (by kernel_rfl) (by rfl) (by rfl) (TxW.in_s (t := ⟨ver, .slice (some ⟨bb, o, none⟩) ins.length c, ins, .slice B outs.length d, outs, lock⟩) (hS.fact (i := 0) rfl) HOK.out rfl HLI.out) | (go_simp; rfl)) ?_; simp only [Act.put, List.setIfInBounds_toArray, List.set_cons_succ, List.set_cons_zero]) | (refine wpPi_skip (by rw [hops.out]; simp only [List.getElem?_toArray, List.getElem?_cons_succ, List.getElem?_cons_zero]; rfl) (by first | rfl | (rw [hops.out]; rfl)) ?_; simp only [Act.put, List.setIfInBounds_toArray, List.set_cons_succ, List.set_cons_zero])
      refine wpPi_act (by rw [hops.out]; simp only [List.getElem?_toArray, List.getElem?_cons_succ, List.getElem?_cons_zero]; rfl) (by first | rfl | (rw [hops.out]; rfl)) ?_
      go_simp
      refine (size36 (y.s.length) _ (by omega)).mono ?_
      rintro e Wn ⟨rfl, rfl⟩
      refine ⟨HS.out, ?_⟩
      try simp only [Act.put, List.setIfInBounds_toArray, List.set_cons_succ, List.set_cons_zero]
      iterate 3
        first | (refine wpPi_yield _ (by rw [hops.out]; simp only [List.getElem?_toArray, List.getElem?_cons_succ, List.getElem?_cons_zero]; rfl) (by first | rfl | (rw [hops.out]; rfl)) (fun w' hS => by first | exact run_ld (by kernel_rfl) (by rfl) (by rfl) (hS.cell (i := 1) (k := 1) rfl (by rfl)) | exact run_ld (by kernel_rfl) (by rfl) (by rfl) (hS.cell (i := 1) (k := 2) rfl (by rfl)) | exact run_ld (by kernel_rfl) (by rfl) (by rfl) (TxW.in_s (t := ⟨ver, .slice (some ⟨bb, o, none⟩) ins.length c, ins, .slice B outs.length d, outs, lock⟩) (hS.fact (i := 0) rfl) HOK.out rfl HLI.out) | (go_simp; rfl)) ?_; simp only [Act.put, List.setIfInBounds_toArray, List.set_cons_succ, List.set_cons_zero]) | (refine wpPi_skip (by rw [hops.out]; simp only [List.getElem?_toArray, List.getElem?_cons_succ, List.getElem?_cons_zero]; rfl) (by first | rfl | (rw [hops.out]; rfl)) ?_; simp only [Act.put, List.setIfInBounds_toArray, List.set_cons_succ, List.set_cons_zero])
      simp only [wpPi]
      clear OPS hops
      go_wp2_with fail
      exact ⟨⟨i + 1, by omega, by push_cast; rfl, by rw [wI_snoc HLI.out, ← HX1.out]; push_cast; rfl, HS.out⟩, by simp [intOf]; omega⟩
    · have j1 : ¬ (i : Int) < (ins.length : Int) := by omega
      obtain rfl : i = ins.length := by omega
      clear hlt
      rw [HIO.out]
      go_wp2_with (first
        | (refine atd 68 (by rfl) ?_; refine wl (by rfl) (s_ld HS.out 1 (by rfl) (by rfl) (by rfl) (by kernel_rfl) (by rfl) ?_)))
      go_loopw [6, 70] (fun s6 s70 wr => ∃ (i : Nat), i ≤ outs.length ∧ s70 = .int .i64 (i : Int) ∧ s6 = .int .i64 (wO (ins.map (·.2)) (outs.map (·.2)) i : Int) ∧ St w wr [Row (.slice A1 N c1) 5 1 N (bs (txB (TxM.p ⟨ver, .slice A ins.length c, ins, .slice B outs.length d, outs, lock⟩))), Blk b1 [.int .u32 (ver : Int), .slice A ins.length c, .slice B outs.length d, .int .u32 (lock : Int)] 55] [TxW ⟨ver, .slice A ins.length c, ins, .slice B outs.length d, outs, lock⟩]) (fun s6 s70 _ => outs.length - (intOf s70).toNat)
      case atStart => exact ⟨0, by omega, rfl, rfl, HS.out⟩
      case round =>
        obtain ⟨i, hi, rfl, rfl, hs⟩ := hrel
        clear HS
        have HS := Lib.hid hs
        clear hs
        by_cases hlt : i < outs.length
        · have hli : outs[i]? = some outs[i] := List.getElem?_eq_getElem hlt
          have htw := HS.out.fact (i := 0) rfl
          obtain ⟨bb, o, rfl⟩ := htw.out_b rfl hlt
          generalize outs[i] = x at hli
          have hr := htw.out_at rfl hli
          obtain ⟨xv, y⟩ := x
          obtain ⟨Ap, cp, exv, _⟩ := (htw.os _ (List.mem_of_getElem? hli)).shape
          dsimp only at exv
          subst exv
          have HLI := Lib.hid hli
          have hys := HG2.out y (List.mem_map_of_mem (f := (·.2)) (List.mem_of_getElem? hli))
          have hwl := HWL2.out i
          have hco := compact9 y.s.length
          have j1 : (i : Int) < (outs.length : Int) := by omega
          obtain ⟨x1, hx1⟩ : ∃ x1, x1 = wO (ins.map (·.2)) (outs.map (·.2)) i := ⟨_, rfl⟩
          have HX1 := Lib.hid hx1
          rw [← hx1] at hwl
          rw [← hx1]
          clear hr htw hli hx1
          have w1 : IntKind.i64.wrap ((x1 : Int) + 8) = (x1 : Int) + 8 := by rw [IntKind.wrap_i64]; omega
          have w2 : IntKind.i64.wrap ((x1 : Int) + 8 + (compact y.s.length : Int)) = (x1 : Int) + 8 + (compact y.s.length : Int) := by rw [IntKind.wrap_i64]; omega
          have w3 : IntKind.i64.wrap ((x1 : Int) + 8 + (compact y.s.length : Int) + (y.s.length : Int)) = (x1 : Int) + 8 + (compact y.s.length : Int) + (y.s.length : Int) := by rw [IntKind.wrap_i64]; omega
          go_wp2_with fail
          refine wp_region_pi [(0, true), (1, true), (2, true), (3, true), (4, true), (5, true), (6, true), (7, true), (8, true), (11, true), (12, true), (13, true), (14, true), (15, true), (16, true), (17, true), (9, false), (10, true), (18, true), (19, true)] (by kernel_rfl) (by kernel_rfl) rfl (by kernel_rfl) (fun _ _ _ _ _ h => h) (fun w' => St w w' [Row (.slice A1 N c1) 5 1 N (bs (txB (TxM.p ⟨ver, .slice A ins.length c, ins, .slice (some ⟨bb, o, none⟩) outs.length d, outs, lock⟩))), Blk b1 [.int .u32 (ver : Int), .slice A ins.length c, .slice (some ⟨bb, o, none⟩) outs.length d, .int .u32 (lock : Int)] 55] [TxW ⟨ver, .slice A ins.length c, ins, .slice (some ⟨bb, o, none⟩) outs.length d, outs, lock⟩]) HS.out.drew ?_
          intro OPS hops
          have hS := HS.out.drew
          clear HS; have HS := Lib.hid hS; clear hS
          iterate 16
            first | (refine wpPi_yield _ (by rw [hops.out]; simp only [List.getElem?_toArray, List.getElem?_cons_succ, List.getElem?_cons_zero]; rfl) (by first | rfl | (rw [hops.out]; rfl)) (fun w' hS => by first | exact run_ld (by kernel_rfl) (by rfl) (by rfl) (hS.cell (i := 1) (k := 1) rfl (by rfl)) | exact run_ld (by kernel_rfl) (by rfl) (by rfl) (hS.cell (i := 1) (k := 2) rfl (by rfl)) | exact run_ld (by kernel_rfl) (by rfl) (by rfl) (TxW.out_s (t := ⟨ver, .slice A ins.length c, ins, .slice (some ⟨bb, o, none⟩) outs.length d, outs, lock⟩) (hS.fact (i := 0) rfl) rfl HLI.out) | (go_simp; rfl)) ?_; simp only [Act.put, List.setIfInBounds_toArray, List.set_cons_succ, List.set_cons_zero]) | (refine wpPi_skip (by rw [hops.out]; simp only [List.getElem?_toArray, List.getElem?_cons_succ, List.getElem?_cons_zero]; rfl) (by first | rfl | (rw [hops.out]; rfl)) ?_; simp only [Act.put, List.setIfInBounds_toArray, List.set_cons_succ, List.set_cons_zero])
          refine wpPi_act (by rw [hops.out]; simp only [List.getElem?_toArray, List.getElem?_cons_succ, List.getElem?_cons_zero]; rfl) (by first | rfl | (rw [hops.out]; rfl)) ?_
          go_simp
          refine (size36 (y.s.length) _ (by omega)).mono ?_
          rintro e Wn ⟨rfl, rfl⟩
          refine ⟨HS.out, ?_⟩
          try simp only [Act.put, List.setIfInBounds_toArray, List.set_cons_succ, List.set_cons_zero]
          iterate 3
            first | (refine wpPi_yield _ (by rw [hops.out]; simp only [List.getElem?_toArray, List.getElem?_cons_succ, List.getElem?_cons_zero]; rfl) (by first | rfl | (rw [hops.out]; rfl)) (fun w' hS => by first | exact run_ld (by kernel_rfl) (by rfl) (by rfl) (hS.cell (i := 1) (k := 1) rfl (by rfl)) | exact run_ld (by kernel_rfl) (by rfl) (by rfl) (hS.cell (i := 1) (k := 2) rfl (by rfl)) | exact run_ld (by kernel_rfl) (by rfl) (by rfl) (TxW.out_s (t := ⟨ver, .slice A ins.length c, ins, .slice (some ⟨bb, o, none⟩) outs.length d, outs, lock⟩) (hS.fact (i := 0) rfl) rfl HLI.out) | (go_simp; rfl)) ?_; simp only [Act.put, List.setIfInBounds_toArray, List.set_cons_succ, List.set_cons_zero]) | (refine wpPi_skip (by rw [hops.out]; simp only [List.getElem?_toArray, List.getElem?_cons_succ, List.getElem?_cons_zero]; rfl) (by first | rfl | (rw [hops.out]; rfl)) ?_; simp only [Act.put, List.setIfInBounds_toArray, List.set_cons_succ, List.set_cons_zero])
          simp only [wpPi]
          clear OPS hops
          go_wp2_with fail
          exact ⟨⟨i + 1, by omega, by push_cast; rfl, by rw [wO_snoc HLI.out, ← HX1.out]; push_cast; rfl, HS.out⟩, by simp [intOf]; omega⟩
        · have j1 : ¬ (i : Int) < (outs.length : Int) := by omega
          obtain rfl : i = outs.length := by omega
          clear hlt
          rw [HF.out]
          go_wp2_with fail
          go_ret
          exact ⟨rfl, HS.out.below⟩
theorem long5 (t : TxM) (w : World) (hok : t.p.ok) (ht : TxW t w) : Calls Try.prog 5 #[.agg t.cs.toArray] w fun e w' => e = .returned (.bool true) ∧ Below w.heap.size w w' := by
  cases hg : grtT t.p with
  | false => exact long5a t w hok ht hg
  | true =>
    cases hc : chkT t.p with
    | false => exact long5b t w hok ht hg hc
    | true => exact long5c t w hok ht hg hc
end
section
open Go Go.RowKit Go.Proofs Go.ChangeShapes
/-! A transaction that came in. -/
theorem oc5 : Try.prog.cellsOf 5 = 1 := by kernel_rfl
theorem oc2 : Try.prog.cellsOf 2 = 1 := by kernel_rfl
theorem oc23 : Try.prog.cellsOf 23 = 32 := by kernel_rfl
theorem oc28 : Try.prog.cellsOf 28 = 1 := by kernel_rfl
theorem oc42 : Try.prog.cellsOf 42 = 1 := by kernel_rfl
theorem oc44 : Try.prog.cellsOf 44 = 33 := by kernel_rfl
theorem oc52 : Try.prog.cellsOf 52 = 1 := by kernel_rfl
theorem oc53 : Try.prog.cellsOf 53 = 1 := by kernel_rfl
theorem oc55 : Try.prog.cellsOf 55 = 4 := by kernel_rfl
theorem oc66 : Try.prog.cellsOf 66 = 35 := by kernel_rfl
theorem oc68 : Try.prog.cellsOf 68 = 2 := by kernel_rfl
theorem u8_of {w : World} {cs : List Value} (g : Rd Try.prog w 5 cs) : ∃ x : UInt8, cs = [.int .u8 (x.toNat : Int)] := by
  obtain ⟨n, rfl, hw⟩ := g.int Try.underlying5
  have hb : 0 ≤ n ∧ n < 256 := by simp [Lit.wf, IntKind.min, IntKind.max, IntKind.signed, IntKind.bits] at hw; omega
  refine ⟨UInt8.ofNat n.toNat, ?_⟩
  simp
  omega
theorem u32_of {w : World} {cs : List Value} (g : Rd Try.prog w 42 cs) : ∃ n : Nat, cs = [.int .u32 (n : Int)] ∧ n < 4294967296 := by
  obtain ⟨n, rfl, hw⟩ := g.int (k := .u32) (by kernel_rfl)
  have hb : 0 ≤ n ∧ n < 4294967296 := by simp [Lit.wf, IntKind.min, IntKind.max, IntKind.signed, IntKind.bits] at hw; omega
  refine ⟨n.toNat, ?_, by omega⟩
  rw [Int.toNat_of_nonneg hb.1]
theorem i64_of {w : World} {cs : List Value} (g : Rd Try.prog w 2 cs) : ∃ n : Int, cs = [.int .i64 n] ∧ -9223372036854775808 ≤ n ∧ n ≤ 9223372036854775807 := by
  obtain ⟨n, rfl, hw⟩ := g.int (k := .i64) (by kernel_rfl)
  refine ⟨n, rfl, ?_⟩
  simp [Lit.wf, IntKind.min, IntKind.max, IntKind.signed, IntKind.bits] at hw; omega
theorem hash_of {w : World} {cs : List Value} (g : Rd Try.prog w 23 cs) : ∃ xs : List UInt8, xs.length = 32 ∧ cs = bs xs := by
  obtain ⟨hl, h⟩ := g.array (n := 32) (e := 5) (by kernel_rfl)
  rw [oc23] at hl
  obtain ⟨xs, hxl, hx⟩ := list_of (n := 32) (p := fun i (b : UInt8) => cs[i]? = some (.int .u8 (b.toNat : Int))) (fun i hi => by
    have hr := h i hi
    rw [oc5, Nat.mul_one] at hr
    obtain ⟨x, hx⟩ := u8_of hr
    refine ⟨x, ?_⟩
    have := congrArg (·[0]?) hx
    simpa [List.getElem?_take, List.getElem?_drop] using this)
  refine ⟨xs, hxl, ?_⟩
  apply List.ext_getElem?
  intro i
  by_cases hi : i < 32
  · have h1 : xs[i]? = some xs[i] := List.getElem?_eq_getElem (by omega)
    rw [hx i _ h1]
    simp [bs, h1]
  · rw [List.getElem?_eq_none (by omega), List.getElem?_eq_none (by simp; omega)]
theorem cut_next (l : List Value) (a n : Nat) : l.drop a = (l.drop a).take n ++ l.drop (a + n) := by
  rw [← List.drop_drop, List.take_append_drop]
theorem in_of {w : World} {cs : List Value} (g : Rd Try.prog w 66 cs) : ∃ x : Value × TIn, cs = inC x ∧ x.2.ok ∧ HB w x.1 x.2.s := by
  obtain ⟨hl, hf⟩ := g.struct Try.underlying66
  rw [oc66] at hl
  have f0 := hf _ (List.mem_cons_self ..)
  have f1 := hf _ (List.mem_cons_of_mem _ (List.mem_cons_self ..))
  have f2 := hf _ (List.mem_cons_of_mem _ (List.mem_cons_of_mem _ (List.mem_cons_self ..)))
  clear hf
  simp only [oc44, oc28, oc42] at f0 f1 f2
  obtain ⟨_, hp⟩ := f0.struct Try.underlying44
  have p0 := hp _ (List.mem_cons_self ..)
  have p1 := hp _ (List.mem_cons_of_mem _ (List.mem_cons_self ..))
  clear hp
  simp only [oc23, oc42] at p0 p1
  obtain ⟨tx, htl, htx⟩ := hash_of p0
  obtain ⟨n, hn, hn2⟩ := u32_of p1
  obtain ⟨s, sb, hs, hsb⟩ := hbd_of f1
  obtain ⟨q, hq, hq2⟩ := u32_of f2
  refine ⟨(s, ⟨tx, n, sb, q⟩), ?_, ⟨htl, hn2, hq2⟩, hsb⟩
  have h33 : ((cs.drop 0).take 33).length = 33 := by rw [List.length_take, List.length_drop, hl]; rfl
  have e1 : (cs.drop 0).take 33 = bs tx ++ [.int .u32 (n : Int)] := by
    rw [← htx, ← hn]
    have e : ((cs.drop 0).take 33).drop 32 = (((cs.drop 0).take 33).drop 32).take 1 := (List.take_of_length_le (by rw [List.length_drop, h33]; decide)).symm
    show _ = List.take 32 (List.drop 0 ((cs.drop 0).take 33)) ++ List.take 1 (List.drop 32 ((cs.drop 0).take 33))
    rw [← e, List.drop_zero (l := (cs.drop 0).take 33), List.take_append_drop]
  have e : cs = (cs.drop 0).take 33 ++ ((cs.drop 33).take 1 ++ ((cs.drop 34).take 1 ++ [])) := by
    have z : ([] : List Value) = cs.drop 35 := (List.drop_of_length_le (by omega)).symm
    rw [z, ← cut_next cs 34 1, ← cut_next cs 33 1, ← cut_next cs 0 33]
    rfl
  rw [e, e1]
  have g1 : (cs.drop 33).take 1 = [s] := hs
  have g2 : (cs.drop 34).take 1 = [.int .u32 (q : Int)] := hq
  rw [g1, g2]
  simp [inC]
theorem out_of {w : World} {cs : List Value} (g : Rd Try.prog w 68 cs) : ∃ x : Value × TOut, cs = outC x ∧ x.2.ok ∧ HB w x.1 x.2.s := by
  obtain ⟨hl, hf⟩ := g.struct Try.underlying68
  rw [oc68] at hl
  have f0 := hf _ (List.mem_cons_self ..)
  have f1 := hf _ (List.mem_cons_of_mem _ (List.mem_cons_self ..))
  clear hf
  simp only [oc2, oc28] at f0 f1
  obtain ⟨v, hv, hv2⟩ := i64_of f0
  obtain ⟨s, sb, hs, hsb⟩ := hbd_of f1
  refine ⟨(s, ⟨v, sb⟩), ?_, hv2, hsb⟩
  have e : cs = (cs.drop 0).take 1 ++ ((cs.drop 1).take 1 ++ []) := by
    have z : ([] : List Value) = cs.drop 2 := (List.drop_of_length_le (by omega)).symm
    rw [z, ← cut_next cs 1 1, ← cut_next cs 0 1]
    rfl
  rw [e]
  have g0 : (cs.drop 0).take 1 = [.int .i64 v] := hv
  have g1 : (cs.drop 1).take 1 = [s] := hs
  rw [g0, g1]
  rfl
theorem spot_of {w : World} {x : Addr} {v : Value} (h : w.cell? x = some v) : x = ⟨x.block, x.off, none⟩ := by
  obtain ⟨b, o, s⟩ := x
  unfold World.cell? at h
  split at h
  · cases s with
    | none => rfl
    | some s => simp at h
  · cases h
theorem add_add (a : Addr) (m j : Nat) : (a.add m).add j = a.add (m + j) := by
  unfold Addr.add
  by_cases h1 : m = 0
  · subst h1; simp
  · by_cases h2 : j = 0
    · subst h2; simp
    · have : m + j ≠ 0 := by omega
      simp [h1, h2, Nat.add_assoc]
theorem slc_of {α : Type} {w : World} {T E : TypeId} {s : Nat} {C : α → List Value} {p : α → Prop} (hT : Try.prog.underlying T = some (.slice E)) (hE : Try.prog.cellsOf E = s) (hs : 0 < s) (of : ∀ cs, Rd Try.prog w E cs → ∃ x, cs = C x ∧ p x) {cs : List Value} (g : Rd Try.prog w T cs) : ∃ (v : Value) (l : List α), cs = [v] ∧ SLc w v s (l.map C) ∧ ∀ x ∈ l, p x := by
  obtain ⟨a, len, cap, rfl, h⟩ := g.slice hT
  refine ⟨.slice a len cap, ?_⟩
  rcases h with ⟨rfl, rfl, rfl⟩ | ⟨x, rfl, hl, hml, hc⟩
  · exact ⟨[], rfl, ⟨none, 0, rfl, Nat.le_refl _, fun _ => rfl, fun a ha => by cases ha⟩, fun x hx => (nomatch hx)⟩
  · obtain ⟨ds, hdl, hd⟩ := list_of (n := len) (p := fun i (d : α) => (C d).length = s ∧ (∀ j u, (C d)[j]? = some u → w.cell? (x.add (i * s + j)) = some u) ∧ p d) (fun i hi => by
      obtain ⟨cs, hcs, hr⟩ := hc i (by omega)
      rw [hE] at hcs
      obtain ⟨hlen, hcell⟩ := cells_spec hcs
      obtain ⟨d, rfl, hp⟩ := of _ hr
      refine ⟨d, hlen, fun j u hj => ?_, hp⟩
      have hj2 : j < s := by rw [← hlen]; exact (List.getElem?_eq_some_iff.1 hj).1
      rw [← add_add, hcell j hj2, hj])
    refine ⟨ds, rfl, ⟨some x, cap, by rw [List.length_map, hdl], by rw [List.length_map]; omega, (fun e => by cases e), fun a ha i d hi => ?_⟩, fun y hy => by
      obtain ⟨i, hi, rfl⟩ := List.mem_iff_getElem.1 hy
      exact (hd i _ (List.getElem?_eq_getElem hi)).2.2⟩
    injection ha with ha
    subst ha
    rw [List.getElem?_map] at hi
    obtain ⟨y, hy, rfl⟩ := Option.map_eq_some_iff.1 hi
    obtain ⟨hyl, c1, _⟩ := hd i y hy
    have h0 : 0 < ds.length := by have := (List.getElem?_eq_some_iff.1 hy).1; omega
    obtain ⟨z0, z1, _⟩ := hd 0 _ (List.getElem?_eq_getElem h0)
    have z2 := z1 0 _ (List.getElem?_eq_getElem (by omega))
    rw [Nat.zero_mul, addr0] at z2
    exact ⟨spot_of z2, c1⟩
theorem tx_of {w : World} {cs : List Value} (g : Rd Try.prog w 55 cs) : ∃ t : TxM, cs = t.cs ∧ t.p.ok ∧ TxW t w := by
  obtain ⟨hl, hf⟩ := g.struct Try.underlying55
  rw [oc55] at hl
  have f0 := hf _ (List.mem_cons_self ..)
  have f1 := hf _ (List.mem_cons_of_mem _ (List.mem_cons_self ..))
  have f2 := hf _ (List.mem_cons_of_mem _ (List.mem_cons_of_mem _ (List.mem_cons_self ..)))
  have f3 := hf _ (List.mem_cons_of_mem _ (List.mem_cons_of_mem _ (List.mem_cons_of_mem _ (List.mem_cons_self ..))))
  clear hf
  simp only [oc42, oc52, oc53] at f0 f1 f2 f3
  obtain ⟨ver, h0, hv⟩ := u32_of f0
  obtain ⟨iv, ins, h1, hi, hip⟩ := slc_of (C := inC) (p := fun x => x.2.ok ∧ HB w x.1 x.2.s) Try.underlying52 oc66 (by decide) (fun cs h => in_of h) f1
  obtain ⟨ov, outs, h2, ho, hop⟩ := slc_of (C := outC) (p := fun x => x.2.ok ∧ HB w x.1 x.2.s) Try.underlying53 oc68 (by decide) (fun cs h => out_of h) f2
  obtain ⟨lock, h3, hk⟩ := u32_of f3
  refine ⟨⟨ver, iv, ins, ov, outs, lock⟩, ?_, ⟨hv, hk, fun x hx => by obtain ⟨y, hy, rfl⟩ := List.mem_map.1 hx; exact (hip y hy).1, fun x hx => by obtain ⟨y, hy, rfl⟩ := List.mem_map.1 hx; exact (hop y hy).1⟩, ⟨hi, ho, fun x hx => (hip x hx).2, fun x hx => (hop x hx).2⟩⟩
  have e : cs = (cs.drop 0).take 1 ++ ((cs.drop 1).take 1 ++ ((cs.drop 2).take 1 ++ ((cs.drop 3).take 1 ++ []))) := by
    have z : ([] : List Value) = cs.drop 4 := (List.drop_of_length_le (by omega)).symm
    rw [z, ← cut_next cs 3 1, ← cut_next cs 2 1, ← cut_next cs 1 1, ← cut_next cs 0 1]
    rfl
  rw [e]
  have g0 : (cs.drop 0).take 1 = [.int .u32 (ver : Int)] := h0
  have g1 : (cs.drop 1).take 1 = [iv] := h1
  have g2 : (cs.drop 2).take 1 = [ov] := h2
  have g3 : (cs.drop 3).take 1 = [.int .u32 (lock : Int)] := h3
  rw [g0, g1, g2, g3]
  rfl
end
end Go.Proofs.Yteljmpoaggfliaa
