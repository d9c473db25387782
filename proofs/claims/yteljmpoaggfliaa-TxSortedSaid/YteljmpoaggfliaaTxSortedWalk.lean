/- Contracts and words that the laws stand on (TxSortedWalk). -/
import Derived.Test.YteljmpoaggfliaaTxF
import Derived.Test.YteljmpoaggfliaaTxE
set_option linter.unusedVariables false
set_option linter.unusedSimpArgs false
namespace Go.Proofs.Yteljmpoaggfliaa
section
open Go Go.RowKit Go.Proofs
attribute [local go_sem] Oper.semAt_some
attribute [local irreducible] Calls

set_option maxHeartbeats 1000000 in
set_option maxRecDepth 100000 in
theorem sorted8_mmms (xs ys zs : List UInt8) (nxs nys nzs : Int) (w : World) (hx : xs.length = 32) (hy : ys.length = 32) (hz : zs.length = 32) (h1 : O (xs, nxs) (ys, nys) = -1) (h2 : O (ys, nys) (zs, nzs) = -1) (h3 : O (xs, nxs) (zs, nzs) = -1) (hxy : xs = ys) (hn : nxs < nys) :
    Calls Try.prog 8 #[.agg (bs xs ++ [Value.int .u32 nxs]).toArray, .agg (bs ys ++ [Value.int .u32 nys]).toArray, .agg (bs zs ++ [Value.int .u32 nzs]).toArray] w fun e w' => e = .returned (.bool true) ∧ Below w.heap.size w w' := by
  have HS := Lib.hid (St.start w)
  have HX := Lib.hid hx; have HY := Lib.hid hy; have HZ := Lib.hid hz
  have H1 := Lib.hid h1; have H2 := Lib.hid h2; have H3 := Lib.hid h3
  have H4 := Lib.hid (show O (ys, nys) (xs, nxs) = 1 by have h := O_neg (xs, nxs) (ys, nys); omega)
  have hq : ∀ W, (Op.equalIn 10000 23 (.agg (bs xs).toArray) (.agg (bs ys).toArray)).run Try.prog W = .ok true W := fun W => by
    have := eqH 9998 xs ys hx hy W
    rwa [decide_eq_true hxy] at this
  have hq0 : ∀ W, (Op.equalIn 9999 23 (.agg (List.take 32 (bs xs ++ [Value.int .u32 nxs])).toArray) (.agg (List.take 32 (bs ys ++ [Value.int .u32 nys])).toArray)).run Try.prog W = .ok true W := fun W => by
    rw [take_pt _ _ hx, take_pt _ _ hy]
    have := eqH 9997 xs ys hx hy W
    rwa [decide_eq_true hxy] at this
  have p1 := pt_32 xs nxs hx
  have p2 := pt_32 ys nys hy
  have k1 : nxs < nys := hn
  have k2 : (nxs == nys) = false := by rw [beq_eq_false_iff_ne]; omega
  clear hx hy hz h1 h2 h3 hxy hn
  go_enter Try.func8, Try.ntmps8
  go_wp2_with (first
    | (refine atd 3 (by rfl) ?_; refine wl (by rfl) (s_bx (l := bs xs ++ [Value.int .u32 nxs]) HS.out (by rfl) (by rfl) ?_); intro b3 Wn hS; clear HS; have HS := Lib.hid hS; clear hS)
    | (refine atd 4 (by rfl) ?_; refine wl (by rfl) (s_bx (l := bs ys ++ [Value.int .u32 nys]) HS.out (by rfl) (by rfl) ?_); intro b4 Wn hS; clear HS; have HS := Lib.hid hS; clear hS)
    | (refine atd 5 (by rfl) ?_; refine wl (by rfl) (s_bx (l := bs zs ++ [Value.int .u32 nzs]) HS.out (by rfl) (by rfl) ?_); intro b5 Wn hS; clear HS; have HS := Lib.hid hS; clear hS)
    | (go_at_call 33; refine (alive33 _).mono ?_; rintro e Wn ⟨rfl, hb⟩; have hS := HS.out.call hb; clear hb; clear HS; have HS := Lib.hid hS; clear hS))
  refine wp_region_pi [(0, true), (1, true), (3, true), (4, true), (6, true), (7, true), (2, false), (5, false), (8, false), (9, true), (10, true), (11, true)] (by kernel_rfl) (by kernel_rfl) rfl (by kernel_rfl) (fun _ _ _ _ _ h => h) (fun w' => St w w' [Blk b5 (bs zs ++ [Value.int .u32 nzs]) 44, Blk b4 (bs ys ++ [Value.int .u32 nys]) 44, Blk b3 (bs xs ++ [Value.int .u32 nxs]) 44] []) HS.out.drew ?_
  intro OPS hops
  have hS := HS.out.drew
  clear HS; have HS := Lib.hid hS; clear hS
  iterate 6
    first | (refine wpPi_yield _ (by rw [hops.out]; simp only [List.getElem?_toArray, List.getElem?_cons_succ, List.getElem?_cons_zero]; rfl) (by first | rfl | (rw [hops.out]; rfl)) (fun w' hS => by first | exact run_lda (n := 33) (cs := bs xs ++ [Value.int .u32 nxs]) ag44 (by rfl) (by rfl) (hS.range (i := 2) rfl (by rw [pt_len _ _ HX.out]; exact pt_all _ _ HX.out)) (pt_len _ _ HX.out) | exact run_lda (n := 33) (cs := bs ys ++ [Value.int .u32 nys]) ag44 (by rfl) (by rfl) (hS.range (i := 1) rfl (by rw [pt_len _ _ HY.out]; exact pt_all _ _ HY.out)) (pt_len _ _ HY.out) | exact run_lda (n := 33) (cs := bs zs ++ [Value.int .u32 nzs]) ag44 (by rfl) (by rfl) (hS.range (i := 0) rfl (by rw [pt_len _ _ HZ.out]; exact pt_all _ _ HZ.out)) (pt_len _ _ HZ.out) | (go_simp; rfl)) ?_; simp only [Act.put, List.setIfInBounds_toArray, List.set_cons_succ, List.set_cons_zero]) | (refine wpPi_skip (by rw [hops.out]; simp only [List.getElem?_toArray, List.getElem?_cons_succ, List.getElem?_cons_zero]; rfl) (by first | rfl | (rw [hops.out]; rfl)) ?_; simp only [Act.put, List.setIfInBounds_toArray, List.set_cons_succ, List.set_cons_zero])
  refine wpPi_act (by rw [hops.out]; simp only [List.getElem?_toArray, List.getElem?_cons_succ, List.getElem?_cons_zero]; rfl) (by first | rfl | (rw [hops.out]; rfl)) ?_
  go_simp
  refine (cmp44 xs ys nxs nys (-1) _ HX.out HY.out H1.out).mono ?_
  rintro e Wn ⟨rfl, hb⟩
  have hS := HS.out.call hb
  clear HS; have HS := Lib.hid hS; clear hS
  clear hb
  refine ⟨HS.out, ?_⟩
  try simp only [Act.put, List.setIfInBounds_toArray, List.set_cons_succ, List.set_cons_zero]
  refine wpPi_act (by rw [hops.out]; simp only [List.getElem?_toArray, List.getElem?_cons_succ, List.getElem?_cons_zero]; rfl) (by first | rfl | (rw [hops.out]; rfl)) ?_
  go_simp
  refine (cmp44 ys zs nys nzs (-1) _ HY.out HZ.out H2.out).mono ?_
  rintro e Wn ⟨rfl, hb⟩
  have hS := HS.out.call hb
  clear HS; have HS := Lib.hid hS; clear hS
  clear hb
  refine ⟨HS.out, ?_⟩
  try simp only [Act.put, List.setIfInBounds_toArray, List.set_cons_succ, List.set_cons_zero]
  refine wpPi_act (by rw [hops.out]; simp only [List.getElem?_toArray, List.getElem?_cons_succ, List.getElem?_cons_zero]; rfl) (by first | rfl | (rw [hops.out]; rfl)) ?_
  go_simp
  refine (cmp44 xs zs nxs nzs (-1) _ HX.out HZ.out H3.out).mono ?_
  rintro e Wn ⟨rfl, hb⟩
  have hS := HS.out.call hb
  clear HS; have HS := Lib.hid hS; clear hS
  clear hb
  refine ⟨HS.out, ?_⟩
  try simp only [Act.put, List.setIfInBounds_toArray, List.set_cons_succ, List.set_cons_zero]
  iterate 3
    first | (refine wpPi_yield _ (by rw [hops.out]; simp only [List.getElem?_toArray, List.getElem?_cons_succ, List.getElem?_cons_zero]; rfl) (by first | rfl | (rw [hops.out]; rfl)) (fun w' hS => by first | exact run_lda (n := 33) (cs := bs xs ++ [Value.int .u32 nxs]) ag44 (by rfl) (by rfl) (hS.range (i := 2) rfl (by rw [pt_len _ _ HX.out]; exact pt_all _ _ HX.out)) (pt_len _ _ HX.out) | exact run_lda (n := 33) (cs := bs ys ++ [Value.int .u32 nys]) ag44 (by rfl) (by rfl) (hS.range (i := 1) rfl (by rw [pt_len _ _ HY.out]; exact pt_all _ _ HY.out)) (pt_len _ _ HY.out) | exact run_lda (n := 33) (cs := bs zs ++ [Value.int .u32 nzs]) ag44 (by rfl) (by rfl) (hS.range (i := 0) rfl (by rw [pt_len _ _ HZ.out]; exact pt_all _ _ HZ.out)) (pt_len _ _ HZ.out) | (go_simp; rfl)) ?_; simp only [Act.put, List.setIfInBounds_toArray, List.set_cons_succ, List.set_cons_zero]) | (refine wpPi_skip (by rw [hops.out]; simp only [List.getElem?_toArray, List.getElem?_cons_succ, List.getElem?_cons_zero]; rfl) (by first | rfl | (rw [hops.out]; rfl)) ?_; simp only [Act.put, List.setIfInBounds_toArray, List.set_cons_succ, List.set_cons_zero])
  simp only [wpPi]
  clear OPS hops
  go_wp2_with (first
    | (refine atd 54 (by rfl) ?_; refine wl (by rfl) (s_lda (cs := bs ys ++ [Value.int .u32 nys]) HS.out 1 33 (by rfl) (by rfl) (by rfl) ag44 (by exact pt_all _ _ HY.out) (pt_len _ _ HY.out) ?_))
    | (refine atd 55 (by rfl) ?_; refine wl (by rfl) (s_lda (cs := bs xs ++ [Value.int .u32 nxs]) HS.out 2 33 (by rfl) (by rfl) (by rfl) ag44 (by exact pt_all _ _ HX.out) (pt_len _ _ HX.out) ?_))
    | (refine atd 64 (by rfl) ?_; refine wl (by rfl) (s_lda (cs := bs xs ++ [Value.int .u32 nxs]) HS.out 2 33 (by rfl) (by rfl) (by rfl) ag44 (by exact pt_all _ _ HX.out) (pt_len _ _ HX.out) ?_))
    | (refine atd 65 (by rfl) ?_; refine wl (by rfl) (s_lda (cs := bs ys ++ [Value.int .u32 nys]) HS.out 1 33 (by rfl) (by rfl) (by rfl) ag44 (by exact pt_all _ _ HY.out) (pt_len _ _ HY.out) ?_))
    | (refine atd 71 (by rfl) ?_; refine wl (by rfl) (s_lda (cs := bs xs) HS.out 2 32 (by rfl) (by rfl) (by rfl) ag23' (by exact pt_h _ _ HX.out) ((by rw [bs_length]; exact HX.out)) ?_))
    | (refine atd 73 (by rfl) ?_; refine wl (by rfl) (s_lda (cs := bs ys) HS.out 1 32 (by rfl) (by rfl) (by rfl) ag23' (by exact pt_h _ _ HY.out) ((by rw [bs_length]; exact HY.out)) ?_))
    | (refine atd 79 (by rfl) ?_; refine wl (by rfl) (s_ld HS.out 2 (by rfl) (by rfl) (by rfl) (by kernel_rfl) (by exact pt_32 _ _ HX.out) ?_))
    | (refine atd 81 (by rfl) ?_; refine wl (by rfl) (s_ld HS.out 1 (by rfl) (by rfl) (by rfl) (by kernel_rfl) (by exact pt_32 _ _ HY.out) ?_))
    | (go_at_call 44; refine (cmp44 ys xs nys nxs (1) _ HY.out HX.out H4.out).mono ?_; rintro e Wn ⟨rfl, hb⟩; have hS := HS.out.call hb; clear hb; clear HS; have HS := Lib.hid hS; clear hS))
  go_ret
  exact ⟨rfl, HS.out.below⟩
set_option maxHeartbeats 1000000 in
set_option maxRecDepth 100000 in
theorem sorted8_mmmd (xs ys zs : List UInt8) (nxs nys nzs : Int) (w : World) (hx : xs.length = 32) (hy : ys.length = 32) (hz : zs.length = 32) (h1 : O (xs, nxs) (ys, nys) = -1) (h2 : O (ys, nys) (zs, nzs) = -1) (h3 : O (xs, nxs) (zs, nzs) = -1) (hxy : ¬ xs = ys) :
    Calls Try.prog 8 #[.agg (bs xs ++ [Value.int .u32 nxs]).toArray, .agg (bs ys ++ [Value.int .u32 nys]).toArray, .agg (bs zs ++ [Value.int .u32 nzs]).toArray] w fun e w' => e = .returned (.bool true) ∧ Below w.heap.size w w' := by
  have HS := Lib.hid (St.start w)
  have HX := Lib.hid hx; have HY := Lib.hid hy; have HZ := Lib.hid hz
  have H1 := Lib.hid h1; have H2 := Lib.hid h2; have H3 := Lib.hid h3
  have H4 := Lib.hid (show O (ys, nys) (xs, nxs) = 1 by have h := O_neg (xs, nxs) (ys, nys); omega)
  have hq : ∀ W, (Op.equalIn 10000 23 (.agg (bs xs).toArray) (.agg (bs ys).toArray)).run Try.prog W = .ok false W := fun W => by
    have := eqH 9998 xs ys hx hy W
    rwa [decide_eq_false hxy] at this
  have hq0 : ∀ W, (Op.equalIn 9999 23 (.agg (List.take 32 (bs xs ++ [Value.int .u32 nxs])).toArray) (.agg (List.take 32 (bs ys ++ [Value.int .u32 nys])).toArray)).run Try.prog W = .ok false W := fun W => by
    rw [take_pt _ _ hx, take_pt _ _ hy]
    have := eqH 9997 xs ys hx hy W
    rwa [decide_eq_false hxy] at this
  have p1 := pt_32 xs nxs hx
  have p2 := pt_32 ys nys hy
  clear hx hy hz h1 h2 h3 hxy 
  go_enter Try.func8, Try.ntmps8
  go_wp2_with (first
    | (refine atd 3 (by rfl) ?_; refine wl (by rfl) (s_bx (l := bs xs ++ [Value.int .u32 nxs]) HS.out (by rfl) (by rfl) ?_); intro b3 Wn hS; clear HS; have HS := Lib.hid hS; clear hS)
    | (refine atd 4 (by rfl) ?_; refine wl (by rfl) (s_bx (l := bs ys ++ [Value.int .u32 nys]) HS.out (by rfl) (by rfl) ?_); intro b4 Wn hS; clear HS; have HS := Lib.hid hS; clear hS)
    | (refine atd 5 (by rfl) ?_; refine wl (by rfl) (s_bx (l := bs zs ++ [Value.int .u32 nzs]) HS.out (by rfl) (by rfl) ?_); intro b5 Wn hS; clear HS; have HS := Lib.hid hS; clear hS)
    | (go_at_call 33; refine (alive33 _).mono ?_; rintro e Wn ⟨rfl, hb⟩; have hS := HS.out.call hb; clear hb; clear HS; have HS := Lib.hid hS; clear hS))
  refine wp_region_pi [(0, true), (1, true), (3, true), (4, true), (6, true), (7, true), (2, false), (5, false), (8, false), (9, true), (10, true), (11, true)] (by kernel_rfl) (by kernel_rfl) rfl (by kernel_rfl) (fun _ _ _ _ _ h => h) (fun w' => St w w' [Blk b5 (bs zs ++ [Value.int .u32 nzs]) 44, Blk b4 (bs ys ++ [Value.int .u32 nys]) 44, Blk b3 (bs xs ++ [Value.int .u32 nxs]) 44] []) HS.out.drew ?_
  intro OPS hops
  have hS := HS.out.drew
  clear HS; have HS := Lib.hid hS; clear hS
  iterate 6
    first | (refine wpPi_yield _ (by rw [hops.out]; simp only [List.getElem?_toArray, List.getElem?_cons_succ, List.getElem?_cons_zero]; rfl) (by first | rfl | (rw [hops.out]; rfl)) (fun w' hS => by first | exact run_lda (n := 33) (cs := bs xs ++ [Value.int .u32 nxs]) ag44 (by rfl) (by rfl) (hS.range (i := 2) rfl (by rw [pt_len _ _ HX.out]; exact pt_all _ _ HX.out)) (pt_len _ _ HX.out) | exact run_lda (n := 33) (cs := bs ys ++ [Value.int .u32 nys]) ag44 (by rfl) (by rfl) (hS.range (i := 1) rfl (by rw [pt_len _ _ HY.out]; exact pt_all _ _ HY.out)) (pt_len _ _ HY.out) | exact run_lda (n := 33) (cs := bs zs ++ [Value.int .u32 nzs]) ag44 (by rfl) (by rfl) (hS.range (i := 0) rfl (by rw [pt_len _ _ HZ.out]; exact pt_all _ _ HZ.out)) (pt_len _ _ HZ.out) | (go_simp; rfl)) ?_; simp only [Act.put, List.setIfInBounds_toArray, List.set_cons_succ, List.set_cons_zero]) | (refine wpPi_skip (by rw [hops.out]; simp only [List.getElem?_toArray, List.getElem?_cons_succ, List.getElem?_cons_zero]; rfl) (by first | rfl | (rw [hops.out]; rfl)) ?_; simp only [Act.put, List.setIfInBounds_toArray, List.set_cons_succ, List.set_cons_zero])
  refine wpPi_act (by rw [hops.out]; simp only [List.getElem?_toArray, List.getElem?_cons_succ, List.getElem?_cons_zero]; rfl) (by first | rfl | (rw [hops.out]; rfl)) ?_
  go_simp
  refine (cmp44 xs ys nxs nys (-1) _ HX.out HY.out H1.out).mono ?_
  rintro e Wn ⟨rfl, hb⟩
  have hS := HS.out.call hb
  clear HS; have HS := Lib.hid hS; clear hS
  clear hb
  refine ⟨HS.out, ?_⟩
  try simp only [Act.put, List.setIfInBounds_toArray, List.set_cons_succ, List.set_cons_zero]
  refine wpPi_act (by rw [hops.out]; simp only [List.getElem?_toArray, List.getElem?_cons_succ, List.getElem?_cons_zero]; rfl) (by first | rfl | (rw [hops.out]; rfl)) ?_
  go_simp
  refine (cmp44 ys zs nys nzs (-1) _ HY.out HZ.out H2.out).mono ?_
  rintro e Wn ⟨rfl, hb⟩
  have hS := HS.out.call hb
  clear HS; have HS := Lib.hid hS; clear hS
  clear hb
  refine ⟨HS.out, ?_⟩
  try simp only [Act.put, List.setIfInBounds_toArray, List.set_cons_succ, List.set_cons_zero]
  refine wpPi_act (by rw [hops.out]; simp only [List.getElem?_toArray, List.getElem?_cons_succ, List.getElem?_cons_zero]; rfl) (by first | rfl | (rw [hops.out]; rfl)) ?_
  go_simp
  refine (cmp44 xs zs nxs nzs (-1) _ HX.out HZ.out H3.out).mono ?_
  rintro e Wn ⟨rfl, hb⟩
  have hS := HS.out.call hb
  clear HS; have HS := Lib.hid hS; clear hS
  clear hb
  refine ⟨HS.out, ?_⟩
  try simp only [Act.put, List.setIfInBounds_toArray, List.set_cons_succ, List.set_cons_zero]
  iterate 3
    first | (refine wpPi_yield _ (by rw [hops.out]; simp only [List.getElem?_toArray, List.getElem?_cons_succ, List.getElem?_cons_zero]; rfl) (by first | rfl | (rw [hops.out]; rfl)) (fun w' hS => by first | exact run_lda (n := 33) (cs := bs xs ++ [Value.int .u32 nxs]) ag44 (by rfl) (by rfl) (hS.range (i := 2) rfl (by rw [pt_len _ _ HX.out]; exact pt_all _ _ HX.out)) (pt_len _ _ HX.out) | exact run_lda (n := 33) (cs := bs ys ++ [Value.int .u32 nys]) ag44 (by rfl) (by rfl) (hS.range (i := 1) rfl (by rw [pt_len _ _ HY.out]; exact pt_all _ _ HY.out)) (pt_len _ _ HY.out) | exact run_lda (n := 33) (cs := bs zs ++ [Value.int .u32 nzs]) ag44 (by rfl) (by rfl) (hS.range (i := 0) rfl (by rw [pt_len _ _ HZ.out]; exact pt_all _ _ HZ.out)) (pt_len _ _ HZ.out) | (go_simp; rfl)) ?_; simp only [Act.put, List.setIfInBounds_toArray, List.set_cons_succ, List.set_cons_zero]) | (refine wpPi_skip (by rw [hops.out]; simp only [List.getElem?_toArray, List.getElem?_cons_succ, List.getElem?_cons_zero]; rfl) (by first | rfl | (rw [hops.out]; rfl)) ?_; simp only [Act.put, List.setIfInBounds_toArray, List.set_cons_succ, List.set_cons_zero])
  simp only [wpPi]
  clear OPS hops
  go_wp2_with (first
    | (refine atd 54 (by rfl) ?_; refine wl (by rfl) (s_lda (cs := bs ys ++ [Value.int .u32 nys]) HS.out 1 33 (by rfl) (by rfl) (by rfl) ag44 (by exact pt_all _ _ HY.out) (pt_len _ _ HY.out) ?_))
    | (refine atd 55 (by rfl) ?_; refine wl (by rfl) (s_lda (cs := bs xs ++ [Value.int .u32 nxs]) HS.out 2 33 (by rfl) (by rfl) (by rfl) ag44 (by exact pt_all _ _ HX.out) (pt_len _ _ HX.out) ?_))
    | (refine atd 64 (by rfl) ?_; refine wl (by rfl) (s_lda (cs := bs xs ++ [Value.int .u32 nxs]) HS.out 2 33 (by rfl) (by rfl) (by rfl) ag44 (by exact pt_all _ _ HX.out) (pt_len _ _ HX.out) ?_))
    | (refine atd 65 (by rfl) ?_; refine wl (by rfl) (s_lda (cs := bs ys ++ [Value.int .u32 nys]) HS.out 1 33 (by rfl) (by rfl) (by rfl) ag44 (by exact pt_all _ _ HY.out) (pt_len _ _ HY.out) ?_))
    | (refine atd 71 (by rfl) ?_; refine wl (by rfl) (s_lda (cs := bs xs) HS.out 2 32 (by rfl) (by rfl) (by rfl) ag23' (by exact pt_h _ _ HX.out) ((by rw [bs_length]; exact HX.out)) ?_))
    | (refine atd 73 (by rfl) ?_; refine wl (by rfl) (s_lda (cs := bs ys) HS.out 1 32 (by rfl) (by rfl) (by rfl) ag23' (by exact pt_h _ _ HY.out) ((by rw [bs_length]; exact HY.out)) ?_))
    | (refine atd 79 (by rfl) ?_; refine wl (by rfl) (s_ld HS.out 2 (by rfl) (by rfl) (by rfl) (by kernel_rfl) (by exact pt_32 _ _ HX.out) ?_))
    | (refine atd 81 (by rfl) ?_; refine wl (by rfl) (s_ld HS.out 1 (by rfl) (by rfl) (by rfl) (by kernel_rfl) (by exact pt_32 _ _ HY.out) ?_))
    | (go_at_call 44; refine (cmp44 ys xs nys nxs (1) _ HY.out HX.out H4.out).mono ?_; rintro e Wn ⟨rfl, hb⟩; have hS := HS.out.call hb; clear hb; clear HS; have HS := Lib.hid hS; clear hS))
  go_ret
  exact ⟨rfl, HS.out.below⟩
set_option maxHeartbeats 1000000 in
set_option maxRecDepth 100000 in
theorem sorted8_mzms (xs ys zs : List UInt8) (nxs nys nzs : Int) (w : World) (hx : xs.length = 32) (hy : ys.length = 32) (hz : zs.length = 32) (h1 : O (xs, nxs) (ys, nys) = -1) (h2 : O (ys, nys) (zs, nzs) = 0) (h3 : O (xs, nxs) (zs, nzs) = -1) (hxy : xs = ys) (hn : nxs < nys) :
    Calls Try.prog 8 #[.agg (bs xs ++ [Value.int .u32 nxs]).toArray, .agg (bs ys ++ [Value.int .u32 nys]).toArray, .agg (bs zs ++ [Value.int .u32 nzs]).toArray] w fun e w' => e = .returned (.bool true) ∧ Below w.heap.size w w' := by
  have HS := Lib.hid (St.start w)
  have HX := Lib.hid hx; have HY := Lib.hid hy; have HZ := Lib.hid hz
  have H1 := Lib.hid h1; have H2 := Lib.hid h2; have H3 := Lib.hid h3
  have H4 := Lib.hid (show O (ys, nys) (xs, nxs) = 1 by have h := O_neg (xs, nxs) (ys, nys); omega)
  have hq : ∀ W, (Op.equalIn 10000 23 (.agg (bs xs).toArray) (.agg (bs ys).toArray)).run Try.prog W = .ok true W := fun W => by
    have := eqH 9998 xs ys hx hy W
    rwa [decide_eq_true hxy] at this
  have hq0 : ∀ W, (Op.equalIn 9999 23 (.agg (List.take 32 (bs xs ++ [Value.int .u32 nxs])).toArray) (.agg (List.take 32 (bs ys ++ [Value.int .u32 nys])).toArray)).run Try.prog W = .ok true W := fun W => by
    rw [take_pt _ _ hx, take_pt _ _ hy]
    have := eqH 9997 xs ys hx hy W
    rwa [decide_eq_true hxy] at this
  have p1 := pt_32 xs nxs hx
  have p2 := pt_32 ys nys hy
  have k1 : nxs < nys := hn
  have k2 : (nxs == nys) = false := by rw [beq_eq_false_iff_ne]; omega
  clear hx hy hz h1 h2 h3 hxy hn
  go_enter Try.func8, Try.ntmps8
  go_wp2_with (first
    | (refine atd 3 (by rfl) ?_; refine wl (by rfl) (s_bx (l := bs xs ++ [Value.int .u32 nxs]) HS.out (by rfl) (by rfl) ?_); intro b3 Wn hS; clear HS; have HS := Lib.hid hS; clear hS)
    | (refine atd 4 (by rfl) ?_; refine wl (by rfl) (s_bx (l := bs ys ++ [Value.int .u32 nys]) HS.out (by rfl) (by rfl) ?_); intro b4 Wn hS; clear HS; have HS := Lib.hid hS; clear hS)
    | (refine atd 5 (by rfl) ?_; refine wl (by rfl) (s_bx (l := bs zs ++ [Value.int .u32 nzs]) HS.out (by rfl) (by rfl) ?_); intro b5 Wn hS; clear HS; have HS := Lib.hid hS; clear hS)
    | (go_at_call 33; refine (alive33 _).mono ?_; rintro e Wn ⟨rfl, hb⟩; have hS := HS.out.call hb; clear hb; clear HS; have HS := Lib.hid hS; clear hS))
  refine wp_region_pi [(0, true), (1, true), (3, true), (4, true), (6, true), (7, true), (2, false), (5, false), (8, false), (9, true), (10, true), (11, true)] (by kernel_rfl) (by kernel_rfl) rfl (by kernel_rfl) (fun _ _ _ _ _ h => h) (fun w' => St w w' [Blk b5 (bs zs ++ [Value.int .u32 nzs]) 44, Blk b4 (bs ys ++ [Value.int .u32 nys]) 44, Blk b3 (bs xs ++ [Value.int .u32 nxs]) 44] []) HS.out.drew ?_
  intro OPS hops
  have hS := HS.out.drew
  clear HS; have HS := Lib.hid hS; clear hS
  iterate 6
    first | (refine wpPi_yield _ (by rw [hops.out]; simp only [List.getElem?_toArray, List.getElem?_cons_succ, List.getElem?_cons_zero]; rfl) (by first | rfl | (rw [hops.out]; rfl)) (fun w' hS => by first | exact run_lda (n := 33) (cs := bs xs ++ [Value.int .u32 nxs]) ag44 (by rfl) (by rfl) (hS.range (i := 2) rfl (by rw [pt_len _ _ HX.out]; exact pt_all _ _ HX.out)) (pt_len _ _ HX.out) | exact run_lda (n := 33) (cs := bs ys ++ [Value.int .u32 nys]) ag44 (by rfl) (by rfl) (hS.range (i := 1) rfl (by rw [pt_len _ _ HY.out]; exact pt_all _ _ HY.out)) (pt_len _ _ HY.out) | exact run_lda (n := 33) (cs := bs zs ++ [Value.int .u32 nzs]) ag44 (by rfl) (by rfl) (hS.range (i := 0) rfl (by rw [pt_len _ _ HZ.out]; exact pt_all _ _ HZ.out)) (pt_len _ _ HZ.out) | (go_simp; rfl)) ?_; simp only [Act.put, List.setIfInBounds_toArray, List.set_cons_succ, List.set_cons_zero]) | (refine wpPi_skip (by rw [hops.out]; simp only [List.getElem?_toArray, List.getElem?_cons_succ, List.getElem?_cons_zero]; rfl) (by first | rfl | (rw [hops.out]; rfl)) ?_; simp only [Act.put, List.setIfInBounds_toArray, List.set_cons_succ, List.set_cons_zero])
  refine wpPi_act (by rw [hops.out]; simp only [List.getElem?_toArray, List.getElem?_cons_succ, List.getElem?_cons_zero]; rfl) (by first | rfl | (rw [hops.out]; rfl)) ?_
  go_simp
  refine (cmp44 xs ys nxs nys (-1) _ HX.out HY.out H1.out).mono ?_
  rintro e Wn ⟨rfl, hb⟩
  have hS := HS.out.call hb
  clear HS; have HS := Lib.hid hS; clear hS
  clear hb
  refine ⟨HS.out, ?_⟩
  try simp only [Act.put, List.setIfInBounds_toArray, List.set_cons_succ, List.set_cons_zero]
  refine wpPi_act (by rw [hops.out]; simp only [List.getElem?_toArray, List.getElem?_cons_succ, List.getElem?_cons_zero]; rfl) (by first | rfl | (rw [hops.out]; rfl)) ?_
  go_simp
  refine (cmp44 ys zs nys nzs (0) _ HY.out HZ.out H2.out).mono ?_
  rintro e Wn ⟨rfl, hb⟩
  have hS := HS.out.call hb
  clear HS; have HS := Lib.hid hS; clear hS
  clear hb
  refine ⟨HS.out, ?_⟩
  try simp only [Act.put, List.setIfInBounds_toArray, List.set_cons_succ, List.set_cons_zero]
  refine wpPi_act (by rw [hops.out]; simp only [List.getElem?_toArray, List.getElem?_cons_succ, List.getElem?_cons_zero]; rfl) (by first | rfl | (rw [hops.out]; rfl)) ?_
  go_simp
  refine (cmp44 xs zs nxs nzs (-1) _ HX.out HZ.out H3.out).mono ?_
  rintro e Wn ⟨rfl, hb⟩
  have hS := HS.out.call hb
  clear HS; have HS := Lib.hid hS; clear hS
  clear hb
  refine ⟨HS.out, ?_⟩
  try simp only [Act.put, List.setIfInBounds_toArray, List.set_cons_succ, List.set_cons_zero]
  iterate 3
    first | (refine wpPi_yield _ (by rw [hops.out]; simp only [List.getElem?_toArray, List.getElem?_cons_succ, List.getElem?_cons_zero]; rfl) (by first | rfl | (rw [hops.out]; rfl)) (fun w' hS => by first | exact run_lda (n := 33) (cs := bs xs ++ [Value.int .u32 nxs]) ag44 (by rfl) (by rfl) (hS.range (i := 2) rfl (by rw [pt_len _ _ HX.out]; exact pt_all _ _ HX.out)) (pt_len _ _ HX.out) | exact run_lda (n := 33) (cs := bs ys ++ [Value.int .u32 nys]) ag44 (by rfl) (by rfl) (hS.range (i := 1) rfl (by rw [pt_len _ _ HY.out]; exact pt_all _ _ HY.out)) (pt_len _ _ HY.out) | exact run_lda (n := 33) (cs := bs zs ++ [Value.int .u32 nzs]) ag44 (by rfl) (by rfl) (hS.range (i := 0) rfl (by rw [pt_len _ _ HZ.out]; exact pt_all _ _ HZ.out)) (pt_len _ _ HZ.out) | (go_simp; rfl)) ?_; simp only [Act.put, List.setIfInBounds_toArray, List.set_cons_succ, List.set_cons_zero]) | (refine wpPi_skip (by rw [hops.out]; simp only [List.getElem?_toArray, List.getElem?_cons_succ, List.getElem?_cons_zero]; rfl) (by first | rfl | (rw [hops.out]; rfl)) ?_; simp only [Act.put, List.setIfInBounds_toArray, List.set_cons_succ, List.set_cons_zero])
  simp only [wpPi]
  clear OPS hops
  go_wp2_with (first
    | (refine atd 54 (by rfl) ?_; refine wl (by rfl) (s_lda (cs := bs ys ++ [Value.int .u32 nys]) HS.out 1 33 (by rfl) (by rfl) (by rfl) ag44 (by exact pt_all _ _ HY.out) (pt_len _ _ HY.out) ?_))
    | (refine atd 55 (by rfl) ?_; refine wl (by rfl) (s_lda (cs := bs xs ++ [Value.int .u32 nxs]) HS.out 2 33 (by rfl) (by rfl) (by rfl) ag44 (by exact pt_all _ _ HX.out) (pt_len _ _ HX.out) ?_))
    | (refine atd 64 (by rfl) ?_; refine wl (by rfl) (s_lda (cs := bs xs ++ [Value.int .u32 nxs]) HS.out 2 33 (by rfl) (by rfl) (by rfl) ag44 (by exact pt_all _ _ HX.out) (pt_len _ _ HX.out) ?_))
    | (refine atd 65 (by rfl) ?_; refine wl (by rfl) (s_lda (cs := bs ys ++ [Value.int .u32 nys]) HS.out 1 33 (by rfl) (by rfl) (by rfl) ag44 (by exact pt_all _ _ HY.out) (pt_len _ _ HY.out) ?_))
    | (refine atd 71 (by rfl) ?_; refine wl (by rfl) (s_lda (cs := bs xs) HS.out 2 32 (by rfl) (by rfl) (by rfl) ag23' (by exact pt_h _ _ HX.out) ((by rw [bs_length]; exact HX.out)) ?_))
    | (refine atd 73 (by rfl) ?_; refine wl (by rfl) (s_lda (cs := bs ys) HS.out 1 32 (by rfl) (by rfl) (by rfl) ag23' (by exact pt_h _ _ HY.out) ((by rw [bs_length]; exact HY.out)) ?_))
    | (refine atd 79 (by rfl) ?_; refine wl (by rfl) (s_ld HS.out 2 (by rfl) (by rfl) (by rfl) (by kernel_rfl) (by exact pt_32 _ _ HX.out) ?_))
    | (refine atd 81 (by rfl) ?_; refine wl (by rfl) (s_ld HS.out 1 (by rfl) (by rfl) (by rfl) (by kernel_rfl) (by exact pt_32 _ _ HY.out) ?_))
    | (go_at_call 44; refine (cmp44 ys xs nys nxs (1) _ HY.out HX.out H4.out).mono ?_; rintro e Wn ⟨rfl, hb⟩; have hS := HS.out.call hb; clear hb; clear HS; have HS := Lib.hid hS; clear hS))
  go_ret
  exact ⟨rfl, HS.out.below⟩
set_option maxHeartbeats 1000000 in
set_option maxRecDepth 100000 in
theorem sorted8_mzmd (xs ys zs : List UInt8) (nxs nys nzs : Int) (w : World) (hx : xs.length = 32) (hy : ys.length = 32) (hz : zs.length = 32) (h1 : O (xs, nxs) (ys, nys) = -1) (h2 : O (ys, nys) (zs, nzs) = 0) (h3 : O (xs, nxs) (zs, nzs) = -1) (hxy : ¬ xs = ys) :
    Calls Try.prog 8 #[.agg (bs xs ++ [Value.int .u32 nxs]).toArray, .agg (bs ys ++ [Value.int .u32 nys]).toArray, .agg (bs zs ++ [Value.int .u32 nzs]).toArray] w fun e w' => e = .returned (.bool true) ∧ Below w.heap.size w w' := by
  have HS := Lib.hid (St.start w)
  have HX := Lib.hid hx; have HY := Lib.hid hy; have HZ := Lib.hid hz
  have H1 := Lib.hid h1; have H2 := Lib.hid h2; have H3 := Lib.hid h3
  have H4 := Lib.hid (show O (ys, nys) (xs, nxs) = 1 by have h := O_neg (xs, nxs) (ys, nys); omega)
  have hq : ∀ W, (Op.equalIn 10000 23 (.agg (bs xs).toArray) (.agg (bs ys).toArray)).run Try.prog W = .ok false W := fun W => by
    have := eqH 9998 xs ys hx hy W
    rwa [decide_eq_false hxy] at this
  have hq0 : ∀ W, (Op.equalIn 9999 23 (.agg (List.take 32 (bs xs ++ [Value.int .u32 nxs])).toArray) (.agg (List.take 32 (bs ys ++ [Value.int .u32 nys])).toArray)).run Try.prog W = .ok false W := fun W => by
    rw [take_pt _ _ hx, take_pt _ _ hy]
    have := eqH 9997 xs ys hx hy W
    rwa [decide_eq_false hxy] at this
  have p1 := pt_32 xs nxs hx
  have p2 := pt_32 ys nys hy
  clear hx hy hz h1 h2 h3 hxy 
  go_enter Try.func8, Try.ntmps8
  go_wp2_with (first
    | (refine atd 3 (by rfl) ?_; refine wl (by rfl) (s_bx (l := bs xs ++ [Value.int .u32 nxs]) HS.out (by rfl) (by rfl) ?_); intro b3 Wn hS; clear HS; have HS := Lib.hid hS; clear hS)
    | (refine atd 4 (by rfl) ?_; refine wl (by rfl) (s_bx (l := bs ys ++ [Value.int .u32 nys]) HS.out (by rfl) (by rfl) ?_); intro b4 Wn hS; clear HS; have HS := Lib.hid hS; clear hS)
    | (refine atd 5 (by rfl) ?_; refine wl (by rfl) (s_bx (l := bs zs ++ [Value.int .u32 nzs]) HS.out (by rfl) (by rfl) ?_); intro b5 Wn hS; clear HS; have HS := Lib.hid hS; clear hS)
    | (go_at_call 33; refine (alive33 _).mono ?_; rintro e Wn ⟨rfl, hb⟩; have hS := HS.out.call hb; clear hb; clear HS; have HS := Lib.hid hS; clear hS))
  refine wp_region_pi [(0, true), (1, true), (3, true), (4, true), (6, true), (7, true), (2, false), (5, false), (8, false), (9, true), (10, true), (11, true)] (by kernel_rfl) (by kernel_rfl) rfl (by kernel_rfl) (fun _ _ _ _ _ h => h) (fun w' => St w w' [Blk b5 (bs zs ++ [Value.int .u32 nzs]) 44, Blk b4 (bs ys ++ [Value.int .u32 nys]) 44, Blk b3 (bs xs ++ [Value.int .u32 nxs]) 44] []) HS.out.drew ?_
  intro OPS hops
  have hS := HS.out.drew
  clear HS; have HS := Lib.hid hS; clear hS
  iterate 6
    first | (refine wpPi_yield _ (by rw [hops.out]; simp only [List.getElem?_toArray, List.getElem?_cons_succ, List.getElem?_cons_zero]; rfl) (by first | rfl | (rw [hops.out]; rfl)) (fun w' hS => by first | exact run_lda (n := 33) (cs := bs xs ++ [Value.int .u32 nxs]) ag44 (by rfl) (by rfl) (hS.range (i := 2) rfl (by rw [pt_len _ _ HX.out]; exact pt_all _ _ HX.out)) (pt_len _ _ HX.out) | exact run_lda (n := 33) (cs := bs ys ++ [Value.int .u32 nys]) ag44 (by rfl) (by rfl) (hS.range (i := 1) rfl (by rw [pt_len _ _ HY.out]; exact pt_all _ _ HY.out)) (pt_len _ _ HY.out) | exact run_lda (n := 33) (cs := bs zs ++ [Value.int .u32 nzs]) ag44 (by rfl) (by rfl) (hS.range (i := 0) rfl (by rw [pt_len _ _ HZ.out]; exact pt_all _ _ HZ.out)) (pt_len _ _ HZ.out) | (go_simp; rfl)) ?_; simp only [Act.put, List.setIfInBounds_toArray, List.set_cons_succ, List.set_cons_zero]) | (refine wpPi_skip (by rw [hops.out]; simp only [List.getElem?_toArray, List.getElem?_cons_succ, List.getElem?_cons_zero]; rfl) (by first | rfl | (rw [hops.out]; rfl)) ?_; simp only [Act.put, List.setIfInBounds_toArray, List.set_cons_succ, List.set_cons_zero])
  refine wpPi_act (by rw [hops.out]; simp only [List.getElem?_toArray, List.getElem?_cons_succ, List.getElem?_cons_zero]; rfl) (by first | rfl | (rw [hops.out]; rfl)) ?_
  go_simp
  refine (cmp44 xs ys nxs nys (-1) _ HX.out HY.out H1.out).mono ?_
  rintro e Wn ⟨rfl, hb⟩
  have hS := HS.out.call hb
  clear HS; have HS := Lib.hid hS; clear hS
  clear hb
  refine ⟨HS.out, ?_⟩
  try simp only [Act.put, List.setIfInBounds_toArray, List.set_cons_succ, List.set_cons_zero]
  refine wpPi_act (by rw [hops.out]; simp only [List.getElem?_toArray, List.getElem?_cons_succ, List.getElem?_cons_zero]; rfl) (by first | rfl | (rw [hops.out]; rfl)) ?_
  go_simp
  refine (cmp44 ys zs nys nzs (0) _ HY.out HZ.out H2.out).mono ?_
  rintro e Wn ⟨rfl, hb⟩
  have hS := HS.out.call hb
  clear HS; have HS := Lib.hid hS; clear hS
  clear hb
  refine ⟨HS.out, ?_⟩
  try simp only [Act.put, List.setIfInBounds_toArray, List.set_cons_succ, List.set_cons_zero]
  refine wpPi_act (by rw [hops.out]; simp only [List.getElem?_toArray, List.getElem?_cons_succ, List.getElem?_cons_zero]; rfl) (by first | rfl | (rw [hops.out]; rfl)) ?_
  go_simp
  refine (cmp44 xs zs nxs nzs (-1) _ HX.out HZ.out H3.out).mono ?_
  rintro e Wn ⟨rfl, hb⟩
  have hS := HS.out.call hb
  clear HS; have HS := Lib.hid hS; clear hS
  clear hb
  refine ⟨HS.out, ?_⟩
  try simp only [Act.put, List.setIfInBounds_toArray, List.set_cons_succ, List.set_cons_zero]
  iterate 3
    first | (refine wpPi_yield _ (by rw [hops.out]; simp only [List.getElem?_toArray, List.getElem?_cons_succ, List.getElem?_cons_zero]; rfl) (by first | rfl | (rw [hops.out]; rfl)) (fun w' hS => by first | exact run_lda (n := 33) (cs := bs xs ++ [Value.int .u32 nxs]) ag44 (by rfl) (by rfl) (hS.range (i := 2) rfl (by rw [pt_len _ _ HX.out]; exact pt_all _ _ HX.out)) (pt_len _ _ HX.out) | exact run_lda (n := 33) (cs := bs ys ++ [Value.int .u32 nys]) ag44 (by rfl) (by rfl) (hS.range (i := 1) rfl (by rw [pt_len _ _ HY.out]; exact pt_all _ _ HY.out)) (pt_len _ _ HY.out) | exact run_lda (n := 33) (cs := bs zs ++ [Value.int .u32 nzs]) ag44 (by rfl) (by rfl) (hS.range (i := 0) rfl (by rw [pt_len _ _ HZ.out]; exact pt_all _ _ HZ.out)) (pt_len _ _ HZ.out) | (go_simp; rfl)) ?_; simp only [Act.put, List.setIfInBounds_toArray, List.set_cons_succ, List.set_cons_zero]) | (refine wpPi_skip (by rw [hops.out]; simp only [List.getElem?_toArray, List.getElem?_cons_succ, List.getElem?_cons_zero]; rfl) (by first | rfl | (rw [hops.out]; rfl)) ?_; simp only [Act.put, List.setIfInBounds_toArray, List.set_cons_succ, List.set_cons_zero])
  simp only [wpPi]
  clear OPS hops
  go_wp2_with (first
    | (refine atd 54 (by rfl) ?_; refine wl (by rfl) (s_lda (cs := bs ys ++ [Value.int .u32 nys]) HS.out 1 33 (by rfl) (by rfl) (by rfl) ag44 (by exact pt_all _ _ HY.out) (pt_len _ _ HY.out) ?_))
    | (refine atd 55 (by rfl) ?_; refine wl (by rfl) (s_lda (cs := bs xs ++ [Value.int .u32 nxs]) HS.out 2 33 (by rfl) (by rfl) (by rfl) ag44 (by exact pt_all _ _ HX.out) (pt_len _ _ HX.out) ?_))
    | (refine atd 64 (by rfl) ?_; refine wl (by rfl) (s_lda (cs := bs xs ++ [Value.int .u32 nxs]) HS.out 2 33 (by rfl) (by rfl) (by rfl) ag44 (by exact pt_all _ _ HX.out) (pt_len _ _ HX.out) ?_))
    | (refine atd 65 (by rfl) ?_; refine wl (by rfl) (s_lda (cs := bs ys ++ [Value.int .u32 nys]) HS.out 1 33 (by rfl) (by rfl) (by rfl) ag44 (by exact pt_all _ _ HY.out) (pt_len _ _ HY.out) ?_))
    | (refine atd 71 (by rfl) ?_; refine wl (by rfl) (s_lda (cs := bs xs) HS.out 2 32 (by rfl) (by rfl) (by rfl) ag23' (by exact pt_h _ _ HX.out) ((by rw [bs_length]; exact HX.out)) ?_))
    | (refine atd 73 (by rfl) ?_; refine wl (by rfl) (s_lda (cs := bs ys) HS.out 1 32 (by rfl) (by rfl) (by rfl) ag23' (by exact pt_h _ _ HY.out) ((by rw [bs_length]; exact HY.out)) ?_))
    | (refine atd 79 (by rfl) ?_; refine wl (by rfl) (s_ld HS.out 2 (by rfl) (by rfl) (by rfl) (by kernel_rfl) (by exact pt_32 _ _ HX.out) ?_))
    | (refine atd 81 (by rfl) ?_; refine wl (by rfl) (s_ld HS.out 1 (by rfl) (by rfl) (by rfl) (by kernel_rfl) (by exact pt_32 _ _ HY.out) ?_))
    | (go_at_call 44; refine (cmp44 ys xs nys nxs (1) _ HY.out HX.out H4.out).mono ?_; rintro e Wn ⟨rfl, hb⟩; have hS := HS.out.call hb; clear hb; clear HS; have HS := Lib.hid hS; clear hS))
  go_ret
  exact ⟨rfl, HS.out.below⟩
set_option maxHeartbeats 1000000 in
set_option maxRecDepth 100000 in
theorem sorted8_mpms (xs ys zs : List UInt8) (nxs nys nzs : Int) (w : World) (hx : xs.length = 32) (hy : ys.length = 32) (hz : zs.length = 32) (h1 : O (xs, nxs) (ys, nys) = -1) (h2 : O (ys, nys) (zs, nzs) = 1) (h3 : O (xs, nxs) (zs, nzs) = -1) (hxy : xs = ys) (hn : nxs < nys) :
    Calls Try.prog 8 #[.agg (bs xs ++ [Value.int .u32 nxs]).toArray, .agg (bs ys ++ [Value.int .u32 nys]).toArray, .agg (bs zs ++ [Value.int .u32 nzs]).toArray] w fun e w' => e = .returned (.bool true) ∧ Below w.heap.size w w' := by
  have HS := Lib.hid (St.start w)
  have HX := Lib.hid hx; have HY := Lib.hid hy; have HZ := Lib.hid hz
  have H1 := Lib.hid h1; have H2 := Lib.hid h2; have H3 := Lib.hid h3
  have H4 := Lib.hid (show O (ys, nys) (xs, nxs) = 1 by have h := O_neg (xs, nxs) (ys, nys); omega)
  have hq : ∀ W, (Op.equalIn 10000 23 (.agg (bs xs).toArray) (.agg (bs ys).toArray)).run Try.prog W = .ok true W := fun W => by
    have := eqH 9998 xs ys hx hy W
    rwa [decide_eq_true hxy] at this
  have hq0 : ∀ W, (Op.equalIn 9999 23 (.agg (List.take 32 (bs xs ++ [Value.int .u32 nxs])).toArray) (.agg (List.take 32 (bs ys ++ [Value.int .u32 nys])).toArray)).run Try.prog W = .ok true W := fun W => by
    rw [take_pt _ _ hx, take_pt _ _ hy]
    have := eqH 9997 xs ys hx hy W
    rwa [decide_eq_true hxy] at this
  have p1 := pt_32 xs nxs hx
  have p2 := pt_32 ys nys hy
  have k1 : nxs < nys := hn
  have k2 : (nxs == nys) = false := by rw [beq_eq_false_iff_ne]; omega
  clear hx hy hz h1 h2 h3 hxy hn
  go_enter Try.func8, Try.ntmps8
  go_wp2_with (first
    | (refine atd 3 (by rfl) ?_; refine wl (by rfl) (s_bx (l := bs xs ++ [Value.int .u32 nxs]) HS.out (by rfl) (by rfl) ?_); intro b3 Wn hS; clear HS; have HS := Lib.hid hS; clear hS)
    | (refine atd 4 (by rfl) ?_; refine wl (by rfl) (s_bx (l := bs ys ++ [Value.int .u32 nys]) HS.out (by rfl) (by rfl) ?_); intro b4 Wn hS; clear HS; have HS := Lib.hid hS; clear hS)
    | (refine atd 5 (by rfl) ?_; refine wl (by rfl) (s_bx (l := bs zs ++ [Value.int .u32 nzs]) HS.out (by rfl) (by rfl) ?_); intro b5 Wn hS; clear HS; have HS := Lib.hid hS; clear hS)
    | (go_at_call 33; refine (alive33 _).mono ?_; rintro e Wn ⟨rfl, hb⟩; have hS := HS.out.call hb; clear hb; clear HS; have HS := Lib.hid hS; clear hS))
  refine wp_region_pi [(0, true), (1, true), (3, true), (4, true), (6, true), (7, true), (2, false), (5, false), (8, false), (9, true), (10, true), (11, true)] (by kernel_rfl) (by kernel_rfl) rfl (by kernel_rfl) (fun _ _ _ _ _ h => h) (fun w' => St w w' [Blk b5 (bs zs ++ [Value.int .u32 nzs]) 44, Blk b4 (bs ys ++ [Value.int .u32 nys]) 44, Blk b3 (bs xs ++ [Value.int .u32 nxs]) 44] []) HS.out.drew ?_
  intro OPS hops
  have hS := HS.out.drew
  clear HS; have HS := Lib.hid hS; clear hS
  iterate 6
    first | (refine wpPi_yield _ (by rw [hops.out]; simp only [List.getElem?_toArray, List.getElem?_cons_succ, List.getElem?_cons_zero]; rfl) (by first | rfl | (rw [hops.out]; rfl)) (fun w' hS => by first | exact run_lda (n := 33) (cs := bs xs ++ [Value.int .u32 nxs]) ag44 (by rfl) (by rfl) (hS.range (i := 2) rfl (by rw [pt_len _ _ HX.out]; exact pt_all _ _ HX.out)) (pt_len _ _ HX.out) | exact run_lda (n := 33) (cs := bs ys ++ [Value.int .u32 nys]) ag44 (by rfl) (by rfl) (hS.range (i := 1) rfl (by rw [pt_len _ _ HY.out]; exact pt_all _ _ HY.out)) (pt_len _ _ HY.out) | exact run_lda (n := 33) (cs := bs zs ++ [Value.int .u32 nzs]) ag44 (by rfl) (by rfl) (hS.range (i := 0) rfl (by rw [pt_len _ _ HZ.out]; exact pt_all _ _ HZ.out)) (pt_len _ _ HZ.out) | (go_simp; rfl)) ?_; simp only [Act.put, List.setIfInBounds_toArray, List.set_cons_succ, List.set_cons_zero]) | (refine wpPi_skip (by rw [hops.out]; simp only [List.getElem?_toArray, List.getElem?_cons_succ, List.getElem?_cons_zero]; rfl) (by first | rfl | (rw [hops.out]; rfl)) ?_; simp only [Act.put, List.setIfInBounds_toArray, List.set_cons_succ, List.set_cons_zero])
  refine wpPi_act (by rw [hops.out]; simp only [List.getElem?_toArray, List.getElem?_cons_succ, List.getElem?_cons_zero]; rfl) (by first | rfl | (rw [hops.out]; rfl)) ?_
  go_simp
  refine (cmp44 xs ys nxs nys (-1) _ HX.out HY.out H1.out).mono ?_
  rintro e Wn ⟨rfl, hb⟩
  have hS := HS.out.call hb
  clear HS; have HS := Lib.hid hS; clear hS
  clear hb
  refine ⟨HS.out, ?_⟩
  try simp only [Act.put, List.setIfInBounds_toArray, List.set_cons_succ, List.set_cons_zero]
  refine wpPi_act (by rw [hops.out]; simp only [List.getElem?_toArray, List.getElem?_cons_succ, List.getElem?_cons_zero]; rfl) (by first | rfl | (rw [hops.out]; rfl)) ?_
  go_simp
  refine (cmp44 ys zs nys nzs (1) _ HY.out HZ.out H2.out).mono ?_
  rintro e Wn ⟨rfl, hb⟩
  have hS := HS.out.call hb
  clear HS; have HS := Lib.hid hS; clear hS
  clear hb
  refine ⟨HS.out, ?_⟩
  try simp only [Act.put, List.setIfInBounds_toArray, List.set_cons_succ, List.set_cons_zero]
  refine wpPi_act (by rw [hops.out]; simp only [List.getElem?_toArray, List.getElem?_cons_succ, List.getElem?_cons_zero]; rfl) (by first | rfl | (rw [hops.out]; rfl)) ?_
  go_simp
  refine (cmp44 xs zs nxs nzs (-1) _ HX.out HZ.out H3.out).mono ?_
  rintro e Wn ⟨rfl, hb⟩
  have hS := HS.out.call hb
  clear HS; have HS := Lib.hid hS; clear hS
  clear hb
  refine ⟨HS.out, ?_⟩
  try simp only [Act.put, List.setIfInBounds_toArray, List.set_cons_succ, List.set_cons_zero]
  iterate 3
    first | (refine wpPi_yield _ (by rw [hops.out]; simp only [List.getElem?_toArray, List.getElem?_cons_succ, List.getElem?_cons_zero]; rfl) (by first | rfl | (rw [hops.out]; rfl)) (fun w' hS => by first | exact run_lda (n := 33) (cs := bs xs ++ [Value.int .u32 nxs]) ag44 (by rfl) (by rfl) (hS.range (i := 2) rfl (by rw [pt_len _ _ HX.out]; exact pt_all _ _ HX.out)) (pt_len _ _ HX.out) | exact run_lda (n := 33) (cs := bs ys ++ [Value.int .u32 nys]) ag44 (by rfl) (by rfl) (hS.range (i := 1) rfl (by rw [pt_len _ _ HY.out]; exact pt_all _ _ HY.out)) (pt_len _ _ HY.out) | exact run_lda (n := 33) (cs := bs zs ++ [Value.int .u32 nzs]) ag44 (by rfl) (by rfl) (hS.range (i := 0) rfl (by rw [pt_len _ _ HZ.out]; exact pt_all _ _ HZ.out)) (pt_len _ _ HZ.out) | (go_simp; rfl)) ?_; simp only [Act.put, List.setIfInBounds_toArray, List.set_cons_succ, List.set_cons_zero]) | (refine wpPi_skip (by rw [hops.out]; simp only [List.getElem?_toArray, List.getElem?_cons_succ, List.getElem?_cons_zero]; rfl) (by first | rfl | (rw [hops.out]; rfl)) ?_; simp only [Act.put, List.setIfInBounds_toArray, List.set_cons_succ, List.set_cons_zero])
  simp only [wpPi]
  clear OPS hops
  go_wp2_with (first
    | (refine atd 54 (by rfl) ?_; refine wl (by rfl) (s_lda (cs := bs ys ++ [Value.int .u32 nys]) HS.out 1 33 (by rfl) (by rfl) (by rfl) ag44 (by exact pt_all _ _ HY.out) (pt_len _ _ HY.out) ?_))
    | (refine atd 55 (by rfl) ?_; refine wl (by rfl) (s_lda (cs := bs xs ++ [Value.int .u32 nxs]) HS.out 2 33 (by rfl) (by rfl) (by rfl) ag44 (by exact pt_all _ _ HX.out) (pt_len _ _ HX.out) ?_))
    | (refine atd 64 (by rfl) ?_; refine wl (by rfl) (s_lda (cs := bs xs ++ [Value.int .u32 nxs]) HS.out 2 33 (by rfl) (by rfl) (by rfl) ag44 (by exact pt_all _ _ HX.out) (pt_len _ _ HX.out) ?_))
    | (refine atd 65 (by rfl) ?_; refine wl (by rfl) (s_lda (cs := bs ys ++ [Value.int .u32 nys]) HS.out 1 33 (by rfl) (by rfl) (by rfl) ag44 (by exact pt_all _ _ HY.out) (pt_len _ _ HY.out) ?_))
    | (refine atd 71 (by rfl) ?_; refine wl (by rfl) (s_lda (cs := bs xs) HS.out 2 32 (by rfl) (by rfl) (by rfl) ag23' (by exact pt_h _ _ HX.out) ((by rw [bs_length]; exact HX.out)) ?_))
    | (refine atd 73 (by rfl) ?_; refine wl (by rfl) (s_lda (cs := bs ys) HS.out 1 32 (by rfl) (by rfl) (by rfl) ag23' (by exact pt_h _ _ HY.out) ((by rw [bs_length]; exact HY.out)) ?_))
    | (refine atd 79 (by rfl) ?_; refine wl (by rfl) (s_ld HS.out 2 (by rfl) (by rfl) (by rfl) (by kernel_rfl) (by exact pt_32 _ _ HX.out) ?_))
    | (refine atd 81 (by rfl) ?_; refine wl (by rfl) (s_ld HS.out 1 (by rfl) (by rfl) (by rfl) (by kernel_rfl) (by exact pt_32 _ _ HY.out) ?_))
    | (go_at_call 44; refine (cmp44 ys xs nys nxs (1) _ HY.out HX.out H4.out).mono ?_; rintro e Wn ⟨rfl, hb⟩; have hS := HS.out.call hb; clear hb; clear HS; have HS := Lib.hid hS; clear hS))
  go_ret
  exact ⟨rfl, HS.out.below⟩
set_option maxHeartbeats 1000000 in
set_option maxRecDepth 100000 in
theorem sorted8_mpmd (xs ys zs : List UInt8) (nxs nys nzs : Int) (w : World) (hx : xs.length = 32) (hy : ys.length = 32) (hz : zs.length = 32) (h1 : O (xs, nxs) (ys, nys) = -1) (h2 : O (ys, nys) (zs, nzs) = 1) (h3 : O (xs, nxs) (zs, nzs) = -1) (hxy : ¬ xs = ys) :
    Calls Try.prog 8 #[.agg (bs xs ++ [Value.int .u32 nxs]).toArray, .agg (bs ys ++ [Value.int .u32 nys]).toArray, .agg (bs zs ++ [Value.int .u32 nzs]).toArray] w fun e w' => e = .returned (.bool true) ∧ Below w.heap.size w w' := by
  have HS := Lib.hid (St.start w)
  have HX := Lib.hid hx; have HY := Lib.hid hy; have HZ := Lib.hid hz
  have H1 := Lib.hid h1; have H2 := Lib.hid h2; have H3 := Lib.hid h3
  have H4 := Lib.hid (show O (ys, nys) (xs, nxs) = 1 by have h := O_neg (xs, nxs) (ys, nys); omega)
  have hq : ∀ W, (Op.equalIn 10000 23 (.agg (bs xs).toArray) (.agg (bs ys).toArray)).run Try.prog W = .ok false W := fun W => by
    have := eqH 9998 xs ys hx hy W
    rwa [decide_eq_false hxy] at this
  have hq0 : ∀ W, (Op.equalIn 9999 23 (.agg (List.take 32 (bs xs ++ [Value.int .u32 nxs])).toArray) (.agg (List.take 32 (bs ys ++ [Value.int .u32 nys])).toArray)).run Try.prog W = .ok false W := fun W => by
    rw [take_pt _ _ hx, take_pt _ _ hy]
    have := eqH 9997 xs ys hx hy W
    rwa [decide_eq_false hxy] at this
  have p1 := pt_32 xs nxs hx
  have p2 := pt_32 ys nys hy
  clear hx hy hz h1 h2 h3 hxy 
  go_enter Try.func8, Try.ntmps8
  go_wp2_with (first
    | (refine atd 3 (by rfl) ?_; refine wl (by rfl) (s_bx (l := bs xs ++ [Value.int .u32 nxs]) HS.out (by rfl) (by rfl) ?_); intro b3 Wn hS; clear HS; have HS := Lib.hid hS; clear hS)
    | (refine atd 4 (by rfl) ?_; refine wl (by rfl) (s_bx (l := bs ys ++ [Value.int .u32 nys]) HS.out (by rfl) (by rfl) ?_); intro b4 Wn hS; clear HS; have HS := Lib.hid hS; clear hS)
    | (refine atd 5 (by rfl) ?_; refine wl (by rfl) (s_bx (l := bs zs ++ [Value.int .u32 nzs]) HS.out (by rfl) (by rfl) ?_); intro b5 Wn hS; clear HS; have HS := Lib.hid hS; clear hS)
    | (go_at_call 33; refine (alive33 _).mono ?_; rintro e Wn ⟨rfl, hb⟩; have hS := HS.out.call hb; clear hb; clear HS; have HS := Lib.hid hS; clear hS))
  refine wp_region_pi [(0, true), (1, true), (3, true), (4, true), (6, true), (7, true), (2, false), (5, false), (8, false), (9, true), (10, true), (11, true)] (by kernel_rfl) (by kernel_rfl) rfl (by kernel_rfl) (fun _ _ _ _ _ h => h) (fun w' => St w w' [Blk b5 (bs zs ++ [Value.int .u32 nzs]) 44, Blk b4 (bs ys ++ [Value.int .u32 nys]) 44, Blk b3 (bs xs ++ [Value.int .u32 nxs]) 44] []) HS.out.drew ?_
  intro OPS hops
  have hS := HS.out.drew
  clear HS; have HS := Lib.hid hS; clear hS
  iterate 6
    first | (refine wpPi_yield _ (by rw [hops.out]; simp only [List.getElem?_toArray, List.getElem?_cons_succ, List.getElem?_cons_zero]; rfl) (by first | rfl | (rw [hops.out]; rfl)) (fun w' hS => by first | exact run_lda (n := 33) (cs := bs xs ++ [Value.int .u32 nxs]) ag44 (by rfl) (by rfl) (hS.range (i := 2) rfl (by rw [pt_len _ _ HX.out]; exact pt_all _ _ HX.out)) (pt_len _ _ HX.out) | exact run_lda (n := 33) (cs := bs ys ++ [Value.int .u32 nys]) ag44 (by rfl) (by rfl) (hS.range (i := 1) rfl (by rw [pt_len _ _ HY.out]; exact pt_all _ _ HY.out)) (pt_len _ _ HY.out) | exact run_lda (n := 33) (cs := bs zs ++ [Value.int .u32 nzs]) ag44 (by rfl) (by rfl) (hS.range (i := 0) rfl (by rw [pt_len _ _ HZ.out]; exact pt_all _ _ HZ.out)) (pt_len _ _ HZ.out) | (go_simp; rfl)) ?_; simp only [Act.put, List.setIfInBounds_toArray, List.set_cons_succ, List.set_cons_zero]) | (refine wpPi_skip (by rw [hops.out]; simp only [List.getElem?_toArray, List.getElem?_cons_succ, List.getElem?_cons_zero]; rfl) (by first | rfl | (rw [hops.out]; rfl)) ?_; simp only [Act.put, List.setIfInBounds_toArray, List.set_cons_succ, List.set_cons_zero])
  refine wpPi_act (by rw [hops.out]; simp only [List.getElem?_toArray, List.getElem?_cons_succ, List.getElem?_cons_zero]; rfl) (by first | rfl | (rw [hops.out]; rfl)) ?_
  go_simp
  refine (cmp44 xs ys nxs nys (-1) _ HX.out HY.out H1.out).mono ?_
  rintro e Wn ⟨rfl, hb⟩
  have hS := HS.out.call hb
  clear HS; have HS := Lib.hid hS; clear hS
  clear hb
  refine ⟨HS.out, ?_⟩
  try simp only [Act.put, List.setIfInBounds_toArray, List.set_cons_succ, List.set_cons_zero]
  refine wpPi_act (by rw [hops.out]; simp only [List.getElem?_toArray, List.getElem?_cons_succ, List.getElem?_cons_zero]; rfl) (by first | rfl | (rw [hops.out]; rfl)) ?_
  go_simp
  refine (cmp44 ys zs nys nzs (1) _ HY.out HZ.out H2.out).mono ?_
  rintro e Wn ⟨rfl, hb⟩
  have hS := HS.out.call hb
  clear HS; have HS := Lib.hid hS; clear hS
  clear hb
  refine ⟨HS.out, ?_⟩
  try simp only [Act.put, List.setIfInBounds_toArray, List.set_cons_succ, List.set_cons_zero]
  refine wpPi_act (by rw [hops.out]; simp only [List.getElem?_toArray, List.getElem?_cons_succ, List.getElem?_cons_zero]; rfl) (by first | rfl | (rw [hops.out]; rfl)) ?_
  go_simp
  refine (cmp44 xs zs nxs nzs (-1) _ HX.out HZ.out H3.out).mono ?_
  rintro e Wn ⟨rfl, hb⟩
  have hS := HS.out.call hb
  clear HS; have HS := Lib.hid hS; clear hS
  clear hb
  refine ⟨HS.out, ?_⟩
  try simp only [Act.put, List.setIfInBounds_toArray, List.set_cons_succ, List.set_cons_zero]
  iterate 3
    first | (refine wpPi_yield _ (by rw [hops.out]; simp only [List.getElem?_toArray, List.getElem?_cons_succ, List.getElem?_cons_zero]; rfl) (by first | rfl | (rw [hops.out]; rfl)) (fun w' hS => by first | exact run_lda (n := 33) (cs := bs xs ++ [Value.int .u32 nxs]) ag44 (by rfl) (by rfl) (hS.range (i := 2) rfl (by rw [pt_len _ _ HX.out]; exact pt_all _ _ HX.out)) (pt_len _ _ HX.out) | exact run_lda (n := 33) (cs := bs ys ++ [Value.int .u32 nys]) ag44 (by rfl) (by rfl) (hS.range (i := 1) rfl (by rw [pt_len _ _ HY.out]; exact pt_all _ _ HY.out)) (pt_len _ _ HY.out) | exact run_lda (n := 33) (cs := bs zs ++ [Value.int .u32 nzs]) ag44 (by rfl) (by rfl) (hS.range (i := 0) rfl (by rw [pt_len _ _ HZ.out]; exact pt_all _ _ HZ.out)) (pt_len _ _ HZ.out) | (go_simp; rfl)) ?_; simp only [Act.put, List.setIfInBounds_toArray, List.set_cons_succ, List.set_cons_zero]) | (refine wpPi_skip (by rw [hops.out]; simp only [List.getElem?_toArray, List.getElem?_cons_succ, List.getElem?_cons_zero]; rfl) (by first | rfl | (rw [hops.out]; rfl)) ?_; simp only [Act.put, List.setIfInBounds_toArray, List.set_cons_succ, List.set_cons_zero])
  simp only [wpPi]
  clear OPS hops
  go_wp2_with (first
    | (refine atd 54 (by rfl) ?_; refine wl (by rfl) (s_lda (cs := bs ys ++ [Value.int .u32 nys]) HS.out 1 33 (by rfl) (by rfl) (by rfl) ag44 (by exact pt_all _ _ HY.out) (pt_len _ _ HY.out) ?_))
    | (refine atd 55 (by rfl) ?_; refine wl (by rfl) (s_lda (cs := bs xs ++ [Value.int .u32 nxs]) HS.out 2 33 (by rfl) (by rfl) (by rfl) ag44 (by exact pt_all _ _ HX.out) (pt_len _ _ HX.out) ?_))
    | (refine atd 64 (by rfl) ?_; refine wl (by rfl) (s_lda (cs := bs xs ++ [Value.int .u32 nxs]) HS.out 2 33 (by rfl) (by rfl) (by rfl) ag44 (by exact pt_all _ _ HX.out) (pt_len _ _ HX.out) ?_))
    | (refine atd 65 (by rfl) ?_; refine wl (by rfl) (s_lda (cs := bs ys ++ [Value.int .u32 nys]) HS.out 1 33 (by rfl) (by rfl) (by rfl) ag44 (by exact pt_all _ _ HY.out) (pt_len _ _ HY.out) ?_))
    | (refine atd 71 (by rfl) ?_; refine wl (by rfl) (s_lda (cs := bs xs) HS.out 2 32 (by rfl) (by rfl) (by rfl) ag23' (by exact pt_h _ _ HX.out) ((by rw [bs_length]; exact HX.out)) ?_))
    | (refine atd 73 (by rfl) ?_; refine wl (by rfl) (s_lda (cs := bs ys) HS.out 1 32 (by rfl) (by rfl) (by rfl) ag23' (by exact pt_h _ _ HY.out) ((by rw [bs_length]; exact HY.out)) ?_))
    | (refine atd 79 (by rfl) ?_; refine wl (by rfl) (s_ld HS.out 2 (by rfl) (by rfl) (by rfl) (by kernel_rfl) (by exact pt_32 _ _ HX.out) ?_))
    | (refine atd 81 (by rfl) ?_; refine wl (by rfl) (s_ld HS.out 1 (by rfl) (by rfl) (by rfl) (by kernel_rfl) (by exact pt_32 _ _ HY.out) ?_))
    | (go_at_call 44; refine (cmp44 ys xs nys nxs (1) _ HY.out HX.out H4.out).mono ?_; rintro e Wn ⟨rfl, hb⟩; have hS := HS.out.call hb; clear hb; clear HS; have HS := Lib.hid hS; clear hS))
  go_ret
  exact ⟨rfl, HS.out.below⟩
set_option maxHeartbeats 1000000 in
set_option maxRecDepth 100000 in
theorem sorted8_mpzs (xs ys zs : List UInt8) (nxs nys nzs : Int) (w : World) (hx : xs.length = 32) (hy : ys.length = 32) (hz : zs.length = 32) (h1 : O (xs, nxs) (ys, nys) = -1) (h2 : O (ys, nys) (zs, nzs) = 1) (h3 : O (xs, nxs) (zs, nzs) = 0) (hxy : xs = ys) (hn : nxs < nys) :
    Calls Try.prog 8 #[.agg (bs xs ++ [Value.int .u32 nxs]).toArray, .agg (bs ys ++ [Value.int .u32 nys]).toArray, .agg (bs zs ++ [Value.int .u32 nzs]).toArray] w fun e w' => e = .returned (.bool true) ∧ Below w.heap.size w w' := by
  have HS := Lib.hid (St.start w)
  have HX := Lib.hid hx; have HY := Lib.hid hy; have HZ := Lib.hid hz
  have H1 := Lib.hid h1; have H2 := Lib.hid h2; have H3 := Lib.hid h3
  have H4 := Lib.hid (show O (ys, nys) (xs, nxs) = 1 by have h := O_neg (xs, nxs) (ys, nys); omega)
  have hq : ∀ W, (Op.equalIn 10000 23 (.agg (bs xs).toArray) (.agg (bs ys).toArray)).run Try.prog W = .ok true W := fun W => by
    have := eqH 9998 xs ys hx hy W
    rwa [decide_eq_true hxy] at this
  have hq0 : ∀ W, (Op.equalIn 9999 23 (.agg (List.take 32 (bs xs ++ [Value.int .u32 nxs])).toArray) (.agg (List.take 32 (bs ys ++ [Value.int .u32 nys])).toArray)).run Try.prog W = .ok true W := fun W => by
    rw [take_pt _ _ hx, take_pt _ _ hy]
    have := eqH 9997 xs ys hx hy W
    rwa [decide_eq_true hxy] at this
  have p1 := pt_32 xs nxs hx
  have p2 := pt_32 ys nys hy
  have k1 : nxs < nys := hn
  have k2 : (nxs == nys) = false := by rw [beq_eq_false_iff_ne]; omega
  clear hx hy hz h1 h2 h3 hxy hn
  go_enter Try.func8, Try.ntmps8
  go_wp2_with (first
    | (refine atd 3 (by rfl) ?_; refine wl (by rfl) (s_bx (l := bs xs ++ [Value.int .u32 nxs]) HS.out (by rfl) (by rfl) ?_); intro b3 Wn hS; clear HS; have HS := Lib.hid hS; clear hS)
    | (refine atd 4 (by rfl) ?_; refine wl (by rfl) (s_bx (l := bs ys ++ [Value.int .u32 nys]) HS.out (by rfl) (by rfl) ?_); intro b4 Wn hS; clear HS; have HS := Lib.hid hS; clear hS)
    | (refine atd 5 (by rfl) ?_; refine wl (by rfl) (s_bx (l := bs zs ++ [Value.int .u32 nzs]) HS.out (by rfl) (by rfl) ?_); intro b5 Wn hS; clear HS; have HS := Lib.hid hS; clear hS)
    | (go_at_call 33; refine (alive33 _).mono ?_; rintro e Wn ⟨rfl, hb⟩; have hS := HS.out.call hb; clear hb; clear HS; have HS := Lib.hid hS; clear hS))
  refine wp_region_pi [(0, true), (1, true), (3, true), (4, true), (6, true), (7, true), (2, false), (5, false), (8, false), (9, true), (10, true), (11, true)] (by kernel_rfl) (by kernel_rfl) rfl (by kernel_rfl) (fun _ _ _ _ _ h => h) (fun w' => St w w' [Blk b5 (bs zs ++ [Value.int .u32 nzs]) 44, Blk b4 (bs ys ++ [Value.int .u32 nys]) 44, Blk b3 (bs xs ++ [Value.int .u32 nxs]) 44] []) HS.out.drew ?_
  intro OPS hops
  have hS := HS.out.drew
  clear HS; have HS := Lib.hid hS; clear hS
  iterate 6
    first | (refine wpPi_yield _ (by rw [hops.out]; simp only [List.getElem?_toArray, List.getElem?_cons_succ, List.getElem?_cons_zero]; rfl) (by first | rfl | (rw [hops.out]; rfl)) (fun w' hS => by first | exact run_lda (n := 33) (cs := bs xs ++ [Value.int .u32 nxs]) ag44 (by rfl) (by rfl) (hS.range (i := 2) rfl (by rw [pt_len _ _ HX.out]; exact pt_all _ _ HX.out)) (pt_len _ _ HX.out) | exact run_lda (n := 33) (cs := bs ys ++ [Value.int .u32 nys]) ag44 (by rfl) (by rfl) (hS.range (i := 1) rfl (by rw [pt_len _ _ HY.out]; exact pt_all _ _ HY.out)) (pt_len _ _ HY.out) | exact run_lda (n := 33) (cs := bs zs ++ [Value.int .u32 nzs]) ag44 (by rfl) (by rfl) (hS.range (i := 0) rfl (by rw [pt_len _ _ HZ.out]; exact pt_all _ _ HZ.out)) (pt_len _ _ HZ.out) | (go_simp; rfl)) ?_; simp only [Act.put, List.setIfInBounds_toArray, List.set_cons_succ, List.set_cons_zero]) | (refine wpPi_skip (by rw [hops.out]; simp only [List.getElem?_toArray, List.getElem?_cons_succ, List.getElem?_cons_zero]; rfl) (by first | rfl | (rw [hops.out]; rfl)) ?_; simp only [Act.put, List.setIfInBounds_toArray, List.set_cons_succ, List.set_cons_zero])
  refine wpPi_act (by rw [hops.out]; simp only [List.getElem?_toArray, List.getElem?_cons_succ, List.getElem?_cons_zero]; rfl) (by first | rfl | (rw [hops.out]; rfl)) ?_
  go_simp
  refine (cmp44 xs ys nxs nys (-1) _ HX.out HY.out H1.out).mono ?_
  rintro e Wn ⟨rfl, hb⟩
  have hS := HS.out.call hb
  clear HS; have HS := Lib.hid hS; clear hS
  clear hb
  refine ⟨HS.out, ?_⟩
  try simp only [Act.put, List.setIfInBounds_toArray, List.set_cons_succ, List.set_cons_zero]
  refine wpPi_act (by rw [hops.out]; simp only [List.getElem?_toArray, List.getElem?_cons_succ, List.getElem?_cons_zero]; rfl) (by first | rfl | (rw [hops.out]; rfl)) ?_
  go_simp
  refine (cmp44 ys zs nys nzs (1) _ HY.out HZ.out H2.out).mono ?_
  rintro e Wn ⟨rfl, hb⟩
  have hS := HS.out.call hb
  clear HS; have HS := Lib.hid hS; clear hS
  clear hb
  refine ⟨HS.out, ?_⟩
  try simp only [Act.put, List.setIfInBounds_toArray, List.set_cons_succ, List.set_cons_zero]
  refine wpPi_act (by rw [hops.out]; simp only [List.getElem?_toArray, List.getElem?_cons_succ, List.getElem?_cons_zero]; rfl) (by first | rfl | (rw [hops.out]; rfl)) ?_
  go_simp
  refine (cmp44 xs zs nxs nzs (0) _ HX.out HZ.out H3.out).mono ?_
  rintro e Wn ⟨rfl, hb⟩
  have hS := HS.out.call hb
  clear HS; have HS := Lib.hid hS; clear hS
  clear hb
  refine ⟨HS.out, ?_⟩
  try simp only [Act.put, List.setIfInBounds_toArray, List.set_cons_succ, List.set_cons_zero]
  iterate 3
    first | (refine wpPi_yield _ (by rw [hops.out]; simp only [List.getElem?_toArray, List.getElem?_cons_succ, List.getElem?_cons_zero]; rfl) (by first | rfl | (rw [hops.out]; rfl)) (fun w' hS => by first | exact run_lda (n := 33) (cs := bs xs ++ [Value.int .u32 nxs]) ag44 (by rfl) (by rfl) (hS.range (i := 2) rfl (by rw [pt_len _ _ HX.out]; exact pt_all _ _ HX.out)) (pt_len _ _ HX.out) | exact run_lda (n := 33) (cs := bs ys ++ [Value.int .u32 nys]) ag44 (by rfl) (by rfl) (hS.range (i := 1) rfl (by rw [pt_len _ _ HY.out]; exact pt_all _ _ HY.out)) (pt_len _ _ HY.out) | exact run_lda (n := 33) (cs := bs zs ++ [Value.int .u32 nzs]) ag44 (by rfl) (by rfl) (hS.range (i := 0) rfl (by rw [pt_len _ _ HZ.out]; exact pt_all _ _ HZ.out)) (pt_len _ _ HZ.out) | (go_simp; rfl)) ?_; simp only [Act.put, List.setIfInBounds_toArray, List.set_cons_succ, List.set_cons_zero]) | (refine wpPi_skip (by rw [hops.out]; simp only [List.getElem?_toArray, List.getElem?_cons_succ, List.getElem?_cons_zero]; rfl) (by first | rfl | (rw [hops.out]; rfl)) ?_; simp only [Act.put, List.setIfInBounds_toArray, List.set_cons_succ, List.set_cons_zero])
  simp only [wpPi]
  clear OPS hops
  go_wp2_with (first
    | (refine atd 54 (by rfl) ?_; refine wl (by rfl) (s_lda (cs := bs ys ++ [Value.int .u32 nys]) HS.out 1 33 (by rfl) (by rfl) (by rfl) ag44 (by exact pt_all _ _ HY.out) (pt_len _ _ HY.out) ?_))
    | (refine atd 55 (by rfl) ?_; refine wl (by rfl) (s_lda (cs := bs xs ++ [Value.int .u32 nxs]) HS.out 2 33 (by rfl) (by rfl) (by rfl) ag44 (by exact pt_all _ _ HX.out) (pt_len _ _ HX.out) ?_))
    | (refine atd 64 (by rfl) ?_; refine wl (by rfl) (s_lda (cs := bs xs ++ [Value.int .u32 nxs]) HS.out 2 33 (by rfl) (by rfl) (by rfl) ag44 (by exact pt_all _ _ HX.out) (pt_len _ _ HX.out) ?_))
    | (refine atd 65 (by rfl) ?_; refine wl (by rfl) (s_lda (cs := bs ys ++ [Value.int .u32 nys]) HS.out 1 33 (by rfl) (by rfl) (by rfl) ag44 (by exact pt_all _ _ HY.out) (pt_len _ _ HY.out) ?_))
    | (refine atd 71 (by rfl) ?_; refine wl (by rfl) (s_lda (cs := bs xs) HS.out 2 32 (by rfl) (by rfl) (by rfl) ag23' (by exact pt_h _ _ HX.out) ((by rw [bs_length]; exact HX.out)) ?_))
    | (refine atd 73 (by rfl) ?_; refine wl (by rfl) (s_lda (cs := bs ys) HS.out 1 32 (by rfl) (by rfl) (by rfl) ag23' (by exact pt_h _ _ HY.out) ((by rw [bs_length]; exact HY.out)) ?_))
    | (refine atd 79 (by rfl) ?_; refine wl (by rfl) (s_ld HS.out 2 (by rfl) (by rfl) (by rfl) (by kernel_rfl) (by exact pt_32 _ _ HX.out) ?_))
    | (refine atd 81 (by rfl) ?_; refine wl (by rfl) (s_ld HS.out 1 (by rfl) (by rfl) (by rfl) (by kernel_rfl) (by exact pt_32 _ _ HY.out) ?_))
    | (go_at_call 44; refine (cmp44 ys xs nys nxs (1) _ HY.out HX.out H4.out).mono ?_; rintro e Wn ⟨rfl, hb⟩; have hS := HS.out.call hb; clear hb; clear HS; have HS := Lib.hid hS; clear hS))
  go_ret
  exact ⟨rfl, HS.out.below⟩
set_option maxHeartbeats 1000000 in
set_option maxRecDepth 100000 in
theorem sorted8_mpzd (xs ys zs : List UInt8) (nxs nys nzs : Int) (w : World) (hx : xs.length = 32) (hy : ys.length = 32) (hz : zs.length = 32) (h1 : O (xs, nxs) (ys, nys) = -1) (h2 : O (ys, nys) (zs, nzs) = 1) (h3 : O (xs, nxs) (zs, nzs) = 0) (hxy : ¬ xs = ys) :
    Calls Try.prog 8 #[.agg (bs xs ++ [Value.int .u32 nxs]).toArray, .agg (bs ys ++ [Value.int .u32 nys]).toArray, .agg (bs zs ++ [Value.int .u32 nzs]).toArray] w fun e w' => e = .returned (.bool true) ∧ Below w.heap.size w w' := by
  have HS := Lib.hid (St.start w)
  have HX := Lib.hid hx; have HY := Lib.hid hy; have HZ := Lib.hid hz
  have H1 := Lib.hid h1; have H2 := Lib.hid h2; have H3 := Lib.hid h3
  have H4 := Lib.hid (show O (ys, nys) (xs, nxs) = 1 by have h := O_neg (xs, nxs) (ys, nys); omega)
  have hq : ∀ W, (Op.equalIn 10000 23 (.agg (bs xs).toArray) (.agg (bs ys).toArray)).run Try.prog W = .ok false W := fun W => by
    have := eqH 9998 xs ys hx hy W
    rwa [decide_eq_false hxy] at this
  have hq0 : ∀ W, (Op.equalIn 9999 23 (.agg (List.take 32 (bs xs ++ [Value.int .u32 nxs])).toArray) (.agg (List.take 32 (bs ys ++ [Value.int .u32 nys])).toArray)).run Try.prog W = .ok false W := fun W => by
    rw [take_pt _ _ hx, take_pt _ _ hy]
    have := eqH 9997 xs ys hx hy W
    rwa [decide_eq_false hxy] at this
  have p1 := pt_32 xs nxs hx
  have p2 := pt_32 ys nys hy
  clear hx hy hz h1 h2 h3 hxy 
  go_enter Try.func8, Try.ntmps8
  go_wp2_with (first
    | (refine atd 3 (by rfl) ?_; refine wl (by rfl) (s_bx (l := bs xs ++ [Value.int .u32 nxs]) HS.out (by rfl) (by rfl) ?_); intro b3 Wn hS; clear HS; have HS := Lib.hid hS; clear hS)
    | (refine atd 4 (by rfl) ?_; refine wl (by rfl) (s_bx (l := bs ys ++ [Value.int .u32 nys]) HS.out (by rfl) (by rfl) ?_); intro b4 Wn hS; clear HS; have HS := Lib.hid hS; clear hS)
    | (refine atd 5 (by rfl) ?_; refine wl (by rfl) (s_bx (l := bs zs ++ [Value.int .u32 nzs]) HS.out (by rfl) (by rfl) ?_); intro b5 Wn hS; clear HS; have HS := Lib.hid hS; clear hS)
    | (go_at_call 33; refine (alive33 _).mono ?_; rintro e Wn ⟨rfl, hb⟩; have hS := HS.out.call hb; clear hb; clear HS; have HS := Lib.hid hS; clear hS))
  refine wp_region_pi [(0, true), (1, true), (3, true), (4, true), (6, true), (7, true), (2, false), (5, false), (8, false), (9, true), (10, true), (11, true)] (by kernel_rfl) (by kernel_rfl) rfl (by kernel_rfl) (fun _ _ _ _ _ h => h) (fun w' => St w w' [Blk b5 (bs zs ++ [Value.int .u32 nzs]) 44, Blk b4 (bs ys ++ [Value.int .u32 nys]) 44, Blk b3 (bs xs ++ [Value.int .u32 nxs]) 44] []) HS.out.drew ?_
  intro OPS hops
  have hS := HS.out.drew
  clear HS; have HS := Lib.hid hS; clear hS
  iterate 6
    first | (refine wpPi_yield _ (by rw [hops.out]; simp only [List.getElem?_toArray, List.getElem?_cons_succ, List.getElem?_cons_zero]; rfl) (by first | rfl | (rw [hops.out]; rfl)) (fun w' hS => by first | exact run_lda (n := 33) (cs := bs xs ++ [Value.int .u32 nxs]) ag44 (by rfl) (by rfl) (hS.range (i := 2) rfl (by rw [pt_len _ _ HX.out]; exact pt_all _ _ HX.out)) (pt_len _ _ HX.out) | exact run_lda (n := 33) (cs := bs ys ++ [Value.int .u32 nys]) ag44 (by rfl) (by rfl) (hS.range (i := 1) rfl (by rw [pt_len _ _ HY.out]; exact pt_all _ _ HY.out)) (pt_len _ _ HY.out) | exact run_lda (n := 33) (cs := bs zs ++ [Value.int .u32 nzs]) ag44 (by rfl) (by rfl) (hS.range (i := 0) rfl (by rw [pt_len _ _ HZ.out]; exact pt_all _ _ HZ.out)) (pt_len _ _ HZ.out) | (go_simp; rfl)) ?_; simp only [Act.put, List.setIfInBounds_toArray, List.set_cons_succ, List.set_cons_zero]) | (refine wpPi_skip (by rw [hops.out]; simp only [List.getElem?_toArray, List.getElem?_cons_succ, List.getElem?_cons_zero]; rfl) (by first | rfl | (rw [hops.out]; rfl)) ?_; simp only [Act.put, List.setIfInBounds_toArray, List.set_cons_succ, List.set_cons_zero])
  refine wpPi_act (by rw [hops.out]; simp only [List.getElem?_toArray, List.getElem?_cons_succ, List.getElem?_cons_zero]; rfl) (by first | rfl | (rw [hops.out]; rfl)) ?_
  go_simp
  refine (cmp44 xs ys nxs nys (-1) _ HX.out HY.out H1.out).mono ?_
  rintro e Wn ⟨rfl, hb⟩
  have hS := HS.out.call hb
  clear HS; have HS := Lib.hid hS; clear hS
  clear hb
  refine ⟨HS.out, ?_⟩
  try simp only [Act.put, List.setIfInBounds_toArray, List.set_cons_succ, List.set_cons_zero]
  refine wpPi_act (by rw [hops.out]; simp only [List.getElem?_toArray, List.getElem?_cons_succ, List.getElem?_cons_zero]; rfl) (by first | rfl | (rw [hops.out]; rfl)) ?_
  go_simp
  refine (cmp44 ys zs nys nzs (1) _ HY.out HZ.out H2.out).mono ?_
  rintro e Wn ⟨rfl, hb⟩
  have hS := HS.out.call hb
  clear HS; have HS := Lib.hid hS; clear hS
  clear hb
  refine ⟨HS.out, ?_⟩
  try simp only [Act.put, List.setIfInBounds_toArray, List.set_cons_succ, List.set_cons_zero]
  refine wpPi_act (by rw [hops.out]; simp only [List.getElem?_toArray, List.getElem?_cons_succ, List.getElem?_cons_zero]; rfl) (by first | rfl | (rw [hops.out]; rfl)) ?_
  go_simp
  refine (cmp44 xs zs nxs nzs (0) _ HX.out HZ.out H3.out).mono ?_
  rintro e Wn ⟨rfl, hb⟩
  have hS := HS.out.call hb
  clear HS; have HS := Lib.hid hS; clear hS
  clear hb
  refine ⟨HS.out, ?_⟩
  try simp only [Act.put, List.setIfInBounds_toArray, List.set_cons_succ, List.set_cons_zero]
  iterate 3
    first | (refine wpPi_yield _ (by rw [hops.out]; simp only [List.getElem?_toArray, List.getElem?_cons_succ, List.getElem?_cons_zero]; rfl) (by first | rfl | (rw [hops.out]; rfl)) (fun w' hS => by first | exact run_lda (n := 33) (cs := bs xs ++ [Value.int .u32 nxs]) ag44 (by rfl) (by rfl) (hS.range (i := 2) rfl (by rw [pt_len _ _ HX.out]; exact pt_all _ _ HX.out)) (pt_len _ _ HX.out) | exact run_lda (n := 33) (cs := bs ys ++ [Value.int .u32 nys]) ag44 (by rfl) (by rfl) (hS.range (i := 1) rfl (by rw [pt_len _ _ HY.out]; exact pt_all _ _ HY.out)) (pt_len _ _ HY.out) | exact run_lda (n := 33) (cs := bs zs ++ [Value.int .u32 nzs]) ag44 (by rfl) (by rfl) (hS.range (i := 0) rfl (by rw [pt_len _ _ HZ.out]; exact pt_all _ _ HZ.out)) (pt_len _ _ HZ.out) | (go_simp; rfl)) ?_; simp only [Act.put, List.setIfInBounds_toArray, List.set_cons_succ, List.set_cons_zero]) | (refine wpPi_skip (by rw [hops.out]; simp only [List.getElem?_toArray, List.getElem?_cons_succ, List.getElem?_cons_zero]; rfl) (by first | rfl | (rw [hops.out]; rfl)) ?_; simp only [Act.put, List.setIfInBounds_toArray, List.set_cons_succ, List.set_cons_zero])
  simp only [wpPi]
  clear OPS hops
  go_wp2_with (first
    | (refine atd 54 (by rfl) ?_; refine wl (by rfl) (s_lda (cs := bs ys ++ [Value.int .u32 nys]) HS.out 1 33 (by rfl) (by rfl) (by rfl) ag44 (by exact pt_all _ _ HY.out) (pt_len _ _ HY.out) ?_))
    | (refine atd 55 (by rfl) ?_; refine wl (by rfl) (s_lda (cs := bs xs ++ [Value.int .u32 nxs]) HS.out 2 33 (by rfl) (by rfl) (by rfl) ag44 (by exact pt_all _ _ HX.out) (pt_len _ _ HX.out) ?_))
    | (refine atd 64 (by rfl) ?_; refine wl (by rfl) (s_lda (cs := bs xs ++ [Value.int .u32 nxs]) HS.out 2 33 (by rfl) (by rfl) (by rfl) ag44 (by exact pt_all _ _ HX.out) (pt_len _ _ HX.out) ?_))
    | (refine atd 65 (by rfl) ?_; refine wl (by rfl) (s_lda (cs := bs ys ++ [Value.int .u32 nys]) HS.out 1 33 (by rfl) (by rfl) (by rfl) ag44 (by exact pt_all _ _ HY.out) (pt_len _ _ HY.out) ?_))
    | (refine atd 71 (by rfl) ?_; refine wl (by rfl) (s_lda (cs := bs xs) HS.out 2 32 (by rfl) (by rfl) (by rfl) ag23' (by exact pt_h _ _ HX.out) ((by rw [bs_length]; exact HX.out)) ?_))
    | (refine atd 73 (by rfl) ?_; refine wl (by rfl) (s_lda (cs := bs ys) HS.out 1 32 (by rfl) (by rfl) (by rfl) ag23' (by exact pt_h _ _ HY.out) ((by rw [bs_length]; exact HY.out)) ?_))
    | (refine atd 79 (by rfl) ?_; refine wl (by rfl) (s_ld HS.out 2 (by rfl) (by rfl) (by rfl) (by kernel_rfl) (by exact pt_32 _ _ HX.out) ?_))
    | (refine atd 81 (by rfl) ?_; refine wl (by rfl) (s_ld HS.out 1 (by rfl) (by rfl) (by rfl) (by kernel_rfl) (by exact pt_32 _ _ HY.out) ?_))
    | (go_at_call 44; refine (cmp44 ys xs nys nxs (1) _ HY.out HX.out H4.out).mono ?_; rintro e Wn ⟨rfl, hb⟩; have hS := HS.out.call hb; clear hb; clear HS; have HS := Lib.hid hS; clear hS))
  go_ret
  exact ⟨rfl, HS.out.below⟩
set_option maxHeartbeats 1000000 in
set_option maxRecDepth 100000 in
theorem sorted8_mpps (xs ys zs : List UInt8) (nxs nys nzs : Int) (w : World) (hx : xs.length = 32) (hy : ys.length = 32) (hz : zs.length = 32) (h1 : O (xs, nxs) (ys, nys) = -1) (h2 : O (ys, nys) (zs, nzs) = 1) (h3 : O (xs, nxs) (zs, nzs) = 1) (hxy : xs = ys) (hn : nxs < nys) :
    Calls Try.prog 8 #[.agg (bs xs ++ [Value.int .u32 nxs]).toArray, .agg (bs ys ++ [Value.int .u32 nys]).toArray, .agg (bs zs ++ [Value.int .u32 nzs]).toArray] w fun e w' => e = .returned (.bool true) ∧ Below w.heap.size w w' := by
  have HS := Lib.hid (St.start w)
  have HX := Lib.hid hx; have HY := Lib.hid hy; have HZ := Lib.hid hz
  have H1 := Lib.hid h1; have H2 := Lib.hid h2; have H3 := Lib.hid h3
  have H4 := Lib.hid (show O (ys, nys) (xs, nxs) = 1 by have h := O_neg (xs, nxs) (ys, nys); omega)
  have hq : ∀ W, (Op.equalIn 10000 23 (.agg (bs xs).toArray) (.agg (bs ys).toArray)).run Try.prog W = .ok true W := fun W => by
    have := eqH 9998 xs ys hx hy W
    rwa [decide_eq_true hxy] at this
  have hq0 : ∀ W, (Op.equalIn 9999 23 (.agg (List.take 32 (bs xs ++ [Value.int .u32 nxs])).toArray) (.agg (List.take 32 (bs ys ++ [Value.int .u32 nys])).toArray)).run Try.prog W = .ok true W := fun W => by
    rw [take_pt _ _ hx, take_pt _ _ hy]
    have := eqH 9997 xs ys hx hy W
    rwa [decide_eq_true hxy] at this
  have p1 := pt_32 xs nxs hx
  have p2 := pt_32 ys nys hy
  have k1 : nxs < nys := hn
  have k2 : (nxs == nys) = false := by rw [beq_eq_false_iff_ne]; omega
  clear hx hy hz h1 h2 h3 hxy hn
  go_enter Try.func8, Try.ntmps8
  go_wp2_with (first
    | (refine atd 3 (by rfl) ?_; refine wl (by rfl) (s_bx (l := bs xs ++ [Value.int .u32 nxs]) HS.out (by rfl) (by rfl) ?_); intro b3 Wn hS; clear HS; have HS := Lib.hid hS; clear hS)
    | (refine atd 4 (by rfl) ?_; refine wl (by rfl) (s_bx (l := bs ys ++ [Value.int .u32 nys]) HS.out (by rfl) (by rfl) ?_); intro b4 Wn hS; clear HS; have HS := Lib.hid hS; clear hS)
    | (refine atd 5 (by rfl) ?_; refine wl (by rfl) (s_bx (l := bs zs ++ [Value.int .u32 nzs]) HS.out (by rfl) (by rfl) ?_); intro b5 Wn hS; clear HS; have HS := Lib.hid hS; clear hS)
    | (go_at_call 33; refine (alive33 _).mono ?_; rintro e Wn ⟨rfl, hb⟩; have hS := HS.out.call hb; clear hb; clear HS; have HS := Lib.hid hS; clear hS))
  refine wp_region_pi [(0, true), (1, true), (3, true), (4, true), (6, true), (7, true), (2, false), (5, false), (8, false), (9, true), (10, true), (11, true)] (by kernel_rfl) (by kernel_rfl) rfl (by kernel_rfl) (fun _ _ _ _ _ h => h) (fun w' => St w w' [Blk b5 (bs zs ++ [Value.int .u32 nzs]) 44, Blk b4 (bs ys ++ [Value.int .u32 nys]) 44, Blk b3 (bs xs ++ [Value.int .u32 nxs]) 44] []) HS.out.drew ?_
  intro OPS hops
  have hS := HS.out.drew
  clear HS; have HS := Lib.hid hS; clear hS
  iterate 6
    first | (refine wpPi_yield _ (by rw [hops.out]; simp only [List.getElem?_toArray, List.getElem?_cons_succ, List.getElem?_cons_zero]; rfl) (by first | rfl | (rw [hops.out]; rfl)) (fun w' hS => by first | exact run_lda (n := 33) (cs := bs xs ++ [Value.int .u32 nxs]) ag44 (by rfl) (by rfl) (hS.range (i := 2) rfl (by rw [pt_len _ _ HX.out]; exact pt_all _ _ HX.out)) (pt_len _ _ HX.out) | exact run_lda (n := 33) (cs := bs ys ++ [Value.int .u32 nys]) ag44 (by rfl) (by rfl) (hS.range (i := 1) rfl (by rw [pt_len _ _ HY.out]; exact pt_all _ _ HY.out)) (pt_len _ _ HY.out) | exact run_lda (n := 33) (cs := bs zs ++ [Value.int .u32 nzs]) ag44 (by rfl) (by rfl) (hS.range (i := 0) rfl (by rw [pt_len _ _ HZ.out]; exact pt_all _ _ HZ.out)) (pt_len _ _ HZ.out) | (go_simp; rfl)) ?_; simp only [Act.put, List.setIfInBounds_toArray, List.set_cons_succ, List.set_cons_zero]) | (refine wpPi_skip (by rw [hops.out]; simp only [List.getElem?_toArray, List.getElem?_cons_succ, List.getElem?_cons_zero]; rfl) (by first | rfl | (rw [hops.out]; rfl)) ?_; simp only [Act.put, List.setIfInBounds_toArray, List.set_cons_succ, List.set_cons_zero])
  refine wpPi_act (by rw [hops.out]; simp only [List.getElem?_toArray, List.getElem?_cons_succ, List.getElem?_cons_zero]; rfl) (by first | rfl | (rw [hops.out]; rfl)) ?_
  go_simp
  refine (cmp44 xs ys nxs nys (-1) _ HX.out HY.out H1.out).mono ?_
  rintro e Wn ⟨rfl, hb⟩
  have hS := HS.out.call hb
  clear HS; have HS := Lib.hid hS; clear hS
  clear hb
  refine ⟨HS.out, ?_⟩
  try simp only [Act.put, List.setIfInBounds_toArray, List.set_cons_succ, List.set_cons_zero]
  refine wpPi_act (by rw [hops.out]; simp only [List.getElem?_toArray, List.getElem?_cons_succ, List.getElem?_cons_zero]; rfl) (by first | rfl | (rw [hops.out]; rfl)) ?_
  go_simp
  refine (cmp44 ys zs nys nzs (1) _ HY.out HZ.out H2.out).mono ?_
  rintro e Wn ⟨rfl, hb⟩
  have hS := HS.out.call hb
  clear HS; have HS := Lib.hid hS; clear hS
  clear hb
  refine ⟨HS.out, ?_⟩
  try simp only [Act.put, List.setIfInBounds_toArray, List.set_cons_succ, List.set_cons_zero]
  refine wpPi_act (by rw [hops.out]; simp only [List.getElem?_toArray, List.getElem?_cons_succ, List.getElem?_cons_zero]; rfl) (by first | rfl | (rw [hops.out]; rfl)) ?_
  go_simp
  refine (cmp44 xs zs nxs nzs (1) _ HX.out HZ.out H3.out).mono ?_
  rintro e Wn ⟨rfl, hb⟩
  have hS := HS.out.call hb
  clear HS; have HS := Lib.hid hS; clear hS
  clear hb
  refine ⟨HS.out, ?_⟩
  try simp only [Act.put, List.setIfInBounds_toArray, List.set_cons_succ, List.set_cons_zero]
  iterate 3
    first | (refine wpPi_yield _ (by rw [hops.out]; simp only [List.getElem?_toArray, List.getElem?_cons_succ, List.getElem?_cons_zero]; rfl) (by first | rfl | (rw [hops.out]; rfl)) (fun w' hS => by first | exact run_lda (n := 33) (cs := bs xs ++ [Value.int .u32 nxs]) ag44 (by rfl) (by rfl) (hS.range (i := 2) rfl (by rw [pt_len _ _ HX.out]; exact pt_all _ _ HX.out)) (pt_len _ _ HX.out) | exact run_lda (n := 33) (cs := bs ys ++ [Value.int .u32 nys]) ag44 (by rfl) (by rfl) (hS.range (i := 1) rfl (by rw [pt_len _ _ HY.out]; exact pt_all _ _ HY.out)) (pt_len _ _ HY.out) | exact run_lda (n := 33) (cs := bs zs ++ [Value.int .u32 nzs]) ag44 (by rfl) (by rfl) (hS.range (i := 0) rfl (by rw [pt_len _ _ HZ.out]; exact pt_all _ _ HZ.out)) (pt_len _ _ HZ.out) | (go_simp; rfl)) ?_; simp only [Act.put, List.setIfInBounds_toArray, List.set_cons_succ, List.set_cons_zero]) | (refine wpPi_skip (by rw [hops.out]; simp only [List.getElem?_toArray, List.getElem?_cons_succ, List.getElem?_cons_zero]; rfl) (by first | rfl | (rw [hops.out]; rfl)) ?_; simp only [Act.put, List.setIfInBounds_toArray, List.set_cons_succ, List.set_cons_zero])
  simp only [wpPi]
  clear OPS hops
  go_wp2_with (first
    | (refine atd 54 (by rfl) ?_; refine wl (by rfl) (s_lda (cs := bs ys ++ [Value.int .u32 nys]) HS.out 1 33 (by rfl) (by rfl) (by rfl) ag44 (by exact pt_all _ _ HY.out) (pt_len _ _ HY.out) ?_))
    | (refine atd 55 (by rfl) ?_; refine wl (by rfl) (s_lda (cs := bs xs ++ [Value.int .u32 nxs]) HS.out 2 33 (by rfl) (by rfl) (by rfl) ag44 (by exact pt_all _ _ HX.out) (pt_len _ _ HX.out) ?_))
    | (refine atd 64 (by rfl) ?_; refine wl (by rfl) (s_lda (cs := bs xs ++ [Value.int .u32 nxs]) HS.out 2 33 (by rfl) (by rfl) (by rfl) ag44 (by exact pt_all _ _ HX.out) (pt_len _ _ HX.out) ?_))
    | (refine atd 65 (by rfl) ?_; refine wl (by rfl) (s_lda (cs := bs ys ++ [Value.int .u32 nys]) HS.out 1 33 (by rfl) (by rfl) (by rfl) ag44 (by exact pt_all _ _ HY.out) (pt_len _ _ HY.out) ?_))
    | (refine atd 71 (by rfl) ?_; refine wl (by rfl) (s_lda (cs := bs xs) HS.out 2 32 (by rfl) (by rfl) (by rfl) ag23' (by exact pt_h _ _ HX.out) ((by rw [bs_length]; exact HX.out)) ?_))
    | (refine atd 73 (by rfl) ?_; refine wl (by rfl) (s_lda (cs := bs ys) HS.out 1 32 (by rfl) (by rfl) (by rfl) ag23' (by exact pt_h _ _ HY.out) ((by rw [bs_length]; exact HY.out)) ?_))
    | (refine atd 79 (by rfl) ?_; refine wl (by rfl) (s_ld HS.out 2 (by rfl) (by rfl) (by rfl) (by kernel_rfl) (by exact pt_32 _ _ HX.out) ?_))
    | (refine atd 81 (by rfl) ?_; refine wl (by rfl) (s_ld HS.out 1 (by rfl) (by rfl) (by rfl) (by kernel_rfl) (by exact pt_32 _ _ HY.out) ?_))
    | (go_at_call 44; refine (cmp44 ys xs nys nxs (1) _ HY.out HX.out H4.out).mono ?_; rintro e Wn ⟨rfl, hb⟩; have hS := HS.out.call hb; clear hb; clear HS; have HS := Lib.hid hS; clear hS))
  go_ret
  exact ⟨rfl, HS.out.below⟩
set_option maxHeartbeats 1000000 in
set_option maxRecDepth 100000 in
theorem sorted8_mppd (xs ys zs : List UInt8) (nxs nys nzs : Int) (w : World) (hx : xs.length = 32) (hy : ys.length = 32) (hz : zs.length = 32) (h1 : O (xs, nxs) (ys, nys) = -1) (h2 : O (ys, nys) (zs, nzs) = 1) (h3 : O (xs, nxs) (zs, nzs) = 1) (hxy : ¬ xs = ys) :
    Calls Try.prog 8 #[.agg (bs xs ++ [Value.int .u32 nxs]).toArray, .agg (bs ys ++ [Value.int .u32 nys]).toArray, .agg (bs zs ++ [Value.int .u32 nzs]).toArray] w fun e w' => e = .returned (.bool true) ∧ Below w.heap.size w w' := by
  have HS := Lib.hid (St.start w)
  have HX := Lib.hid hx; have HY := Lib.hid hy; have HZ := Lib.hid hz
  have H1 := Lib.hid h1; have H2 := Lib.hid h2; have H3 := Lib.hid h3
  have H4 := Lib.hid (show O (ys, nys) (xs, nxs) = 1 by have h := O_neg (xs, nxs) (ys, nys); omega)
  have hq : ∀ W, (Op.equalIn 10000 23 (.agg (bs xs).toArray) (.agg (bs ys).toArray)).run Try.prog W = .ok false W := fun W => by
    have := eqH 9998 xs ys hx hy W
    rwa [decide_eq_false hxy] at this
  have hq0 : ∀ W, (Op.equalIn 9999 23 (.agg (List.take 32 (bs xs ++ [Value.int .u32 nxs])).toArray) (.agg (List.take 32 (bs ys ++ [Value.int .u32 nys])).toArray)).run Try.prog W = .ok false W := fun W => by
    rw [take_pt _ _ hx, take_pt _ _ hy]
    have := eqH 9997 xs ys hx hy W
    rwa [decide_eq_false hxy] at this
  have p1 := pt_32 xs nxs hx
  have p2 := pt_32 ys nys hy
  clear hx hy hz h1 h2 h3 hxy 
  go_enter Try.func8, Try.ntmps8
  go_wp2_with (first
    | (refine atd 3 (by rfl) ?_; refine wl (by rfl) (s_bx (l := bs xs ++ [Value.int .u32 nxs]) HS.out (by rfl) (by rfl) ?_); intro b3 Wn hS; clear HS; have HS := Lib.hid hS; clear hS)
    | (refine atd 4 (by rfl) ?_; refine wl (by rfl) (s_bx (l := bs ys ++ [Value.int .u32 nys]) HS.out (by rfl) (by rfl) ?_); intro b4 Wn hS; clear HS; have HS := Lib.hid hS; clear hS)
    | (refine atd 5 (by rfl) ?_; refine wl (by rfl) (s_bx (l := bs zs ++ [Value.int .u32 nzs]) HS.out (by rfl) (by rfl) ?_); intro b5 Wn hS; clear HS; have HS := Lib.hid hS; clear hS)
    | (go_at_call 33; refine (alive33 _).mono ?_; rintro e Wn ⟨rfl, hb⟩; have hS := HS.out.call hb; clear hb; clear HS; have HS := Lib.hid hS; clear hS))
  refine wp_region_pi [(0, true), (1, true), (3, true), (4, true), (6, true), (7, true), (2, false), (5, false), (8, false), (9, true), (10, true), (11, true)] (by kernel_rfl) (by kernel_rfl) rfl (by kernel_rfl) (fun _ _ _ _ _ h => h) (fun w' => St w w' [Blk b5 (bs zs ++ [Value.int .u32 nzs]) 44, Blk b4 (bs ys ++ [Value.int .u32 nys]) 44, Blk b3 (bs xs ++ [Value.int .u32 nxs]) 44] []) HS.out.drew ?_
  intro OPS hops
  have hS := HS.out.drew
  clear HS; have HS := Lib.hid hS; clear hS
  iterate 6
    first | (refine wpPi_yield _ (by rw [hops.out]; simp only [List.getElem?_toArray, List.getElem?_cons_succ, List.getElem?_cons_zero]; rfl) (by first | rfl | (rw [hops.out]; rfl)) (fun w' hS => by first | exact run_lda (n := 33) (cs := bs xs ++ [Value.int .u32 nxs]) ag44 (by rfl) (by rfl) (hS.range (i := 2) rfl (by rw [pt_len _ _ HX.out]; exact pt_all _ _ HX.out)) (pt_len _ _ HX.out) | exact run_lda (n := 33) (cs := bs ys ++ [Value.int .u32 nys]) ag44 (by rfl) (by rfl) (hS.range (i := 1) rfl (by rw [pt_len _ _ HY.out]; exact pt_all _ _ HY.out)) (pt_len _ _ HY.out) | exact run_lda (n := 33) (cs := bs zs ++ [Value.int .u32 nzs]) ag44 (by rfl) (by rfl) (hS.range (i := 0) rfl (by rw [pt_len _ _ HZ.out]; exact pt_all _ _ HZ.out)) (pt_len _ _ HZ.out) | (go_simp; rfl)) ?_; simp only [Act.put, List.setIfInBounds_toArray, List.set_cons_succ, List.set_cons_zero]) | (refine wpPi_skip (by rw [hops.out]; simp only [List.getElem?_toArray, List.getElem?_cons_succ, List.getElem?_cons_zero]; rfl) (by first | rfl | (rw [hops.out]; rfl)) ?_; simp only [Act.put, List.setIfInBounds_toArray, List.set_cons_succ, List.set_cons_zero])
  refine wpPi_act (by rw [hops.out]; simp only [List.getElem?_toArray, List.getElem?_cons_succ, List.getElem?_cons_zero]; rfl) (by first | rfl | (rw [hops.out]; rfl)) ?_
  go_simp
  refine (cmp44 xs ys nxs nys (-1) _ HX.out HY.out H1.out).mono ?_
  rintro e Wn ⟨rfl, hb⟩
  have hS := HS.out.call hb
  clear HS; have HS := Lib.hid hS; clear hS
  clear hb
  refine ⟨HS.out, ?_⟩
  try simp only [Act.put, List.setIfInBounds_toArray, List.set_cons_succ, List.set_cons_zero]
  refine wpPi_act (by rw [hops.out]; simp only [List.getElem?_toArray, List.getElem?_cons_succ, List.getElem?_cons_zero]; rfl) (by first | rfl | (rw [hops.out]; rfl)) ?_
  go_simp
  refine (cmp44 ys zs nys nzs (1) _ HY.out HZ.out H2.out).mono ?_
  rintro e Wn ⟨rfl, hb⟩
  have hS := HS.out.call hb
  clear HS; have HS := Lib.hid hS; clear hS
  clear hb
  refine ⟨HS.out, ?_⟩
  try simp only [Act.put, List.setIfInBounds_toArray, List.set_cons_succ, List.set_cons_zero]
  refine wpPi_act (by rw [hops.out]; simp only [List.getElem?_toArray, List.getElem?_cons_succ, List.getElem?_cons_zero]; rfl) (by first | rfl | (rw [hops.out]; rfl)) ?_
  go_simp
  refine (cmp44 xs zs nxs nzs (1) _ HX.out HZ.out H3.out).mono ?_
  rintro e Wn ⟨rfl, hb⟩
  have hS := HS.out.call hb
  clear HS; have HS := Lib.hid hS; clear hS
  clear hb
  refine ⟨HS.out, ?_⟩
  try simp only [Act.put, List.setIfInBounds_toArray, List.set_cons_succ, List.set_cons_zero]
  iterate 3
    first | (refine wpPi_yield _ (by rw [hops.out]; simp only [List.getElem?_toArray, List.getElem?_cons_succ, List.getElem?_cons_zero]; rfl) (by first | rfl | (rw [hops.out]; rfl)) (fun w' hS => by first | exact run_lda (n := 33) (cs := bs xs ++ [Value.int .u32 nxs]) ag44 (by rfl) (by rfl) (hS.range (i := 2) rfl (by rw [pt_len _ _ HX.out]; exact pt_all _ _ HX.out)) (pt_len _ _ HX.out) | exact run_lda (n := 33) (cs := bs ys ++ [Value.int .u32 nys]) ag44 (by rfl) (by rfl) (hS.range (i := 1) rfl (by rw [pt_len _ _ HY.out]; exact pt_all _ _ HY.out)) (pt_len _ _ HY.out) | exact run_lda (n := 33) (cs := bs zs ++ [Value.int .u32 nzs]) ag44 (by rfl) (by rfl) (hS.range (i := 0) rfl (by rw [pt_len _ _ HZ.out]; exact pt_all _ _ HZ.out)) (pt_len _ _ HZ.out) | (go_simp; rfl)) ?_; simp only [Act.put, List.setIfInBounds_toArray, List.set_cons_succ, List.set_cons_zero]) | (refine wpPi_skip (by rw [hops.out]; simp only [List.getElem?_toArray, List.getElem?_cons_succ, List.getElem?_cons_zero]; rfl) (by first | rfl | (rw [hops.out]; rfl)) ?_; simp only [Act.put, List.setIfInBounds_toArray, List.set_cons_succ, List.set_cons_zero])
  simp only [wpPi]
  clear OPS hops
  go_wp2_with (first
    | (refine atd 54 (by rfl) ?_; refine wl (by rfl) (s_lda (cs := bs ys ++ [Value.int .u32 nys]) HS.out 1 33 (by rfl) (by rfl) (by rfl) ag44 (by exact pt_all _ _ HY.out) (pt_len _ _ HY.out) ?_))
    | (refine atd 55 (by rfl) ?_; refine wl (by rfl) (s_lda (cs := bs xs ++ [Value.int .u32 nxs]) HS.out 2 33 (by rfl) (by rfl) (by rfl) ag44 (by exact pt_all _ _ HX.out) (pt_len _ _ HX.out) ?_))
    | (refine atd 64 (by rfl) ?_; refine wl (by rfl) (s_lda (cs := bs xs ++ [Value.int .u32 nxs]) HS.out 2 33 (by rfl) (by rfl) (by rfl) ag44 (by exact pt_all _ _ HX.out) (pt_len _ _ HX.out) ?_))
    | (refine atd 65 (by rfl) ?_; refine wl (by rfl) (s_lda (cs := bs ys ++ [Value.int .u32 nys]) HS.out 1 33 (by rfl) (by rfl) (by rfl) ag44 (by exact pt_all _ _ HY.out) (pt_len _ _ HY.out) ?_))
    | (refine atd 71 (by rfl) ?_; refine wl (by rfl) (s_lda (cs := bs xs) HS.out 2 32 (by rfl) (by rfl) (by rfl) ag23' (by exact pt_h _ _ HX.out) ((by rw [bs_length]; exact HX.out)) ?_))
    | (refine atd 73 (by rfl) ?_; refine wl (by rfl) (s_lda (cs := bs ys) HS.out 1 32 (by rfl) (by rfl) (by rfl) ag23' (by exact pt_h _ _ HY.out) ((by rw [bs_length]; exact HY.out)) ?_))
    | (refine atd 79 (by rfl) ?_; refine wl (by rfl) (s_ld HS.out 2 (by rfl) (by rfl) (by rfl) (by kernel_rfl) (by exact pt_32 _ _ HX.out) ?_))
    | (refine atd 81 (by rfl) ?_; refine wl (by rfl) (s_ld HS.out 1 (by rfl) (by rfl) (by rfl) (by kernel_rfl) (by exact pt_32 _ _ HY.out) ?_))
    | (go_at_call 44; refine (cmp44 ys xs nys nxs (1) _ HY.out HX.out H4.out).mono ?_; rintro e Wn ⟨rfl, hb⟩; have hS := HS.out.call hb; clear hb; clear HS; have HS := Lib.hid hS; clear hS))
  go_ret
  exact ⟨rfl, HS.out.below⟩
end
section
open Go Go.RowKit Go.Proofs
attribute [local go_sem] Oper.semAt_some
attribute [local irreducible] Calls

set_option maxHeartbeats 1000000 in
set_option maxRecDepth 100000 in
theorem sorted8_zmme (xs ys zs : List UInt8) (nxs nys nzs : Int) (w : World) (hx : xs.length = 32) (hy : ys.length = 32) (hz : zs.length = 32) (h1 : O (xs, nxs) (ys, nys) = 0) (h2 : O (ys, nys) (zs, nzs) = -1) (h3 : O (xs, nxs) (zs, nzs) = -1) (hxy : xs = ys) (hn : nxs = nys) :
    Calls Try.prog 8 #[.agg (bs xs ++ [Value.int .u32 nxs]).toArray, .agg (bs ys ++ [Value.int .u32 nys]).toArray, .agg (bs zs ++ [Value.int .u32 nzs]).toArray] w fun e w' => e = .returned (.bool true) ∧ Below w.heap.size w w' := by
  have HS := Lib.hid (St.start w)
  have HX := Lib.hid hx; have HY := Lib.hid hy; have HZ := Lib.hid hz
  have H1 := Lib.hid h1; have H2 := Lib.hid h2; have H3 := Lib.hid h3
  have H4 := Lib.hid (show O (ys, nys) (xs, nxs) = 0 by have h := O_neg (xs, nxs) (ys, nys); omega)
  have hq : ∀ W, (Op.equalIn 10000 23 (.agg (bs xs).toArray) (.agg (bs ys).toArray)).run Try.prog W = .ok true W := fun W => by
    have := eqH 9998 xs ys hx hy W
    rwa [decide_eq_true hxy] at this
  have hq0 : ∀ W, (Op.equalIn 9999 23 (.agg (List.take 32 (bs xs ++ [Value.int .u32 nxs])).toArray) (.agg (List.take 32 (bs ys ++ [Value.int .u32 nys])).toArray)).run Try.prog W = .ok true W := fun W => by
    rw [take_pt _ _ hx, take_pt _ _ hy]
    have := eqH 9997 xs ys hx hy W
    rwa [decide_eq_true hxy] at this
  have p1 := pt_32 xs nxs hx
  have p2 := pt_32 ys nys hy
  have k1 : decide (nxs < nys) = false := decide_eq_false (by omega)
  have k2 : (nxs == nys) = true := by rw [hn]; simp
  clear hx hy hz h1 h2 h3 hxy hn
  go_enter Try.func8, Try.ntmps8
  go_wp2_with (first
    | (refine atd 3 (by rfl) ?_; refine wl (by rfl) (s_bx (l := bs xs ++ [Value.int .u32 nxs]) HS.out (by rfl) (by rfl) ?_); intro b3 Wn hS; clear HS; have HS := Lib.hid hS; clear hS)
    | (refine atd 4 (by rfl) ?_; refine wl (by rfl) (s_bx (l := bs ys ++ [Value.int .u32 nys]) HS.out (by rfl) (by rfl) ?_); intro b4 Wn hS; clear HS; have HS := Lib.hid hS; clear hS)
    | (refine atd 5 (by rfl) ?_; refine wl (by rfl) (s_bx (l := bs zs ++ [Value.int .u32 nzs]) HS.out (by rfl) (by rfl) ?_); intro b5 Wn hS; clear HS; have HS := Lib.hid hS; clear hS)
    | (go_at_call 33; refine (alive33 _).mono ?_; rintro e Wn ⟨rfl, hb⟩; have hS := HS.out.call hb; clear hb; clear HS; have HS := Lib.hid hS; clear hS))
  refine wp_region_pi [(0, true), (1, true), (3, true), (4, true), (6, true), (7, true), (2, false), (5, false), (8, false), (9, true), (10, true), (11, true)] (by kernel_rfl) (by kernel_rfl) rfl (by kernel_rfl) (fun _ _ _ _ _ h => h) (fun w' => St w w' [Blk b5 (bs zs ++ [Value.int .u32 nzs]) 44, Blk b4 (bs ys ++ [Value.int .u32 nys]) 44, Blk b3 (bs xs ++ [Value.int .u32 nxs]) 44] []) HS.out.drew ?_
  intro OPS hops
  have hS := HS.out.drew
  clear HS; have HS := Lib.hid hS; clear hS
  iterate 6
    first | (refine wpPi_yield _ (by rw [hops.out]; simp only [List.getElem?_toArray, List.getElem?_cons_succ, List.getElem?_cons_zero]; rfl) (by first | rfl | (rw [hops.out]; rfl)) (fun w' hS => by first | exact run_lda (n := 33) (cs := bs xs ++ [Value.int .u32 nxs]) ag44 (by rfl) (by rfl) (hS.range (i := 2) rfl (by rw [pt_len _ _ HX.out]; exact pt_all _ _ HX.out)) (pt_len _ _ HX.out) | exact run_lda (n := 33) (cs := bs ys ++ [Value.int .u32 nys]) ag44 (by rfl) (by rfl) (hS.range (i := 1) rfl (by rw [pt_len _ _ HY.out]; exact pt_all _ _ HY.out)) (pt_len _ _ HY.out) | exact run_lda (n := 33) (cs := bs zs ++ [Value.int .u32 nzs]) ag44 (by rfl) (by rfl) (hS.range (i := 0) rfl (by rw [pt_len _ _ HZ.out]; exact pt_all _ _ HZ.out)) (pt_len _ _ HZ.out) | (go_simp; rfl)) ?_; simp only [Act.put, List.setIfInBounds_toArray, List.set_cons_succ, List.set_cons_zero]) | (refine wpPi_skip (by rw [hops.out]; simp only [List.getElem?_toArray, List.getElem?_cons_succ, List.getElem?_cons_zero]; rfl) (by first | rfl | (rw [hops.out]; rfl)) ?_; simp only [Act.put, List.setIfInBounds_toArray, List.set_cons_succ, List.set_cons_zero])
  refine wpPi_act (by rw [hops.out]; simp only [List.getElem?_toArray, List.getElem?_cons_succ, List.getElem?_cons_zero]; rfl) (by first | rfl | (rw [hops.out]; rfl)) ?_
  go_simp
  refine (cmp44 xs ys nxs nys (0) _ HX.out HY.out H1.out).mono ?_
  rintro e Wn ⟨rfl, hb⟩
  have hS := HS.out.call hb
  clear HS; have HS := Lib.hid hS; clear hS
  clear hb
  refine ⟨HS.out, ?_⟩
  try simp only [Act.put, List.setIfInBounds_toArray, List.set_cons_succ, List.set_cons_zero]
  refine wpPi_act (by rw [hops.out]; simp only [List.getElem?_toArray, List.getElem?_cons_succ, List.getElem?_cons_zero]; rfl) (by first | rfl | (rw [hops.out]; rfl)) ?_
  go_simp
  refine (cmp44 ys zs nys nzs (-1) _ HY.out HZ.out H2.out).mono ?_
  rintro e Wn ⟨rfl, hb⟩
  have hS := HS.out.call hb
  clear HS; have HS := Lib.hid hS; clear hS
  clear hb
  refine ⟨HS.out, ?_⟩
  try simp only [Act.put, List.setIfInBounds_toArray, List.set_cons_succ, List.set_cons_zero]
  refine wpPi_act (by rw [hops.out]; simp only [List.getElem?_toArray, List.getElem?_cons_succ, List.getElem?_cons_zero]; rfl) (by first | rfl | (rw [hops.out]; rfl)) ?_
  go_simp
  refine (cmp44 xs zs nxs nzs (-1) _ HX.out HZ.out H3.out).mono ?_
  rintro e Wn ⟨rfl, hb⟩
  have hS := HS.out.call hb
  clear HS; have HS := Lib.hid hS; clear hS
  clear hb
  refine ⟨HS.out, ?_⟩
  try simp only [Act.put, List.setIfInBounds_toArray, List.set_cons_succ, List.set_cons_zero]
  iterate 3
    first | (refine wpPi_yield _ (by rw [hops.out]; simp only [List.getElem?_toArray, List.getElem?_cons_succ, List.getElem?_cons_zero]; rfl) (by first | rfl | (rw [hops.out]; rfl)) (fun w' hS => by first | exact run_lda (n := 33) (cs := bs xs ++ [Value.int .u32 nxs]) ag44 (by rfl) (by rfl) (hS.range (i := 2) rfl (by rw [pt_len _ _ HX.out]; exact pt_all _ _ HX.out)) (pt_len _ _ HX.out) | exact run_lda (n := 33) (cs := bs ys ++ [Value.int .u32 nys]) ag44 (by rfl) (by rfl) (hS.range (i := 1) rfl (by rw [pt_len _ _ HY.out]; exact pt_all _ _ HY.out)) (pt_len _ _ HY.out) | exact run_lda (n := 33) (cs := bs zs ++ [Value.int .u32 nzs]) ag44 (by rfl) (by rfl) (hS.range (i := 0) rfl (by rw [pt_len _ _ HZ.out]; exact pt_all _ _ HZ.out)) (pt_len _ _ HZ.out) | (go_simp; rfl)) ?_; simp only [Act.put, List.setIfInBounds_toArray, List.set_cons_succ, List.set_cons_zero]) | (refine wpPi_skip (by rw [hops.out]; simp only [List.getElem?_toArray, List.getElem?_cons_succ, List.getElem?_cons_zero]; rfl) (by first | rfl | (rw [hops.out]; rfl)) ?_; simp only [Act.put, List.setIfInBounds_toArray, List.set_cons_succ, List.set_cons_zero])
  simp only [wpPi]
  clear OPS hops
  go_wp2_with (first
    | (refine atd 54 (by rfl) ?_; refine wl (by rfl) (s_lda (cs := bs ys ++ [Value.int .u32 nys]) HS.out 1 33 (by rfl) (by rfl) (by rfl) ag44 (by exact pt_all _ _ HY.out) (pt_len _ _ HY.out) ?_))
    | (refine atd 55 (by rfl) ?_; refine wl (by rfl) (s_lda (cs := bs xs ++ [Value.int .u32 nxs]) HS.out 2 33 (by rfl) (by rfl) (by rfl) ag44 (by exact pt_all _ _ HX.out) (pt_len _ _ HX.out) ?_))
    | (refine atd 64 (by rfl) ?_; refine wl (by rfl) (s_lda (cs := bs xs ++ [Value.int .u32 nxs]) HS.out 2 33 (by rfl) (by rfl) (by rfl) ag44 (by exact pt_all _ _ HX.out) (pt_len _ _ HX.out) ?_))
    | (refine atd 65 (by rfl) ?_; refine wl (by rfl) (s_lda (cs := bs ys ++ [Value.int .u32 nys]) HS.out 1 33 (by rfl) (by rfl) (by rfl) ag44 (by exact pt_all _ _ HY.out) (pt_len _ _ HY.out) ?_))
    | (refine atd 71 (by rfl) ?_; refine wl (by rfl) (s_lda (cs := bs xs) HS.out 2 32 (by rfl) (by rfl) (by rfl) ag23' (by exact pt_h _ _ HX.out) ((by rw [bs_length]; exact HX.out)) ?_))
    | (refine atd 73 (by rfl) ?_; refine wl (by rfl) (s_lda (cs := bs ys) HS.out 1 32 (by rfl) (by rfl) (by rfl) ag23' (by exact pt_h _ _ HY.out) ((by rw [bs_length]; exact HY.out)) ?_))
    | (refine atd 79 (by rfl) ?_; refine wl (by rfl) (s_ld HS.out 2 (by rfl) (by rfl) (by rfl) (by kernel_rfl) (by exact pt_32 _ _ HX.out) ?_))
    | (refine atd 81 (by rfl) ?_; refine wl (by rfl) (s_ld HS.out 1 (by rfl) (by rfl) (by rfl) (by kernel_rfl) (by exact pt_32 _ _ HY.out) ?_))
    | (go_at_call 44; refine (cmp44 ys xs nys nxs (0) _ HY.out HX.out H4.out).mono ?_; rintro e Wn ⟨rfl, hb⟩; have hS := HS.out.call hb; clear hb; clear HS; have HS := Lib.hid hS; clear hS))
  go_ret
  exact ⟨rfl, HS.out.below⟩
set_option maxHeartbeats 1000000 in
set_option maxRecDepth 100000 in
theorem sorted8_zzze (xs ys zs : List UInt8) (nxs nys nzs : Int) (w : World) (hx : xs.length = 32) (hy : ys.length = 32) (hz : zs.length = 32) (h1 : O (xs, nxs) (ys, nys) = 0) (h2 : O (ys, nys) (zs, nzs) = 0) (h3 : O (xs, nxs) (zs, nzs) = 0) (hxy : xs = ys) (hn : nxs = nys) :
    Calls Try.prog 8 #[.agg (bs xs ++ [Value.int .u32 nxs]).toArray, .agg (bs ys ++ [Value.int .u32 nys]).toArray, .agg (bs zs ++ [Value.int .u32 nzs]).toArray] w fun e w' => e = .returned (.bool true) ∧ Below w.heap.size w w' := by
  have HS := Lib.hid (St.start w)
  have HX := Lib.hid hx; have HY := Lib.hid hy; have HZ := Lib.hid hz
  have H1 := Lib.hid h1; have H2 := Lib.hid h2; have H3 := Lib.hid h3
  have H4 := Lib.hid (show O (ys, nys) (xs, nxs) = 0 by have h := O_neg (xs, nxs) (ys, nys); omega)
  have hq : ∀ W, (Op.equalIn 10000 23 (.agg (bs xs).toArray) (.agg (bs ys).toArray)).run Try.prog W = .ok true W := fun W => by
    have := eqH 9998 xs ys hx hy W
    rwa [decide_eq_true hxy] at this
  have hq0 : ∀ W, (Op.equalIn 9999 23 (.agg (List.take 32 (bs xs ++ [Value.int .u32 nxs])).toArray) (.agg (List.take 32 (bs ys ++ [Value.int .u32 nys])).toArray)).run Try.prog W = .ok true W := fun W => by
    rw [take_pt _ _ hx, take_pt _ _ hy]
    have := eqH 9997 xs ys hx hy W
    rwa [decide_eq_true hxy] at this
  have p1 := pt_32 xs nxs hx
  have p2 := pt_32 ys nys hy
  have k1 : decide (nxs < nys) = false := decide_eq_false (by omega)
  have k2 : (nxs == nys) = true := by rw [hn]; simp
  clear hx hy hz h1 h2 h3 hxy hn
  go_enter Try.func8, Try.ntmps8
  go_wp2_with (first
    | (refine atd 3 (by rfl) ?_; refine wl (by rfl) (s_bx (l := bs xs ++ [Value.int .u32 nxs]) HS.out (by rfl) (by rfl) ?_); intro b3 Wn hS; clear HS; have HS := Lib.hid hS; clear hS)
    | (refine atd 4 (by rfl) ?_; refine wl (by rfl) (s_bx (l := bs ys ++ [Value.int .u32 nys]) HS.out (by rfl) (by rfl) ?_); intro b4 Wn hS; clear HS; have HS := Lib.hid hS; clear hS)
    | (refine atd 5 (by rfl) ?_; refine wl (by rfl) (s_bx (l := bs zs ++ [Value.int .u32 nzs]) HS.out (by rfl) (by rfl) ?_); intro b5 Wn hS; clear HS; have HS := Lib.hid hS; clear hS)
    | (go_at_call 33; refine (alive33 _).mono ?_; rintro e Wn ⟨rfl, hb⟩; have hS := HS.out.call hb; clear hb; clear HS; have HS := Lib.hid hS; clear hS))
  refine wp_region_pi [(0, true), (1, true), (3, true), (4, true), (6, true), (7, true), (2, false), (5, false), (8, false), (9, true), (10, true), (11, true)] (by kernel_rfl) (by kernel_rfl) rfl (by kernel_rfl) (fun _ _ _ _ _ h => h) (fun w' => St w w' [Blk b5 (bs zs ++ [Value.int .u32 nzs]) 44, Blk b4 (bs ys ++ [Value.int .u32 nys]) 44, Blk b3 (bs xs ++ [Value.int .u32 nxs]) 44] []) HS.out.drew ?_
  intro OPS hops
  have hS := HS.out.drew
  clear HS; have HS := Lib.hid hS; clear hS
  iterate 6
    first | (refine wpPi_yield _ (by rw [hops.out]; simp only [List.getElem?_toArray, List.getElem?_cons_succ, List.getElem?_cons_zero]; rfl) (by first | rfl | (rw [hops.out]; rfl)) (fun w' hS => by first | exact run_lda (n := 33) (cs := bs xs ++ [Value.int .u32 nxs]) ag44 (by rfl) (by rfl) (hS.range (i := 2) rfl (by rw [pt_len _ _ HX.out]; exact pt_all _ _ HX.out)) (pt_len _ _ HX.out) | exact run_lda (n := 33) (cs := bs ys ++ [Value.int .u32 nys]) ag44 (by rfl) (by rfl) (hS.range (i := 1) rfl (by rw [pt_len _ _ HY.out]; exact pt_all _ _ HY.out)) (pt_len _ _ HY.out) | exact run_lda (n := 33) (cs := bs zs ++ [Value.int .u32 nzs]) ag44 (by rfl) (by rfl) (hS.range (i := 0) rfl (by rw [pt_len _ _ HZ.out]; exact pt_all _ _ HZ.out)) (pt_len _ _ HZ.out) | (go_simp; rfl)) ?_; simp only [Act.put, List.setIfInBounds_toArray, List.set_cons_succ, List.set_cons_zero]) | (refine wpPi_skip (by rw [hops.out]; simp only [List.getElem?_toArray, List.getElem?_cons_succ, List.getElem?_cons_zero]; rfl) (by first | rfl | (rw [hops.out]; rfl)) ?_; simp only [Act.put, List.setIfInBounds_toArray, List.set_cons_succ, List.set_cons_zero])
  refine wpPi_act (by rw [hops.out]; simp only [List.getElem?_toArray, List.getElem?_cons_succ, List.getElem?_cons_zero]; rfl) (by first | rfl | (rw [hops.out]; rfl)) ?_
  go_simp
  refine (cmp44 xs ys nxs nys (0) _ HX.out HY.out H1.out).mono ?_
  rintro e Wn ⟨rfl, hb⟩
  have hS := HS.out.call hb
  clear HS; have HS := Lib.hid hS; clear hS
  clear hb
  refine ⟨HS.out, ?_⟩
  try simp only [Act.put, List.setIfInBounds_toArray, List.set_cons_succ, List.set_cons_zero]
  refine wpPi_act (by rw [hops.out]; simp only [List.getElem?_toArray, List.getElem?_cons_succ, List.getElem?_cons_zero]; rfl) (by first | rfl | (rw [hops.out]; rfl)) ?_
  go_simp
  refine (cmp44 ys zs nys nzs (0) _ HY.out HZ.out H2.out).mono ?_
  rintro e Wn ⟨rfl, hb⟩
  have hS := HS.out.call hb
  clear HS; have HS := Lib.hid hS; clear hS
  clear hb
  refine ⟨HS.out, ?_⟩
  try simp only [Act.put, List.setIfInBounds_toArray, List.set_cons_succ, List.set_cons_zero]
  refine wpPi_act (by rw [hops.out]; simp only [List.getElem?_toArray, List.getElem?_cons_succ, List.getElem?_cons_zero]; rfl) (by first | rfl | (rw [hops.out]; rfl)) ?_
  go_simp
  refine (cmp44 xs zs nxs nzs (0) _ HX.out HZ.out H3.out).mono ?_
  rintro e Wn ⟨rfl, hb⟩
  have hS := HS.out.call hb
  clear HS; have HS := Lib.hid hS; clear hS
  clear hb
  refine ⟨HS.out, ?_⟩
  try simp only [Act.put, List.setIfInBounds_toArray, List.set_cons_succ, List.set_cons_zero]
  iterate 3
    first | (refine wpPi_yield _ (by rw [hops.out]; simp only [List.getElem?_toArray, List.getElem?_cons_succ, List.getElem?_cons_zero]; rfl) (by first | rfl | (rw [hops.out]; rfl)) (fun w' hS => by first | exact run_lda (n := 33) (cs := bs xs ++ [Value.int .u32 nxs]) ag44 (by rfl) (by rfl) (hS.range (i := 2) rfl (by rw [pt_len _ _ HX.out]; exact pt_all _ _ HX.out)) (pt_len _ _ HX.out) | exact run_lda (n := 33) (cs := bs ys ++ [Value.int .u32 nys]) ag44 (by rfl) (by rfl) (hS.range (i := 1) rfl (by rw [pt_len _ _ HY.out]; exact pt_all _ _ HY.out)) (pt_len _ _ HY.out) | exact run_lda (n := 33) (cs := bs zs ++ [Value.int .u32 nzs]) ag44 (by rfl) (by rfl) (hS.range (i := 0) rfl (by rw [pt_len _ _ HZ.out]; exact pt_all _ _ HZ.out)) (pt_len _ _ HZ.out) | (go_simp; rfl)) ?_; simp only [Act.put, List.setIfInBounds_toArray, List.set_cons_succ, List.set_cons_zero]) | (refine wpPi_skip (by rw [hops.out]; simp only [List.getElem?_toArray, List.getElem?_cons_succ, List.getElem?_cons_zero]; rfl) (by first | rfl | (rw [hops.out]; rfl)) ?_; simp only [Act.put, List.setIfInBounds_toArray, List.set_cons_succ, List.set_cons_zero])
  simp only [wpPi]
  clear OPS hops
  go_wp2_with (first
    | (refine atd 54 (by rfl) ?_; refine wl (by rfl) (s_lda (cs := bs ys ++ [Value.int .u32 nys]) HS.out 1 33 (by rfl) (by rfl) (by rfl) ag44 (by exact pt_all _ _ HY.out) (pt_len _ _ HY.out) ?_))
    | (refine atd 55 (by rfl) ?_; refine wl (by rfl) (s_lda (cs := bs xs ++ [Value.int .u32 nxs]) HS.out 2 33 (by rfl) (by rfl) (by rfl) ag44 (by exact pt_all _ _ HX.out) (pt_len _ _ HX.out) ?_))
    | (refine atd 64 (by rfl) ?_; refine wl (by rfl) (s_lda (cs := bs xs ++ [Value.int .u32 nxs]) HS.out 2 33 (by rfl) (by rfl) (by rfl) ag44 (by exact pt_all _ _ HX.out) (pt_len _ _ HX.out) ?_))
    | (refine atd 65 (by rfl) ?_; refine wl (by rfl) (s_lda (cs := bs ys ++ [Value.int .u32 nys]) HS.out 1 33 (by rfl) (by rfl) (by rfl) ag44 (by exact pt_all _ _ HY.out) (pt_len _ _ HY.out) ?_))
    | (refine atd 71 (by rfl) ?_; refine wl (by rfl) (s_lda (cs := bs xs) HS.out 2 32 (by rfl) (by rfl) (by rfl) ag23' (by exact pt_h _ _ HX.out) ((by rw [bs_length]; exact HX.out)) ?_))
    | (refine atd 73 (by rfl) ?_; refine wl (by rfl) (s_lda (cs := bs ys) HS.out 1 32 (by rfl) (by rfl) (by rfl) ag23' (by exact pt_h _ _ HY.out) ((by rw [bs_length]; exact HY.out)) ?_))
    | (refine atd 79 (by rfl) ?_; refine wl (by rfl) (s_ld HS.out 2 (by rfl) (by rfl) (by rfl) (by kernel_rfl) (by exact pt_32 _ _ HX.out) ?_))
    | (refine atd 81 (by rfl) ?_; refine wl (by rfl) (s_ld HS.out 1 (by rfl) (by rfl) (by rfl) (by kernel_rfl) (by exact pt_32 _ _ HY.out) ?_))
    | (go_at_call 44; refine (cmp44 ys xs nys nxs (0) _ HY.out HX.out H4.out).mono ?_; rintro e Wn ⟨rfl, hb⟩; have hS := HS.out.call hb; clear hb; clear HS; have HS := Lib.hid hS; clear hS))
  go_ret
  exact ⟨rfl, HS.out.below⟩
set_option maxHeartbeats 1000000 in
set_option maxRecDepth 100000 in
theorem sorted8_zppe (xs ys zs : List UInt8) (nxs nys nzs : Int) (w : World) (hx : xs.length = 32) (hy : ys.length = 32) (hz : zs.length = 32) (h1 : O (xs, nxs) (ys, nys) = 0) (h2 : O (ys, nys) (zs, nzs) = 1) (h3 : O (xs, nxs) (zs, nzs) = 1) (hxy : xs = ys) (hn : nxs = nys) :
    Calls Try.prog 8 #[.agg (bs xs ++ [Value.int .u32 nxs]).toArray, .agg (bs ys ++ [Value.int .u32 nys]).toArray, .agg (bs zs ++ [Value.int .u32 nzs]).toArray] w fun e w' => e = .returned (.bool true) ∧ Below w.heap.size w w' := by
  have HS := Lib.hid (St.start w)
  have HX := Lib.hid hx; have HY := Lib.hid hy; have HZ := Lib.hid hz
  have H1 := Lib.hid h1; have H2 := Lib.hid h2; have H3 := Lib.hid h3
  have H4 := Lib.hid (show O (ys, nys) (xs, nxs) = 0 by have h := O_neg (xs, nxs) (ys, nys); omega)
  have hq : ∀ W, (Op.equalIn 10000 23 (.agg (bs xs).toArray) (.agg (bs ys).toArray)).run Try.prog W = .ok true W := fun W => by
    have := eqH 9998 xs ys hx hy W
    rwa [decide_eq_true hxy] at this
  have hq0 : ∀ W, (Op.equalIn 9999 23 (.agg (List.take 32 (bs xs ++ [Value.int .u32 nxs])).toArray) (.agg (List.take 32 (bs ys ++ [Value.int .u32 nys])).toArray)).run Try.prog W = .ok true W := fun W => by
    rw [take_pt _ _ hx, take_pt _ _ hy]
    have := eqH 9997 xs ys hx hy W
    rwa [decide_eq_true hxy] at this
  have p1 := pt_32 xs nxs hx
  have p2 := pt_32 ys nys hy
  have k1 : decide (nxs < nys) = false := decide_eq_false (by omega)
  have k2 : (nxs == nys) = true := by rw [hn]; simp
  clear hx hy hz h1 h2 h3 hxy hn
  go_enter Try.func8, Try.ntmps8
  go_wp2_with (first
    | (refine atd 3 (by rfl) ?_; refine wl (by rfl) (s_bx (l := bs xs ++ [Value.int .u32 nxs]) HS.out (by rfl) (by rfl) ?_); intro b3 Wn hS; clear HS; have HS := Lib.hid hS; clear hS)
    | (refine atd 4 (by rfl) ?_; refine wl (by rfl) (s_bx (l := bs ys ++ [Value.int .u32 nys]) HS.out (by rfl) (by rfl) ?_); intro b4 Wn hS; clear HS; have HS := Lib.hid hS; clear hS)
    | (refine atd 5 (by rfl) ?_; refine wl (by rfl) (s_bx (l := bs zs ++ [Value.int .u32 nzs]) HS.out (by rfl) (by rfl) ?_); intro b5 Wn hS; clear HS; have HS := Lib.hid hS; clear hS)
    | (go_at_call 33; refine (alive33 _).mono ?_; rintro e Wn ⟨rfl, hb⟩; have hS := HS.out.call hb; clear hb; clear HS; have HS := Lib.hid hS; clear hS))
  refine wp_region_pi [(0, true), (1, true), (3, true), (4, true), (6, true), (7, true), (2, false), (5, false), (8, false), (9, true), (10, true), (11, true)] (by kernel_rfl) (by kernel_rfl) rfl (by kernel_rfl) (fun _ _ _ _ _ h => h) (fun w' => St w w' [Blk b5 (bs zs ++ [Value.int .u32 nzs]) 44, Blk b4 (bs ys ++ [Value.int .u32 nys]) 44, Blk b3 (bs xs ++ [Value.int .u32 nxs]) 44] []) HS.out.drew ?_
  intro OPS hops
  have hS := HS.out.drew
  clear HS; have HS := Lib.hid hS; clear hS
  iterate 6
    first | (refine wpPi_yield _ (by rw [hops.out]; simp only [List.getElem?_toArray, List.getElem?_cons_succ, List.getElem?_cons_zero]; rfl) (by first | rfl | (rw [hops.out]; rfl)) (fun w' hS => by first | exact run_lda (n := 33) (cs := bs xs ++ [Value.int .u32 nxs]) ag44 (by rfl) (by rfl) (hS.range (i := 2) rfl (by rw [pt_len _ _ HX.out]; exact pt_all _ _ HX.out)) (pt_len _ _ HX.out) | exact run_lda (n := 33) (cs := bs ys ++ [Value.int .u32 nys]) ag44 (by rfl) (by rfl) (hS.range (i := 1) rfl (by rw [pt_len _ _ HY.out]; exact pt_all _ _ HY.out)) (pt_len _ _ HY.out) | exact run_lda (n := 33) (cs := bs zs ++ [Value.int .u32 nzs]) ag44 (by rfl) (by rfl) (hS.range (i := 0) rfl (by rw [pt_len _ _ HZ.out]; exact pt_all _ _ HZ.out)) (pt_len _ _ HZ.out) | (go_simp; rfl)) ?_; simp only [Act.put, List.setIfInBounds_toArray, List.set_cons_succ, List.set_cons_zero]) | (refine wpPi_skip (by rw [hops.out]; simp only [List.getElem?_toArray, List.getElem?_cons_succ, List.getElem?_cons_zero]; rfl) (by first | rfl | (rw [hops.out]; rfl)) ?_; simp only [Act.put, List.setIfInBounds_toArray, List.set_cons_succ, List.set_cons_zero])
  refine wpPi_act (by rw [hops.out]; simp only [List.getElem?_toArray, List.getElem?_cons_succ, List.getElem?_cons_zero]; rfl) (by first | rfl | (rw [hops.out]; rfl)) ?_
  go_simp
  refine (cmp44 xs ys nxs nys (0) _ HX.out HY.out H1.out).mono ?_
  rintro e Wn ⟨rfl, hb⟩
  have hS := HS.out.call hb
  clear HS; have HS := Lib.hid hS; clear hS
  clear hb
  refine ⟨HS.out, ?_⟩
  try simp only [Act.put, List.setIfInBounds_toArray, List.set_cons_succ, List.set_cons_zero]
  refine wpPi_act (by rw [hops.out]; simp only [List.getElem?_toArray, List.getElem?_cons_succ, List.getElem?_cons_zero]; rfl) (by first | rfl | (rw [hops.out]; rfl)) ?_
  go_simp
  refine (cmp44 ys zs nys nzs (1) _ HY.out HZ.out H2.out).mono ?_
  rintro e Wn ⟨rfl, hb⟩
  have hS := HS.out.call hb
  clear HS; have HS := Lib.hid hS; clear hS
  clear hb
  refine ⟨HS.out, ?_⟩
  try simp only [Act.put, List.setIfInBounds_toArray, List.set_cons_succ, List.set_cons_zero]
  refine wpPi_act (by rw [hops.out]; simp only [List.getElem?_toArray, List.getElem?_cons_succ, List.getElem?_cons_zero]; rfl) (by first | rfl | (rw [hops.out]; rfl)) ?_
  go_simp
  refine (cmp44 xs zs nxs nzs (1) _ HX.out HZ.out H3.out).mono ?_
  rintro e Wn ⟨rfl, hb⟩
  have hS := HS.out.call hb
  clear HS; have HS := Lib.hid hS; clear hS
  clear hb
  refine ⟨HS.out, ?_⟩
  try simp only [Act.put, List.setIfInBounds_toArray, List.set_cons_succ, List.set_cons_zero]
  iterate 3
    first | (refine wpPi_yield _ (by rw [hops.out]; simp only [List.getElem?_toArray, List.getElem?_cons_succ, List.getElem?_cons_zero]; rfl) (by first | rfl | (rw [hops.out]; rfl)) (fun w' hS => by first | exact run_lda (n := 33) (cs := bs xs ++ [Value.int .u32 nxs]) ag44 (by rfl) (by rfl) (hS.range (i := 2) rfl (by rw [pt_len _ _ HX.out]; exact pt_all _ _ HX.out)) (pt_len _ _ HX.out) | exact run_lda (n := 33) (cs := bs ys ++ [Value.int .u32 nys]) ag44 (by rfl) (by rfl) (hS.range (i := 1) rfl (by rw [pt_len _ _ HY.out]; exact pt_all _ _ HY.out)) (pt_len _ _ HY.out) | exact run_lda (n := 33) (cs := bs zs ++ [Value.int .u32 nzs]) ag44 (by rfl) (by rfl) (hS.range (i := 0) rfl (by rw [pt_len _ _ HZ.out]; exact pt_all _ _ HZ.out)) (pt_len _ _ HZ.out) | (go_simp; rfl)) ?_; simp only [Act.put, List.setIfInBounds_toArray, List.set_cons_succ, List.set_cons_zero]) | (refine wpPi_skip (by rw [hops.out]; simp only [List.getElem?_toArray, List.getElem?_cons_succ, List.getElem?_cons_zero]; rfl) (by first | rfl | (rw [hops.out]; rfl)) ?_; simp only [Act.put, List.setIfInBounds_toArray, List.set_cons_succ, List.set_cons_zero])
  simp only [wpPi]
  clear OPS hops
  go_wp2_with (first
    | (refine atd 54 (by rfl) ?_; refine wl (by rfl) (s_lda (cs := bs ys ++ [Value.int .u32 nys]) HS.out 1 33 (by rfl) (by rfl) (by rfl) ag44 (by exact pt_all _ _ HY.out) (pt_len _ _ HY.out) ?_))
    | (refine atd 55 (by rfl) ?_; refine wl (by rfl) (s_lda (cs := bs xs ++ [Value.int .u32 nxs]) HS.out 2 33 (by rfl) (by rfl) (by rfl) ag44 (by exact pt_all _ _ HX.out) (pt_len _ _ HX.out) ?_))
    | (refine atd 64 (by rfl) ?_; refine wl (by rfl) (s_lda (cs := bs xs ++ [Value.int .u32 nxs]) HS.out 2 33 (by rfl) (by rfl) (by rfl) ag44 (by exact pt_all _ _ HX.out) (pt_len _ _ HX.out) ?_))
    | (refine atd 65 (by rfl) ?_; refine wl (by rfl) (s_lda (cs := bs ys ++ [Value.int .u32 nys]) HS.out 1 33 (by rfl) (by rfl) (by rfl) ag44 (by exact pt_all _ _ HY.out) (pt_len _ _ HY.out) ?_))
    | (refine atd 71 (by rfl) ?_; refine wl (by rfl) (s_lda (cs := bs xs) HS.out 2 32 (by rfl) (by rfl) (by rfl) ag23' (by exact pt_h _ _ HX.out) ((by rw [bs_length]; exact HX.out)) ?_))
    | (refine atd 73 (by rfl) ?_; refine wl (by rfl) (s_lda (cs := bs ys) HS.out 1 32 (by rfl) (by rfl) (by rfl) ag23' (by exact pt_h _ _ HY.out) ((by rw [bs_length]; exact HY.out)) ?_))
    | (refine atd 79 (by rfl) ?_; refine wl (by rfl) (s_ld HS.out 2 (by rfl) (by rfl) (by rfl) (by kernel_rfl) (by exact pt_32 _ _ HX.out) ?_))
    | (refine atd 81 (by rfl) ?_; refine wl (by rfl) (s_ld HS.out 1 (by rfl) (by rfl) (by rfl) (by kernel_rfl) (by exact pt_32 _ _ HY.out) ?_))
    | (go_at_call 44; refine (cmp44 ys xs nys nxs (0) _ HY.out HX.out H4.out).mono ?_; rintro e Wn ⟨rfl, hb⟩; have hS := HS.out.call hb; clear hb; clear HS; have HS := Lib.hid hS; clear hS))
  go_ret
  exact ⟨rfl, HS.out.below⟩
end
section
open Go Go.RowKit Go.Proofs
attribute [local go_sem] Oper.semAt_some
attribute [local irreducible] Calls

set_option maxHeartbeats 1000000 in
set_option maxRecDepth 100000 in
theorem sorted8_ppps (xs ys zs : List UInt8) (nxs nys nzs : Int) (w : World) (hx : xs.length = 32) (hy : ys.length = 32) (hz : zs.length = 32) (h1 : O (xs, nxs) (ys, nys) = 1) (h2 : O (ys, nys) (zs, nzs) = 1) (h3 : O (xs, nxs) (zs, nzs) = 1) (hxy : xs = ys) (hn : nys < nxs) :
    Calls Try.prog 8 #[.agg (bs xs ++ [Value.int .u32 nxs]).toArray, .agg (bs ys ++ [Value.int .u32 nys]).toArray, .agg (bs zs ++ [Value.int .u32 nzs]).toArray] w fun e w' => e = .returned (.bool true) ∧ Below w.heap.size w w' := by
  have HS := Lib.hid (St.start w)
  have HX := Lib.hid hx; have HY := Lib.hid hy; have HZ := Lib.hid hz
  have H1 := Lib.hid h1; have H2 := Lib.hid h2; have H3 := Lib.hid h3
  have H4 := Lib.hid (show O (ys, nys) (xs, nxs) = -1 by have h := O_neg (xs, nxs) (ys, nys); omega)
  have hq : ∀ W, (Op.equalIn 10000 23 (.agg (bs xs).toArray) (.agg (bs ys).toArray)).run Try.prog W = .ok true W := fun W => by
    have := eqH 9998 xs ys hx hy W
    rwa [decide_eq_true hxy] at this
  have hq0 : ∀ W, (Op.equalIn 9999 23 (.agg (List.take 32 (bs xs ++ [Value.int .u32 nxs])).toArray) (.agg (List.take 32 (bs ys ++ [Value.int .u32 nys])).toArray)).run Try.prog W = .ok true W := fun W => by
    rw [take_pt _ _ hx, take_pt _ _ hy]
    have := eqH 9997 xs ys hx hy W
    rwa [decide_eq_true hxy] at this
  have p1 := pt_32 xs nxs hx
  have p2 := pt_32 ys nys hy
  have k1 : decide (nxs < nys) = false := decide_eq_false (by omega)
  have k2 : (nxs == nys) = false := by rw [beq_eq_false_iff_ne]; omega
  clear hx hy hz h1 h2 h3 hxy hn
  go_enter Try.func8, Try.ntmps8
  go_wp2_with (first
    | (refine atd 3 (by rfl) ?_; refine wl (by rfl) (s_bx (l := bs xs ++ [Value.int .u32 nxs]) HS.out (by rfl) (by rfl) ?_); intro b3 Wn hS; clear HS; have HS := Lib.hid hS; clear hS)
    | (refine atd 4 (by rfl) ?_; refine wl (by rfl) (s_bx (l := bs ys ++ [Value.int .u32 nys]) HS.out (by rfl) (by rfl) ?_); intro b4 Wn hS; clear HS; have HS := Lib.hid hS; clear hS)
    | (refine atd 5 (by rfl) ?_; refine wl (by rfl) (s_bx (l := bs zs ++ [Value.int .u32 nzs]) HS.out (by rfl) (by rfl) ?_); intro b5 Wn hS; clear HS; have HS := Lib.hid hS; clear hS)
    | (go_at_call 33; refine (alive33 _).mono ?_; rintro e Wn ⟨rfl, hb⟩; have hS := HS.out.call hb; clear hb; clear HS; have HS := Lib.hid hS; clear hS))
  refine wp_region_pi [(0, true), (1, true), (3, true), (4, true), (6, true), (7, true), (2, false), (5, false), (8, false), (9, true), (10, true), (11, true)] (by kernel_rfl) (by kernel_rfl) rfl (by kernel_rfl) (fun _ _ _ _ _ h => h) (fun w' => St w w' [Blk b5 (bs zs ++ [Value.int .u32 nzs]) 44, Blk b4 (bs ys ++ [Value.int .u32 nys]) 44, Blk b3 (bs xs ++ [Value.int .u32 nxs]) 44] []) HS.out.drew ?_
  intro OPS hops
  have hS := HS.out.drew
  clear HS; have HS := Lib.hid hS; clear hS
  iterate 6
    first | (refine wpPi_yield _ (by rw [hops.out]; simp only [List.getElem?_toArray, List.getElem?_cons_succ, List.getElem?_cons_zero]; rfl) (by first | rfl | (rw [hops.out]; rfl)) (fun w' hS => by first | exact run_lda (n := 33) (cs := bs xs ++ [Value.int .u32 nxs]) ag44 (by rfl) (by rfl) (hS.range (i := 2) rfl (by rw [pt_len _ _ HX.out]; exact pt_all _ _ HX.out)) (pt_len _ _ HX.out) | exact run_lda (n := 33) (cs := bs ys ++ [Value.int .u32 nys]) ag44 (by rfl) (by rfl) (hS.range (i := 1) rfl (by rw [pt_len _ _ HY.out]; exact pt_all _ _ HY.out)) (pt_len _ _ HY.out) | exact run_lda (n := 33) (cs := bs zs ++ [Value.int .u32 nzs]) ag44 (by rfl) (by rfl) (hS.range (i := 0) rfl (by rw [pt_len _ _ HZ.out]; exact pt_all _ _ HZ.out)) (pt_len _ _ HZ.out) | (go_simp; rfl)) ?_; simp only [Act.put, List.setIfInBounds_toArray, List.set_cons_succ, List.set_cons_zero]) | (refine wpPi_skip (by rw [hops.out]; simp only [List.getElem?_toArray, List.getElem?_cons_succ, List.getElem?_cons_zero]; rfl) (by first | rfl | (rw [hops.out]; rfl)) ?_; simp only [Act.put, List.setIfInBounds_toArray, List.set_cons_succ, List.set_cons_zero])
  refine wpPi_act (by rw [hops.out]; simp only [List.getElem?_toArray, List.getElem?_cons_succ, List.getElem?_cons_zero]; rfl) (by first | rfl | (rw [hops.out]; rfl)) ?_
  go_simp
  refine (cmp44 xs ys nxs nys (1) _ HX.out HY.out H1.out).mono ?_
  rintro e Wn ⟨rfl, hb⟩
  have hS := HS.out.call hb
  clear HS; have HS := Lib.hid hS; clear hS
  clear hb
  refine ⟨HS.out, ?_⟩
  try simp only [Act.put, List.setIfInBounds_toArray, List.set_cons_succ, List.set_cons_zero]
  refine wpPi_act (by rw [hops.out]; simp only [List.getElem?_toArray, List.getElem?_cons_succ, List.getElem?_cons_zero]; rfl) (by first | rfl | (rw [hops.out]; rfl)) ?_
  go_simp
  refine (cmp44 ys zs nys nzs (1) _ HY.out HZ.out H2.out).mono ?_
  rintro e Wn ⟨rfl, hb⟩
  have hS := HS.out.call hb
  clear HS; have HS := Lib.hid hS; clear hS
  clear hb
  refine ⟨HS.out, ?_⟩
  try simp only [Act.put, List.setIfInBounds_toArray, List.set_cons_succ, List.set_cons_zero]
  refine wpPi_act (by rw [hops.out]; simp only [List.getElem?_toArray, List.getElem?_cons_succ, List.getElem?_cons_zero]; rfl) (by first | rfl | (rw [hops.out]; rfl)) ?_
  go_simp
  refine (cmp44 xs zs nxs nzs (1) _ HX.out HZ.out H3.out).mono ?_
  rintro e Wn ⟨rfl, hb⟩
  have hS := HS.out.call hb
  clear HS; have HS := Lib.hid hS; clear hS
  clear hb
  refine ⟨HS.out, ?_⟩
  try simp only [Act.put, List.setIfInBounds_toArray, List.set_cons_succ, List.set_cons_zero]
  iterate 3
    first | (refine wpPi_yield _ (by rw [hops.out]; simp only [List.getElem?_toArray, List.getElem?_cons_succ, List.getElem?_cons_zero]; rfl) (by first | rfl | (rw [hops.out]; rfl)) (fun w' hS => by first | exact run_lda (n := 33) (cs := bs xs ++ [Value.int .u32 nxs]) ag44 (by rfl) (by rfl) (hS.range (i := 2) rfl (by rw [pt_len _ _ HX.out]; exact pt_all _ _ HX.out)) (pt_len _ _ HX.out) | exact run_lda (n := 33) (cs := bs ys ++ [Value.int .u32 nys]) ag44 (by rfl) (by rfl) (hS.range (i := 1) rfl (by rw [pt_len _ _ HY.out]; exact pt_all _ _ HY.out)) (pt_len _ _ HY.out) | exact run_lda (n := 33) (cs := bs zs ++ [Value.int .u32 nzs]) ag44 (by rfl) (by rfl) (hS.range (i := 0) rfl (by rw [pt_len _ _ HZ.out]; exact pt_all _ _ HZ.out)) (pt_len _ _ HZ.out) | (go_simp; rfl)) ?_; simp only [Act.put, List.setIfInBounds_toArray, List.set_cons_succ, List.set_cons_zero]) | (refine wpPi_skip (by rw [hops.out]; simp only [List.getElem?_toArray, List.getElem?_cons_succ, List.getElem?_cons_zero]; rfl) (by first | rfl | (rw [hops.out]; rfl)) ?_; simp only [Act.put, List.setIfInBounds_toArray, List.set_cons_succ, List.set_cons_zero])
  simp only [wpPi]
  clear OPS hops
  go_wp2_with (first
    | (refine atd 54 (by rfl) ?_; refine wl (by rfl) (s_lda (cs := bs ys ++ [Value.int .u32 nys]) HS.out 1 33 (by rfl) (by rfl) (by rfl) ag44 (by exact pt_all _ _ HY.out) (pt_len _ _ HY.out) ?_))
    | (refine atd 55 (by rfl) ?_; refine wl (by rfl) (s_lda (cs := bs xs ++ [Value.int .u32 nxs]) HS.out 2 33 (by rfl) (by rfl) (by rfl) ag44 (by exact pt_all _ _ HX.out) (pt_len _ _ HX.out) ?_))
    | (refine atd 64 (by rfl) ?_; refine wl (by rfl) (s_lda (cs := bs xs ++ [Value.int .u32 nxs]) HS.out 2 33 (by rfl) (by rfl) (by rfl) ag44 (by exact pt_all _ _ HX.out) (pt_len _ _ HX.out) ?_))
    | (refine atd 65 (by rfl) ?_; refine wl (by rfl) (s_lda (cs := bs ys ++ [Value.int .u32 nys]) HS.out 1 33 (by rfl) (by rfl) (by rfl) ag44 (by exact pt_all _ _ HY.out) (pt_len _ _ HY.out) ?_))
    | (refine atd 71 (by rfl) ?_; refine wl (by rfl) (s_lda (cs := bs xs) HS.out 2 32 (by rfl) (by rfl) (by rfl) ag23' (by exact pt_h _ _ HX.out) ((by rw [bs_length]; exact HX.out)) ?_))
    | (refine atd 73 (by rfl) ?_; refine wl (by rfl) (s_lda (cs := bs ys) HS.out 1 32 (by rfl) (by rfl) (by rfl) ag23' (by exact pt_h _ _ HY.out) ((by rw [bs_length]; exact HY.out)) ?_))
    | (refine atd 79 (by rfl) ?_; refine wl (by rfl) (s_ld HS.out 2 (by rfl) (by rfl) (by rfl) (by kernel_rfl) (by exact pt_32 _ _ HX.out) ?_))
    | (refine atd 81 (by rfl) ?_; refine wl (by rfl) (s_ld HS.out 1 (by rfl) (by rfl) (by rfl) (by kernel_rfl) (by exact pt_32 _ _ HY.out) ?_))
    | (go_at_call 44; refine (cmp44 ys xs nys nxs (-1) _ HY.out HX.out H4.out).mono ?_; rintro e Wn ⟨rfl, hb⟩; have hS := HS.out.call hb; clear hb; clear HS; have HS := Lib.hid hS; clear hS))
  go_ret
  exact ⟨rfl, HS.out.below⟩
set_option maxHeartbeats 1000000 in
set_option maxRecDepth 100000 in
theorem sorted8_pppd (xs ys zs : List UInt8) (nxs nys nzs : Int) (w : World) (hx : xs.length = 32) (hy : ys.length = 32) (hz : zs.length = 32) (h1 : O (xs, nxs) (ys, nys) = 1) (h2 : O (ys, nys) (zs, nzs) = 1) (h3 : O (xs, nxs) (zs, nzs) = 1) (hxy : ¬ xs = ys) :
    Calls Try.prog 8 #[.agg (bs xs ++ [Value.int .u32 nxs]).toArray, .agg (bs ys ++ [Value.int .u32 nys]).toArray, .agg (bs zs ++ [Value.int .u32 nzs]).toArray] w fun e w' => e = .returned (.bool true) ∧ Below w.heap.size w w' := by
  have HS := Lib.hid (St.start w)
  have HX := Lib.hid hx; have HY := Lib.hid hy; have HZ := Lib.hid hz
  have H1 := Lib.hid h1; have H2 := Lib.hid h2; have H3 := Lib.hid h3
  have H4 := Lib.hid (show O (ys, nys) (xs, nxs) = -1 by have h := O_neg (xs, nxs) (ys, nys); omega)
  have hq : ∀ W, (Op.equalIn 10000 23 (.agg (bs xs).toArray) (.agg (bs ys).toArray)).run Try.prog W = .ok false W := fun W => by
    have := eqH 9998 xs ys hx hy W
    rwa [decide_eq_false hxy] at this
  have hq0 : ∀ W, (Op.equalIn 9999 23 (.agg (List.take 32 (bs xs ++ [Value.int .u32 nxs])).toArray) (.agg (List.take 32 (bs ys ++ [Value.int .u32 nys])).toArray)).run Try.prog W = .ok false W := fun W => by
    rw [take_pt _ _ hx, take_pt _ _ hy]
    have := eqH 9997 xs ys hx hy W
    rwa [decide_eq_false hxy] at this
  have p1 := pt_32 xs nxs hx
  have p2 := pt_32 ys nys hy
  clear hx hy hz h1 h2 h3 hxy 
  go_enter Try.func8, Try.ntmps8
  go_wp2_with (first
    | (refine atd 3 (by rfl) ?_; refine wl (by rfl) (s_bx (l := bs xs ++ [Value.int .u32 nxs]) HS.out (by rfl) (by rfl) ?_); intro b3 Wn hS; clear HS; have HS := Lib.hid hS; clear hS)
    | (refine atd 4 (by rfl) ?_; refine wl (by rfl) (s_bx (l := bs ys ++ [Value.int .u32 nys]) HS.out (by rfl) (by rfl) ?_); intro b4 Wn hS; clear HS; have HS := Lib.hid hS; clear hS)
    | (refine atd 5 (by rfl) ?_; refine wl (by rfl) (s_bx (l := bs zs ++ [Value.int .u32 nzs]) HS.out (by rfl) (by rfl) ?_); intro b5 Wn hS; clear HS; have HS := Lib.hid hS; clear hS)
    | (go_at_call 33; refine (alive33 _).mono ?_; rintro e Wn ⟨rfl, hb⟩; have hS := HS.out.call hb; clear hb; clear HS; have HS := Lib.hid hS; clear hS))
  refine wp_region_pi [(0, true), (1, true), (3, true), (4, true), (6, true), (7, true), (2, false), (5, false), (8, false), (9, true), (10, true), (11, true)] (by kernel_rfl) (by kernel_rfl) rfl (by kernel_rfl) (fun _ _ _ _ _ h => h) (fun w' => St w w' [Blk b5 (bs zs ++ [Value.int .u32 nzs]) 44, Blk b4 (bs ys ++ [Value.int .u32 nys]) 44, Blk b3 (bs xs ++ [Value.int .u32 nxs]) 44] []) HS.out.drew ?_
  intro OPS hops
  have hS := HS.out.drew
  clear HS; have HS := Lib.hid hS; clear hS
  iterate 6
    first | (refine wpPi_yield _ (by rw [hops.out]; simp only [List.getElem?_toArray, List.getElem?_cons_succ, List.getElem?_cons_zero]; rfl) (by first | rfl | (rw [hops.out]; rfl)) (fun w' hS => by first | exact run_lda (n := 33) (cs := bs xs ++ [Value.int .u32 nxs]) ag44 (by rfl) (by rfl) (hS.range (i := 2) rfl (by rw [pt_len _ _ HX.out]; exact pt_all _ _ HX.out)) (pt_len _ _ HX.out) | exact run_lda (n := 33) (cs := bs ys ++ [Value.int .u32 nys]) ag44 (by rfl) (by rfl) (hS.range (i := 1) rfl (by rw [pt_len _ _ HY.out]; exact pt_all _ _ HY.out)) (pt_len _ _ HY.out) | exact run_lda (n := 33) (cs := bs zs ++ [Value.int .u32 nzs]) ag44 (by rfl) (by rfl) (hS.range (i := 0) rfl (by rw [pt_len _ _ HZ.out]; exact pt_all _ _ HZ.out)) (pt_len _ _ HZ.out) | (go_simp; rfl)) ?_; simp only [Act.put, List.setIfInBounds_toArray, List.set_cons_succ, List.set_cons_zero]) | (refine wpPi_skip (by rw [hops.out]; simp only [List.getElem?_toArray, List.getElem?_cons_succ, List.getElem?_cons_zero]; rfl) (by first | rfl | (rw [hops.out]; rfl)) ?_; simp only [Act.put, List.setIfInBounds_toArray, List.set_cons_succ, List.set_cons_zero])
  refine wpPi_act (by rw [hops.out]; simp only [List.getElem?_toArray, List.getElem?_cons_succ, List.getElem?_cons_zero]; rfl) (by first | rfl | (rw [hops.out]; rfl)) ?_
  go_simp
  refine (cmp44 xs ys nxs nys (1) _ HX.out HY.out H1.out).mono ?_
  rintro e Wn ⟨rfl, hb⟩
  have hS := HS.out.call hb
  clear HS; have HS := Lib.hid hS; clear hS
  clear hb
  refine ⟨HS.out, ?_⟩
  try simp only [Act.put, List.setIfInBounds_toArray, List.set_cons_succ, List.set_cons_zero]
  refine wpPi_act (by rw [hops.out]; simp only [List.getElem?_toArray, List.getElem?_cons_succ, List.getElem?_cons_zero]; rfl) (by first | rfl | (rw [hops.out]; rfl)) ?_
  go_simp
  refine (cmp44 ys zs nys nzs (1) _ HY.out HZ.out H2.out).mono ?_
  rintro e Wn ⟨rfl, hb⟩
  have hS := HS.out.call hb
  clear HS; have HS := Lib.hid hS; clear hS
  clear hb
  refine ⟨HS.out, ?_⟩
  try simp only [Act.put, List.setIfInBounds_toArray, List.set_cons_succ, List.set_cons_zero]
  refine wpPi_act (by rw [hops.out]; simp only [List.getElem?_toArray, List.getElem?_cons_succ, List.getElem?_cons_zero]; rfl) (by first | rfl | (rw [hops.out]; rfl)) ?_
  go_simp
  refine (cmp44 xs zs nxs nzs (1) _ HX.out HZ.out H3.out).mono ?_
  rintro e Wn ⟨rfl, hb⟩
  have hS := HS.out.call hb
  clear HS; have HS := Lib.hid hS; clear hS
  clear hb
  refine ⟨HS.out, ?_⟩
  try simp only [Act.put, List.setIfInBounds_toArray, List.set_cons_succ, List.set_cons_zero]
  iterate 3
    first | (refine wpPi_yield _ (by rw [hops.out]; simp only [List.getElem?_toArray, List.getElem?_cons_succ, List.getElem?_cons_zero]; rfl) (by first | rfl | (rw [hops.out]; rfl)) (fun w' hS => by first | exact run_lda (n := 33) (cs := bs xs ++ [Value.int .u32 nxs]) ag44 (by rfl) (by rfl) (hS.range (i := 2) rfl (by rw [pt_len _ _ HX.out]; exact pt_all _ _ HX.out)) (pt_len _ _ HX.out) | exact run_lda (n := 33) (cs := bs ys ++ [Value.int .u32 nys]) ag44 (by rfl) (by rfl) (hS.range (i := 1) rfl (by rw [pt_len _ _ HY.out]; exact pt_all _ _ HY.out)) (pt_len _ _ HY.out) | exact run_lda (n := 33) (cs := bs zs ++ [Value.int .u32 nzs]) ag44 (by rfl) (by rfl) (hS.range (i := 0) rfl (by rw [pt_len _ _ HZ.out]; exact pt_all _ _ HZ.out)) (pt_len _ _ HZ.out) | (go_simp; rfl)) ?_; simp only [Act.put, List.setIfInBounds_toArray, List.set_cons_succ, List.set_cons_zero]) | (refine wpPi_skip (by rw [hops.out]; simp only [List.getElem?_toArray, List.getElem?_cons_succ, List.getElem?_cons_zero]; rfl) (by first | rfl | (rw [hops.out]; rfl)) ?_; simp only [Act.put, List.setIfInBounds_toArray, List.set_cons_succ, List.set_cons_zero])
  simp only [wpPi]
  clear OPS hops
  go_wp2_with (first
    | (refine atd 54 (by rfl) ?_; refine wl (by rfl) (s_lda (cs := bs ys ++ [Value.int .u32 nys]) HS.out 1 33 (by rfl) (by rfl) (by rfl) ag44 (by exact pt_all _ _ HY.out) (pt_len _ _ HY.out) ?_))
    | (refine atd 55 (by rfl) ?_; refine wl (by rfl) (s_lda (cs := bs xs ++ [Value.int .u32 nxs]) HS.out 2 33 (by rfl) (by rfl) (by rfl) ag44 (by exact pt_all _ _ HX.out) (pt_len _ _ HX.out) ?_))
    | (refine atd 64 (by rfl) ?_; refine wl (by rfl) (s_lda (cs := bs xs ++ [Value.int .u32 nxs]) HS.out 2 33 (by rfl) (by rfl) (by rfl) ag44 (by exact pt_all _ _ HX.out) (pt_len _ _ HX.out) ?_))
    | (refine atd 65 (by rfl) ?_; refine wl (by rfl) (s_lda (cs := bs ys ++ [Value.int .u32 nys]) HS.out 1 33 (by rfl) (by rfl) (by rfl) ag44 (by exact pt_all _ _ HY.out) (pt_len _ _ HY.out) ?_))
    | (refine atd 71 (by rfl) ?_; refine wl (by rfl) (s_lda (cs := bs xs) HS.out 2 32 (by rfl) (by rfl) (by rfl) ag23' (by exact pt_h _ _ HX.out) ((by rw [bs_length]; exact HX.out)) ?_))
    | (refine atd 73 (by rfl) ?_; refine wl (by rfl) (s_lda (cs := bs ys) HS.out 1 32 (by rfl) (by rfl) (by rfl) ag23' (by exact pt_h _ _ HY.out) ((by rw [bs_length]; exact HY.out)) ?_))
    | (refine atd 79 (by rfl) ?_; refine wl (by rfl) (s_ld HS.out 2 (by rfl) (by rfl) (by rfl) (by kernel_rfl) (by exact pt_32 _ _ HX.out) ?_))
    | (refine atd 81 (by rfl) ?_; refine wl (by rfl) (s_ld HS.out 1 (by rfl) (by rfl) (by rfl) (by kernel_rfl) (by exact pt_32 _ _ HY.out) ?_))
    | (go_at_call 44; refine (cmp44 ys xs nys nxs (-1) _ HY.out HX.out H4.out).mono ?_; rintro e Wn ⟨rfl, hb⟩; have hS := HS.out.call hb; clear hb; clear HS; have HS := Lib.hid hS; clear hS))
  go_ret
  exact ⟨rfl, HS.out.below⟩
set_option maxHeartbeats 1000000 in
set_option maxRecDepth 100000 in
theorem sorted8_pzps (xs ys zs : List UInt8) (nxs nys nzs : Int) (w : World) (hx : xs.length = 32) (hy : ys.length = 32) (hz : zs.length = 32) (h1 : O (xs, nxs) (ys, nys) = 1) (h2 : O (ys, nys) (zs, nzs) = 0) (h3 : O (xs, nxs) (zs, nzs) = 1) (hxy : xs = ys) (hn : nys < nxs) :
    Calls Try.prog 8 #[.agg (bs xs ++ [Value.int .u32 nxs]).toArray, .agg (bs ys ++ [Value.int .u32 nys]).toArray, .agg (bs zs ++ [Value.int .u32 nzs]).toArray] w fun e w' => e = .returned (.bool true) ∧ Below w.heap.size w w' := by
  have HS := Lib.hid (St.start w)
  have HX := Lib.hid hx; have HY := Lib.hid hy; have HZ := Lib.hid hz
  have H1 := Lib.hid h1; have H2 := Lib.hid h2; have H3 := Lib.hid h3
  have H4 := Lib.hid (show O (ys, nys) (xs, nxs) = -1 by have h := O_neg (xs, nxs) (ys, nys); omega)
  have hq : ∀ W, (Op.equalIn 10000 23 (.agg (bs xs).toArray) (.agg (bs ys).toArray)).run Try.prog W = .ok true W := fun W => by
    have := eqH 9998 xs ys hx hy W
    rwa [decide_eq_true hxy] at this
  have hq0 : ∀ W, (Op.equalIn 9999 23 (.agg (List.take 32 (bs xs ++ [Value.int .u32 nxs])).toArray) (.agg (List.take 32 (bs ys ++ [Value.int .u32 nys])).toArray)).run Try.prog W = .ok true W := fun W => by
    rw [take_pt _ _ hx, take_pt _ _ hy]
    have := eqH 9997 xs ys hx hy W
    rwa [decide_eq_true hxy] at this
  have p1 := pt_32 xs nxs hx
  have p2 := pt_32 ys nys hy
  have k1 : decide (nxs < nys) = false := decide_eq_false (by omega)
  have k2 : (nxs == nys) = false := by rw [beq_eq_false_iff_ne]; omega
  clear hx hy hz h1 h2 h3 hxy hn
  go_enter Try.func8, Try.ntmps8
  go_wp2_with (first
    | (refine atd 3 (by rfl) ?_; refine wl (by rfl) (s_bx (l := bs xs ++ [Value.int .u32 nxs]) HS.out (by rfl) (by rfl) ?_); intro b3 Wn hS; clear HS; have HS := Lib.hid hS; clear hS)
    | (refine atd 4 (by rfl) ?_; refine wl (by rfl) (s_bx (l := bs ys ++ [Value.int .u32 nys]) HS.out (by rfl) (by rfl) ?_); intro b4 Wn hS; clear HS; have HS := Lib.hid hS; clear hS)
    | (refine atd 5 (by rfl) ?_; refine wl (by rfl) (s_bx (l := bs zs ++ [Value.int .u32 nzs]) HS.out (by rfl) (by rfl) ?_); intro b5 Wn hS; clear HS; have HS := Lib.hid hS; clear hS)
    | (go_at_call 33; refine (alive33 _).mono ?_; rintro e Wn ⟨rfl, hb⟩; have hS := HS.out.call hb; clear hb; clear HS; have HS := Lib.hid hS; clear hS))
  refine wp_region_pi [(0, true), (1, true), (3, true), (4, true), (6, true), (7, true), (2, false), (5, false), (8, false), (9, true), (10, true), (11, true)] (by kernel_rfl) (by kernel_rfl) rfl (by kernel_rfl) (fun _ _ _ _ _ h => h) (fun w' => St w w' [Blk b5 (bs zs ++ [Value.int .u32 nzs]) 44, Blk b4 (bs ys ++ [Value.int .u32 nys]) 44, Blk b3 (bs xs ++ [Value.int .u32 nxs]) 44] []) HS.out.drew ?_
  intro OPS hops
  have hS := HS.out.drew
  clear HS; have HS := Lib.hid hS; clear hS
  iterate 6
    first | (refine wpPi_yield _ (by rw [hops.out]; simp only [List.getElem?_toArray, List.getElem?_cons_succ, List.getElem?_cons_zero]; rfl) (by first | rfl | (rw [hops.out]; rfl)) (fun w' hS => by first | exact run_lda (n := 33) (cs := bs xs ++ [Value.int .u32 nxs]) ag44 (by rfl) (by rfl) (hS.range (i := 2) rfl (by rw [pt_len _ _ HX.out]; exact pt_all _ _ HX.out)) (pt_len _ _ HX.out) | exact run_lda (n := 33) (cs := bs ys ++ [Value.int .u32 nys]) ag44 (by rfl) (by rfl) (hS.range (i := 1) rfl (by rw [pt_len _ _ HY.out]; exact pt_all _ _ HY.out)) (pt_len _ _ HY.out) | exact run_lda (n := 33) (cs := bs zs ++ [Value.int .u32 nzs]) ag44 (by rfl) (by rfl) (hS.range (i := 0) rfl (by rw [pt_len _ _ HZ.out]; exact pt_all _ _ HZ.out)) (pt_len _ _ HZ.out) | (go_simp; rfl)) ?_; simp only [Act.put, List.setIfInBounds_toArray, List.set_cons_succ, List.set_cons_zero]) | (refine wpPi_skip (by rw [hops.out]; simp only [List.getElem?_toArray, List.getElem?_cons_succ, List.getElem?_cons_zero]; rfl) (by first | rfl | (rw [hops.out]; rfl)) ?_; simp only [Act.put, List.setIfInBounds_toArray, List.set_cons_succ, List.set_cons_zero])
  refine wpPi_act (by rw [hops.out]; simp only [List.getElem?_toArray, List.getElem?_cons_succ, List.getElem?_cons_zero]; rfl) (by first | rfl | (rw [hops.out]; rfl)) ?_
  go_simp
  refine (cmp44 xs ys nxs nys (1) _ HX.out HY.out H1.out).mono ?_
  rintro e Wn ⟨rfl, hb⟩
  have hS := HS.out.call hb
  clear HS; have HS := Lib.hid hS; clear hS
  clear hb
  refine ⟨HS.out, ?_⟩
  try simp only [Act.put, List.setIfInBounds_toArray, List.set_cons_succ, List.set_cons_zero]
  refine wpPi_act (by rw [hops.out]; simp only [List.getElem?_toArray, List.getElem?_cons_succ, List.getElem?_cons_zero]; rfl) (by first | rfl | (rw [hops.out]; rfl)) ?_
  go_simp
  refine (cmp44 ys zs nys nzs (0) _ HY.out HZ.out H2.out).mono ?_
  rintro e Wn ⟨rfl, hb⟩
  have hS := HS.out.call hb
  clear HS; have HS := Lib.hid hS; clear hS
  clear hb
  refine ⟨HS.out, ?_⟩
  try simp only [Act.put, List.setIfInBounds_toArray, List.set_cons_succ, List.set_cons_zero]
  refine wpPi_act (by rw [hops.out]; simp only [List.getElem?_toArray, List.getElem?_cons_succ, List.getElem?_cons_zero]; rfl) (by first | rfl | (rw [hops.out]; rfl)) ?_
  go_simp
  refine (cmp44 xs zs nxs nzs (1) _ HX.out HZ.out H3.out).mono ?_
  rintro e Wn ⟨rfl, hb⟩
  have hS := HS.out.call hb
  clear HS; have HS := Lib.hid hS; clear hS
  clear hb
  refine ⟨HS.out, ?_⟩
  try simp only [Act.put, List.setIfInBounds_toArray, List.set_cons_succ, List.set_cons_zero]
  iterate 3
    first | (refine wpPi_yield _ (by rw [hops.out]; simp only [List.getElem?_toArray, List.getElem?_cons_succ, List.getElem?_cons_zero]; rfl) (by first | rfl | (rw [hops.out]; rfl)) (fun w' hS => by first | exact run_lda (n := 33) (cs := bs xs ++ [Value.int .u32 nxs]) ag44 (by rfl) (by rfl) (hS.range (i := 2) rfl (by rw [pt_len _ _ HX.out]; exact pt_all _ _ HX.out)) (pt_len _ _ HX.out) | exact run_lda (n := 33) (cs := bs ys ++ [Value.int .u32 nys]) ag44 (by rfl) (by rfl) (hS.range (i := 1) rfl (by rw [pt_len _ _ HY.out]; exact pt_all _ _ HY.out)) (pt_len _ _ HY.out) | exact run_lda (n := 33) (cs := bs zs ++ [Value.int .u32 nzs]) ag44 (by rfl) (by rfl) (hS.range (i := 0) rfl (by rw [pt_len _ _ HZ.out]; exact pt_all _ _ HZ.out)) (pt_len _ _ HZ.out) | (go_simp; rfl)) ?_; simp only [Act.put, List.setIfInBounds_toArray, List.set_cons_succ, List.set_cons_zero]) | (refine wpPi_skip (by rw [hops.out]; simp only [List.getElem?_toArray, List.getElem?_cons_succ, List.getElem?_cons_zero]; rfl) (by first | rfl | (rw [hops.out]; rfl)) ?_; simp only [Act.put, List.setIfInBounds_toArray, List.set_cons_succ, List.set_cons_zero])
  simp only [wpPi]
  clear OPS hops
  go_wp2_with (first
    | (refine atd 54 (by rfl) ?_; refine wl (by rfl) (s_lda (cs := bs ys ++ [Value.int .u32 nys]) HS.out 1 33 (by rfl) (by rfl) (by rfl) ag44 (by exact pt_all _ _ HY.out) (pt_len _ _ HY.out) ?_))
    | (refine atd 55 (by rfl) ?_; refine wl (by rfl) (s_lda (cs := bs xs ++ [Value.int .u32 nxs]) HS.out 2 33 (by rfl) (by rfl) (by rfl) ag44 (by exact pt_all _ _ HX.out) (pt_len _ _ HX.out) ?_))
    | (refine atd 64 (by rfl) ?_; refine wl (by rfl) (s_lda (cs := bs xs ++ [Value.int .u32 nxs]) HS.out 2 33 (by rfl) (by rfl) (by rfl) ag44 (by exact pt_all _ _ HX.out) (pt_len _ _ HX.out) ?_))
    | (refine atd 65 (by rfl) ?_; refine wl (by rfl) (s_lda (cs := bs ys ++ [Value.int .u32 nys]) HS.out 1 33 (by rfl) (by rfl) (by rfl) ag44 (by exact pt_all _ _ HY.out) (pt_len _ _ HY.out) ?_))
    | (refine atd 71 (by rfl) ?_; refine wl (by rfl) (s_lda (cs := bs xs) HS.out 2 32 (by rfl) (by rfl) (by rfl) ag23' (by exact pt_h _ _ HX.out) ((by rw [bs_length]; exact HX.out)) ?_))
    | (refine atd 73 (by rfl) ?_; refine wl (by rfl) (s_lda (cs := bs ys) HS.out 1 32 (by rfl) (by rfl) (by rfl) ag23' (by exact pt_h _ _ HY.out) ((by rw [bs_length]; exact HY.out)) ?_))
    | (refine atd 79 (by rfl) ?_; refine wl (by rfl) (s_ld HS.out 2 (by rfl) (by rfl) (by rfl) (by kernel_rfl) (by exact pt_32 _ _ HX.out) ?_))
    | (refine atd 81 (by rfl) ?_; refine wl (by rfl) (s_ld HS.out 1 (by rfl) (by rfl) (by rfl) (by kernel_rfl) (by exact pt_32 _ _ HY.out) ?_))
    | (go_at_call 44; refine (cmp44 ys xs nys nxs (-1) _ HY.out HX.out H4.out).mono ?_; rintro e Wn ⟨rfl, hb⟩; have hS := HS.out.call hb; clear hb; clear HS; have HS := Lib.hid hS; clear hS))
  go_ret
  exact ⟨rfl, HS.out.below⟩
set_option maxHeartbeats 1000000 in
set_option maxRecDepth 100000 in
theorem sorted8_pzpd (xs ys zs : List UInt8) (nxs nys nzs : Int) (w : World) (hx : xs.length = 32) (hy : ys.length = 32) (hz : zs.length = 32) (h1 : O (xs, nxs) (ys, nys) = 1) (h2 : O (ys, nys) (zs, nzs) = 0) (h3 : O (xs, nxs) (zs, nzs) = 1) (hxy : ¬ xs = ys) :
    Calls Try.prog 8 #[.agg (bs xs ++ [Value.int .u32 nxs]).toArray, .agg (bs ys ++ [Value.int .u32 nys]).toArray, .agg (bs zs ++ [Value.int .u32 nzs]).toArray] w fun e w' => e = .returned (.bool true) ∧ Below w.heap.size w w' := by
  have HS := Lib.hid (St.start w)
  have HX := Lib.hid hx; have HY := Lib.hid hy; have HZ := Lib.hid hz
  have H1 := Lib.hid h1; have H2 := Lib.hid h2; have H3 := Lib.hid h3
  have H4 := Lib.hid (show O (ys, nys) (xs, nxs) = -1 by have h := O_neg (xs, nxs) (ys, nys); omega)
  have hq : ∀ W, (Op.equalIn 10000 23 (.agg (bs xs).toArray) (.agg (bs ys).toArray)).run Try.prog W = .ok false W := fun W => by
    have := eqH 9998 xs ys hx hy W
    rwa [decide_eq_false hxy] at this
  have hq0 : ∀ W, (Op.equalIn 9999 23 (.agg (List.take 32 (bs xs ++ [Value.int .u32 nxs])).toArray) (.agg (List.take 32 (bs ys ++ [Value.int .u32 nys])).toArray)).run Try.prog W = .ok false W := fun W => by
    rw [take_pt _ _ hx, take_pt _ _ hy]
    have := eqH 9997 xs ys hx hy W
    rwa [decide_eq_false hxy] at this
  have p1 := pt_32 xs nxs hx
  have p2 := pt_32 ys nys hy
  clear hx hy hz h1 h2 h3 hxy 
  go_enter Try.func8, Try.ntmps8
  go_wp2_with (first
    | (refine atd 3 (by rfl) ?_; refine wl (by rfl) (s_bx (l := bs xs ++ [Value.int .u32 nxs]) HS.out (by rfl) (by rfl) ?_); intro b3 Wn hS; clear HS; have HS := Lib.hid hS; clear hS)
    | (refine atd 4 (by rfl) ?_; refine wl (by rfl) (s_bx (l := bs ys ++ [Value.int .u32 nys]) HS.out (by rfl) (by rfl) ?_); intro b4 Wn hS; clear HS; have HS := Lib.hid hS; clear hS)
    | (refine atd 5 (by rfl) ?_; refine wl (by rfl) (s_bx (l := bs zs ++ [Value.int .u32 nzs]) HS.out (by rfl) (by rfl) ?_); intro b5 Wn hS; clear HS; have HS := Lib.hid hS; clear hS)
    | (go_at_call 33; refine (alive33 _).mono ?_; rintro e Wn ⟨rfl, hb⟩; have hS := HS.out.call hb; clear hb; clear HS; have HS := Lib.hid hS; clear hS))
  refine wp_region_pi [(0, true), (1, true), (3, true), (4, true), (6, true), (7, true), (2, false), (5, false), (8, false), (9, true), (10, true), (11, true)] (by kernel_rfl) (by kernel_rfl) rfl (by kernel_rfl) (fun _ _ _ _ _ h => h) (fun w' => St w w' [Blk b5 (bs zs ++ [Value.int .u32 nzs]) 44, Blk b4 (bs ys ++ [Value.int .u32 nys]) 44, Blk b3 (bs xs ++ [Value.int .u32 nxs]) 44] []) HS.out.drew ?_
  intro OPS hops
  have hS := HS.out.drew
  clear HS; have HS := Lib.hid hS; clear hS
  iterate 6
    first | (refine wpPi_yield _ (by rw [hops.out]; simp only [List.getElem?_toArray, List.getElem?_cons_succ, List.getElem?_cons_zero]; rfl) (by first | rfl | (rw [hops.out]; rfl)) (fun w' hS => by first | exact run_lda (n := 33) (cs := bs xs ++ [Value.int .u32 nxs]) ag44 (by rfl) (by rfl) (hS.range (i := 2) rfl (by rw [pt_len _ _ HX.out]; exact pt_all _ _ HX.out)) (pt_len _ _ HX.out) | exact run_lda (n := 33) (cs := bs ys ++ [Value.int .u32 nys]) ag44 (by rfl) (by rfl) (hS.range (i := 1) rfl (by rw [pt_len _ _ HY.out]; exact pt_all _ _ HY.out)) (pt_len _ _ HY.out) | exact run_lda (n := 33) (cs := bs zs ++ [Value.int .u32 nzs]) ag44 (by rfl) (by rfl) (hS.range (i := 0) rfl (by rw [pt_len _ _ HZ.out]; exact pt_all _ _ HZ.out)) (pt_len _ _ HZ.out) | (go_simp; rfl)) ?_; simp only [Act.put, List.setIfInBounds_toArray, List.set_cons_succ, List.set_cons_zero]) | (refine wpPi_skip (by rw [hops.out]; simp only [List.getElem?_toArray, List.getElem?_cons_succ, List.getElem?_cons_zero]; rfl) (by first | rfl | (rw [hops.out]; rfl)) ?_; simp only [Act.put, List.setIfInBounds_toArray, List.set_cons_succ, List.set_cons_zero])
  refine wpPi_act (by rw [hops.out]; simp only [List.getElem?_toArray, List.getElem?_cons_succ, List.getElem?_cons_zero]; rfl) (by first | rfl | (rw [hops.out]; rfl)) ?_
  go_simp
  refine (cmp44 xs ys nxs nys (1) _ HX.out HY.out H1.out).mono ?_
  rintro e Wn ⟨rfl, hb⟩
  have hS := HS.out.call hb
  clear HS; have HS := Lib.hid hS; clear hS
  clear hb
  refine ⟨HS.out, ?_⟩
  try simp only [Act.put, List.setIfInBounds_toArray, List.set_cons_succ, List.set_cons_zero]
  refine wpPi_act (by rw [hops.out]; simp only [List.getElem?_toArray, List.getElem?_cons_succ, List.getElem?_cons_zero]; rfl) (by first | rfl | (rw [hops.out]; rfl)) ?_
  go_simp
  refine (cmp44 ys zs nys nzs (0) _ HY.out HZ.out H2.out).mono ?_
  rintro e Wn ⟨rfl, hb⟩
  have hS := HS.out.call hb
  clear HS; have HS := Lib.hid hS; clear hS
  clear hb
  refine ⟨HS.out, ?_⟩
  try simp only [Act.put, List.setIfInBounds_toArray, List.set_cons_succ, List.set_cons_zero]
  refine wpPi_act (by rw [hops.out]; simp only [List.getElem?_toArray, List.getElem?_cons_succ, List.getElem?_cons_zero]; rfl) (by first | rfl | (rw [hops.out]; rfl)) ?_
  go_simp
  refine (cmp44 xs zs nxs nzs (1) _ HX.out HZ.out H3.out).mono ?_
  rintro e Wn ⟨rfl, hb⟩
  have hS := HS.out.call hb
  clear HS; have HS := Lib.hid hS; clear hS
  clear hb
  refine ⟨HS.out, ?_⟩
  try simp only [Act.put, List.setIfInBounds_toArray, List.set_cons_succ, List.set_cons_zero]
  iterate 3
    first | (refine wpPi_yield _ (by rw [hops.out]; simp only [List.getElem?_toArray, List.getElem?_cons_succ, List.getElem?_cons_zero]; rfl) (by first | rfl | (rw [hops.out]; rfl)) (fun w' hS => by first | exact run_lda (n := 33) (cs := bs xs ++ [Value.int .u32 nxs]) ag44 (by rfl) (by rfl) (hS.range (i := 2) rfl (by rw [pt_len _ _ HX.out]; exact pt_all _ _ HX.out)) (pt_len _ _ HX.out) | exact run_lda (n := 33) (cs := bs ys ++ [Value.int .u32 nys]) ag44 (by rfl) (by rfl) (hS.range (i := 1) rfl (by rw [pt_len _ _ HY.out]; exact pt_all _ _ HY.out)) (pt_len _ _ HY.out) | exact run_lda (n := 33) (cs := bs zs ++ [Value.int .u32 nzs]) ag44 (by rfl) (by rfl) (hS.range (i := 0) rfl (by rw [pt_len _ _ HZ.out]; exact pt_all _ _ HZ.out)) (pt_len _ _ HZ.out) | (go_simp; rfl)) ?_; simp only [Act.put, List.setIfInBounds_toArray, List.set_cons_succ, List.set_cons_zero]) | (refine wpPi_skip (by rw [hops.out]; simp only [List.getElem?_toArray, List.getElem?_cons_succ, List.getElem?_cons_zero]; rfl) (by first | rfl | (rw [hops.out]; rfl)) ?_; simp only [Act.put, List.setIfInBounds_toArray, List.set_cons_succ, List.set_cons_zero])
  simp only [wpPi]
  clear OPS hops
  go_wp2_with (first
    | (refine atd 54 (by rfl) ?_; refine wl (by rfl) (s_lda (cs := bs ys ++ [Value.int .u32 nys]) HS.out 1 33 (by rfl) (by rfl) (by rfl) ag44 (by exact pt_all _ _ HY.out) (pt_len _ _ HY.out) ?_))
    | (refine atd 55 (by rfl) ?_; refine wl (by rfl) (s_lda (cs := bs xs ++ [Value.int .u32 nxs]) HS.out 2 33 (by rfl) (by rfl) (by rfl) ag44 (by exact pt_all _ _ HX.out) (pt_len _ _ HX.out) ?_))
    | (refine atd 64 (by rfl) ?_; refine wl (by rfl) (s_lda (cs := bs xs ++ [Value.int .u32 nxs]) HS.out 2 33 (by rfl) (by rfl) (by rfl) ag44 (by exact pt_all _ _ HX.out) (pt_len _ _ HX.out) ?_))
    | (refine atd 65 (by rfl) ?_; refine wl (by rfl) (s_lda (cs := bs ys ++ [Value.int .u32 nys]) HS.out 1 33 (by rfl) (by rfl) (by rfl) ag44 (by exact pt_all _ _ HY.out) (pt_len _ _ HY.out) ?_))
    | (refine atd 71 (by rfl) ?_; refine wl (by rfl) (s_lda (cs := bs xs) HS.out 2 32 (by rfl) (by rfl) (by rfl) ag23' (by exact pt_h _ _ HX.out) ((by rw [bs_length]; exact HX.out)) ?_))
    | (refine atd 73 (by rfl) ?_; refine wl (by rfl) (s_lda (cs := bs ys) HS.out 1 32 (by rfl) (by rfl) (by rfl) ag23' (by exact pt_h _ _ HY.out) ((by rw [bs_length]; exact HY.out)) ?_))
    | (refine atd 79 (by rfl) ?_; refine wl (by rfl) (s_ld HS.out 2 (by rfl) (by rfl) (by rfl) (by kernel_rfl) (by exact pt_32 _ _ HX.out) ?_))
    | (refine atd 81 (by rfl) ?_; refine wl (by rfl) (s_ld HS.out 1 (by rfl) (by rfl) (by rfl) (by kernel_rfl) (by exact pt_32 _ _ HY.out) ?_))
    | (go_at_call 44; refine (cmp44 ys xs nys nxs (-1) _ HY.out HX.out H4.out).mono ?_; rintro e Wn ⟨rfl, hb⟩; have hS := HS.out.call hb; clear hb; clear HS; have HS := Lib.hid hS; clear hS))
  go_ret
  exact ⟨rfl, HS.out.below⟩
set_option maxHeartbeats 1000000 in
set_option maxRecDepth 100000 in
theorem sorted8_pmms (xs ys zs : List UInt8) (nxs nys nzs : Int) (w : World) (hx : xs.length = 32) (hy : ys.length = 32) (hz : zs.length = 32) (h1 : O (xs, nxs) (ys, nys) = 1) (h2 : O (ys, nys) (zs, nzs) = -1) (h3 : O (xs, nxs) (zs, nzs) = -1) (hxy : xs = ys) (hn : nys < nxs) :
    Calls Try.prog 8 #[.agg (bs xs ++ [Value.int .u32 nxs]).toArray, .agg (bs ys ++ [Value.int .u32 nys]).toArray, .agg (bs zs ++ [Value.int .u32 nzs]).toArray] w fun e w' => e = .returned (.bool true) ∧ Below w.heap.size w w' := by
  have HS := Lib.hid (St.start w)
  have HX := Lib.hid hx; have HY := Lib.hid hy; have HZ := Lib.hid hz
  have H1 := Lib.hid h1; have H2 := Lib.hid h2; have H3 := Lib.hid h3
  have H4 := Lib.hid (show O (ys, nys) (xs, nxs) = -1 by have h := O_neg (xs, nxs) (ys, nys); omega)
  have hq : ∀ W, (Op.equalIn 10000 23 (.agg (bs xs).toArray) (.agg (bs ys).toArray)).run Try.prog W = .ok true W := fun W => by
    have := eqH 9998 xs ys hx hy W
    rwa [decide_eq_true hxy] at this
  have hq0 : ∀ W, (Op.equalIn 9999 23 (.agg (List.take 32 (bs xs ++ [Value.int .u32 nxs])).toArray) (.agg (List.take 32 (bs ys ++ [Value.int .u32 nys])).toArray)).run Try.prog W = .ok true W := fun W => by
    rw [take_pt _ _ hx, take_pt _ _ hy]
    have := eqH 9997 xs ys hx hy W
    rwa [decide_eq_true hxy] at this
  have p1 := pt_32 xs nxs hx
  have p2 := pt_32 ys nys hy
  have k1 : decide (nxs < nys) = false := decide_eq_false (by omega)
  have k2 : (nxs == nys) = false := by rw [beq_eq_false_iff_ne]; omega
  clear hx hy hz h1 h2 h3 hxy hn
  go_enter Try.func8, Try.ntmps8
  go_wp2_with (first
    | (refine atd 3 (by rfl) ?_; refine wl (by rfl) (s_bx (l := bs xs ++ [Value.int .u32 nxs]) HS.out (by rfl) (by rfl) ?_); intro b3 Wn hS; clear HS; have HS := Lib.hid hS; clear hS)
    | (refine atd 4 (by rfl) ?_; refine wl (by rfl) (s_bx (l := bs ys ++ [Value.int .u32 nys]) HS.out (by rfl) (by rfl) ?_); intro b4 Wn hS; clear HS; have HS := Lib.hid hS; clear hS)
    | (refine atd 5 (by rfl) ?_; refine wl (by rfl) (s_bx (l := bs zs ++ [Value.int .u32 nzs]) HS.out (by rfl) (by rfl) ?_); intro b5 Wn hS; clear HS; have HS := Lib.hid hS; clear hS)
    | (go_at_call 33; refine (alive33 _).mono ?_; rintro e Wn ⟨rfl, hb⟩; have hS := HS.out.call hb; clear hb; clear HS; have HS := Lib.hid hS; clear hS))
  refine wp_region_pi [(0, true), (1, true), (3, true), (4, true), (6, true), (7, true), (2, false), (5, false), (8, false), (9, true), (10, true), (11, true)] (by kernel_rfl) (by kernel_rfl) rfl (by kernel_rfl) (fun _ _ _ _ _ h => h) (fun w' => St w w' [Blk b5 (bs zs ++ [Value.int .u32 nzs]) 44, Blk b4 (bs ys ++ [Value.int .u32 nys]) 44, Blk b3 (bs xs ++ [Value.int .u32 nxs]) 44] []) HS.out.drew ?_
  intro OPS hops
  have hS := HS.out.drew
  clear HS; have HS := Lib.hid hS; clear hS
  iterate 6
    first | (refine wpPi_yield _ (by rw [hops.out]; simp only [List.getElem?_toArray, List.getElem?_cons_succ, List.getElem?_cons_zero]; rfl) (by first | rfl | (rw [hops.out]; rfl)) (fun w' hS => by first | exact run_lda (n := 33) (cs := bs xs ++ [Value.int .u32 nxs]) ag44 (by rfl) (by rfl) (hS.range (i := 2) rfl (by rw [pt_len _ _ HX.out]; exact pt_all _ _ HX.out)) (pt_len _ _ HX.out) | exact run_lda (n := 33) (cs := bs ys ++ [Value.int .u32 nys]) ag44 (by rfl) (by rfl) (hS.range (i := 1) rfl (by rw [pt_len _ _ HY.out]; exact pt_all _ _ HY.out)) (pt_len _ _ HY.out) | exact run_lda (n := 33) (cs := bs zs ++ [Value.int .u32 nzs]) ag44 (by rfl) (by rfl) (hS.range (i := 0) rfl (by rw [pt_len _ _ HZ.out]; exact pt_all _ _ HZ.out)) (pt_len _ _ HZ.out) | (go_simp; rfl)) ?_; simp only [Act.put, List.setIfInBounds_toArray, List.set_cons_succ, List.set_cons_zero]) | (refine wpPi_skip (by rw [hops.out]; simp only [List.getElem?_toArray, List.getElem?_cons_succ, List.getElem?_cons_zero]; rfl) (by first | rfl | (rw [hops.out]; rfl)) ?_; simp only [Act.put, List.setIfInBounds_toArray, List.set_cons_succ, List.set_cons_zero])
  refine wpPi_act (by rw [hops.out]; simp only [List.getElem?_toArray, List.getElem?_cons_succ, List.getElem?_cons_zero]; rfl) (by first | rfl | (rw [hops.out]; rfl)) ?_
  go_simp
  refine (cmp44 xs ys nxs nys (1) _ HX.out HY.out H1.out).mono ?_
  rintro e Wn ⟨rfl, hb⟩
  have hS := HS.out.call hb
  clear HS; have HS := Lib.hid hS; clear hS
  clear hb
  refine ⟨HS.out, ?_⟩
  try simp only [Act.put, List.setIfInBounds_toArray, List.set_cons_succ, List.set_cons_zero]
  refine wpPi_act (by rw [hops.out]; simp only [List.getElem?_toArray, List.getElem?_cons_succ, List.getElem?_cons_zero]; rfl) (by first | rfl | (rw [hops.out]; rfl)) ?_
  go_simp
  refine (cmp44 ys zs nys nzs (-1) _ HY.out HZ.out H2.out).mono ?_
  rintro e Wn ⟨rfl, hb⟩
  have hS := HS.out.call hb
  clear HS; have HS := Lib.hid hS; clear hS
  clear hb
  refine ⟨HS.out, ?_⟩
  try simp only [Act.put, List.setIfInBounds_toArray, List.set_cons_succ, List.set_cons_zero]
  refine wpPi_act (by rw [hops.out]; simp only [List.getElem?_toArray, List.getElem?_cons_succ, List.getElem?_cons_zero]; rfl) (by first | rfl | (rw [hops.out]; rfl)) ?_
  go_simp
  refine (cmp44 xs zs nxs nzs (-1) _ HX.out HZ.out H3.out).mono ?_
  rintro e Wn ⟨rfl, hb⟩
  have hS := HS.out.call hb
  clear HS; have HS := Lib.hid hS; clear hS
  clear hb
  refine ⟨HS.out, ?_⟩
  try simp only [Act.put, List.setIfInBounds_toArray, List.set_cons_succ, List.set_cons_zero]
  iterate 3
    first | (refine wpPi_yield _ (by rw [hops.out]; simp only [List.getElem?_toArray, List.getElem?_cons_succ, List.getElem?_cons_zero]; rfl) (by first | rfl | (rw [hops.out]; rfl)) (fun w' hS => by first | exact run_lda (n := 33) (cs := bs xs ++ [Value.int .u32 nxs]) ag44 (by rfl) (by rfl) (hS.range (i := 2) rfl (by rw [pt_len _ _ HX.out]; exact pt_all _ _ HX.out)) (pt_len _ _ HX.out) | exact run_lda (n := 33) (cs := bs ys ++ [Value.int .u32 nys]) ag44 (by rfl) (by rfl) (hS.range (i := 1) rfl (by rw [pt_len _ _ HY.out]; exact pt_all _ _ HY.out)) (pt_len _ _ HY.out) | exact run_lda (n := 33) (cs := bs zs ++ [Value.int .u32 nzs]) ag44 (by rfl) (by rfl) (hS.range (i := 0) rfl (by rw [pt_len _ _ HZ.out]; exact pt_all _ _ HZ.out)) (pt_len _ _ HZ.out) | (go_simp; rfl)) ?_; simp only [Act.put, List.setIfInBounds_toArray, List.set_cons_succ, List.set_cons_zero]) | (refine wpPi_skip (by rw [hops.out]; simp only [List.getElem?_toArray, List.getElem?_cons_succ, List.getElem?_cons_zero]; rfl) (by first | rfl | (rw [hops.out]; rfl)) ?_; simp only [Act.put, List.setIfInBounds_toArray, List.set_cons_succ, List.set_cons_zero])
  simp only [wpPi]
  clear OPS hops
  go_wp2_with (first
    | (refine atd 54 (by rfl) ?_; refine wl (by rfl) (s_lda (cs := bs ys ++ [Value.int .u32 nys]) HS.out 1 33 (by rfl) (by rfl) (by rfl) ag44 (by exact pt_all _ _ HY.out) (pt_len _ _ HY.out) ?_))
    | (refine atd 55 (by rfl) ?_; refine wl (by rfl) (s_lda (cs := bs xs ++ [Value.int .u32 nxs]) HS.out 2 33 (by rfl) (by rfl) (by rfl) ag44 (by exact pt_all _ _ HX.out) (pt_len _ _ HX.out) ?_))
    | (refine atd 64 (by rfl) ?_; refine wl (by rfl) (s_lda (cs := bs xs ++ [Value.int .u32 nxs]) HS.out 2 33 (by rfl) (by rfl) (by rfl) ag44 (by exact pt_all _ _ HX.out) (pt_len _ _ HX.out) ?_))
    | (refine atd 65 (by rfl) ?_; refine wl (by rfl) (s_lda (cs := bs ys ++ [Value.int .u32 nys]) HS.out 1 33 (by rfl) (by rfl) (by rfl) ag44 (by exact pt_all _ _ HY.out) (pt_len _ _ HY.out) ?_))
    | (refine atd 71 (by rfl) ?_; refine wl (by rfl) (s_lda (cs := bs xs) HS.out 2 32 (by rfl) (by rfl) (by rfl) ag23' (by exact pt_h _ _ HX.out) ((by rw [bs_length]; exact HX.out)) ?_))
    | (refine atd 73 (by rfl) ?_; refine wl (by rfl) (s_lda (cs := bs ys) HS.out 1 32 (by rfl) (by rfl) (by rfl) ag23' (by exact pt_h _ _ HY.out) ((by rw [bs_length]; exact HY.out)) ?_))
    | (refine atd 79 (by rfl) ?_; refine wl (by rfl) (s_ld HS.out 2 (by rfl) (by rfl) (by rfl) (by kernel_rfl) (by exact pt_32 _ _ HX.out) ?_))
    | (refine atd 81 (by rfl) ?_; refine wl (by rfl) (s_ld HS.out 1 (by rfl) (by rfl) (by rfl) (by kernel_rfl) (by exact pt_32 _ _ HY.out) ?_))
    | (go_at_call 44; refine (cmp44 ys xs nys nxs (-1) _ HY.out HX.out H4.out).mono ?_; rintro e Wn ⟨rfl, hb⟩; have hS := HS.out.call hb; clear hb; clear HS; have HS := Lib.hid hS; clear hS))
  go_ret
  exact ⟨rfl, HS.out.below⟩
set_option maxHeartbeats 1000000 in
set_option maxRecDepth 100000 in
theorem sorted8_pmmd (xs ys zs : List UInt8) (nxs nys nzs : Int) (w : World) (hx : xs.length = 32) (hy : ys.length = 32) (hz : zs.length = 32) (h1 : O (xs, nxs) (ys, nys) = 1) (h2 : O (ys, nys) (zs, nzs) = -1) (h3 : O (xs, nxs) (zs, nzs) = -1) (hxy : ¬ xs = ys) :
    Calls Try.prog 8 #[.agg (bs xs ++ [Value.int .u32 nxs]).toArray, .agg (bs ys ++ [Value.int .u32 nys]).toArray, .agg (bs zs ++ [Value.int .u32 nzs]).toArray] w fun e w' => e = .returned (.bool true) ∧ Below w.heap.size w w' := by
  have HS := Lib.hid (St.start w)
  have HX := Lib.hid hx; have HY := Lib.hid hy; have HZ := Lib.hid hz
  have H1 := Lib.hid h1; have H2 := Lib.hid h2; have H3 := Lib.hid h3
  have H4 := Lib.hid (show O (ys, nys) (xs, nxs) = -1 by have h := O_neg (xs, nxs) (ys, nys); omega)
  have hq : ∀ W, (Op.equalIn 10000 23 (.agg (bs xs).toArray) (.agg (bs ys).toArray)).run Try.prog W = .ok false W := fun W => by
    have := eqH 9998 xs ys hx hy W
    rwa [decide_eq_false hxy] at this
  have hq0 : ∀ W, (Op.equalIn 9999 23 (.agg (List.take 32 (bs xs ++ [Value.int .u32 nxs])).toArray) (.agg (List.take 32 (bs ys ++ [Value.int .u32 nys])).toArray)).run Try.prog W = .ok false W := fun W => by
    rw [take_pt _ _ hx, take_pt _ _ hy]
    have := eqH 9997 xs ys hx hy W
    rwa [decide_eq_false hxy] at this
  have p1 := pt_32 xs nxs hx
  have p2 := pt_32 ys nys hy
  clear hx hy hz h1 h2 h3 hxy 
  go_enter Try.func8, Try.ntmps8
  go_wp2_with (first
    | (refine atd 3 (by rfl) ?_; refine wl (by rfl) (s_bx (l := bs xs ++ [Value.int .u32 nxs]) HS.out (by rfl) (by rfl) ?_); intro b3 Wn hS; clear HS; have HS := Lib.hid hS; clear hS)
    | (refine atd 4 (by rfl) ?_; refine wl (by rfl) (s_bx (l := bs ys ++ [Value.int .u32 nys]) HS.out (by rfl) (by rfl) ?_); intro b4 Wn hS; clear HS; have HS := Lib.hid hS; clear hS)
    | (refine atd 5 (by rfl) ?_; refine wl (by rfl) (s_bx (l := bs zs ++ [Value.int .u32 nzs]) HS.out (by rfl) (by rfl) ?_); intro b5 Wn hS; clear HS; have HS := Lib.hid hS; clear hS)
    | (go_at_call 33; refine (alive33 _).mono ?_; rintro e Wn ⟨rfl, hb⟩; have hS := HS.out.call hb; clear hb; clear HS; have HS := Lib.hid hS; clear hS))
  refine wp_region_pi [(0, true), (1, true), (3, true), (4, true), (6, true), (7, true), (2, false), (5, false), (8, false), (9, true), (10, true), (11, true)] (by kernel_rfl) (by kernel_rfl) rfl (by kernel_rfl) (fun _ _ _ _ _ h => h) (fun w' => St w w' [Blk b5 (bs zs ++ [Value.int .u32 nzs]) 44, Blk b4 (bs ys ++ [Value.int .u32 nys]) 44, Blk b3 (bs xs ++ [Value.int .u32 nxs]) 44] []) HS.out.drew ?_
  intro OPS hops
  have hS := HS.out.drew
  clear HS; have HS := Lib.hid hS; clear hS
  iterate 6
    first | (refine wpPi_yield _ (by rw [hops.out]; simp only [List.getElem?_toArray, List.getElem?_cons_succ, List.getElem?_cons_zero]; rfl) (by first | rfl | (rw [hops.out]; rfl)) (fun w' hS => by first | exact run_lda (n := 33) (cs := bs xs ++ [Value.int .u32 nxs]) ag44 (by rfl) (by rfl) (hS.range (i := 2) rfl (by rw [pt_len _ _ HX.out]; exact pt_all _ _ HX.out)) (pt_len _ _ HX.out) | exact run_lda (n := 33) (cs := bs ys ++ [Value.int .u32 nys]) ag44 (by rfl) (by rfl) (hS.range (i := 1) rfl (by rw [pt_len _ _ HY.out]; exact pt_all _ _ HY.out)) (pt_len _ _ HY.out) | exact run_lda (n := 33) (cs := bs zs ++ [Value.int .u32 nzs]) ag44 (by rfl) (by rfl) (hS.range (i := 0) rfl (by rw [pt_len _ _ HZ.out]; exact pt_all _ _ HZ.out)) (pt_len _ _ HZ.out) | (go_simp; rfl)) ?_; simp only [Act.put, List.setIfInBounds_toArray, List.set_cons_succ, List.set_cons_zero]) | (refine wpPi_skip (by rw [hops.out]; simp only [List.getElem?_toArray, List.getElem?_cons_succ, List.getElem?_cons_zero]; rfl) (by first | rfl | (rw [hops.out]; rfl)) ?_; simp only [Act.put, List.setIfInBounds_toArray, List.set_cons_succ, List.set_cons_zero])
  refine wpPi_act (by rw [hops.out]; simp only [List.getElem?_toArray, List.getElem?_cons_succ, List.getElem?_cons_zero]; rfl) (by first | rfl | (rw [hops.out]; rfl)) ?_
  go_simp
  refine (cmp44 xs ys nxs nys (1) _ HX.out HY.out H1.out).mono ?_
  rintro e Wn ⟨rfl, hb⟩
  have hS := HS.out.call hb
  clear HS; have HS := Lib.hid hS; clear hS
  clear hb
  refine ⟨HS.out, ?_⟩
  try simp only [Act.put, List.setIfInBounds_toArray, List.set_cons_succ, List.set_cons_zero]
  refine wpPi_act (by rw [hops.out]; simp only [List.getElem?_toArray, List.getElem?_cons_succ, List.getElem?_cons_zero]; rfl) (by first | rfl | (rw [hops.out]; rfl)) ?_
  go_simp
  refine (cmp44 ys zs nys nzs (-1) _ HY.out HZ.out H2.out).mono ?_
  rintro e Wn ⟨rfl, hb⟩
  have hS := HS.out.call hb
  clear HS; have HS := Lib.hid hS; clear hS
  clear hb
  refine ⟨HS.out, ?_⟩
  try simp only [Act.put, List.setIfInBounds_toArray, List.set_cons_succ, List.set_cons_zero]
  refine wpPi_act (by rw [hops.out]; simp only [List.getElem?_toArray, List.getElem?_cons_succ, List.getElem?_cons_zero]; rfl) (by first | rfl | (rw [hops.out]; rfl)) ?_
  go_simp
  refine (cmp44 xs zs nxs nzs (-1) _ HX.out HZ.out H3.out).mono ?_
  rintro e Wn ⟨rfl, hb⟩
  have hS := HS.out.call hb
  clear HS; have HS := Lib.hid hS; clear hS
  clear hb
  refine ⟨HS.out, ?_⟩
  try simp only [Act.put, List.setIfInBounds_toArray, List.set_cons_succ, List.set_cons_zero]
  iterate 3
    first | (refine wpPi_yield _ (by rw [hops.out]; simp only [List.getElem?_toArray, List.getElem?_cons_succ, List.getElem?_cons_zero]; rfl) (by first | rfl | (rw [hops.out]; rfl)) (fun w' hS => by first | exact run_lda (n := 33) (cs := bs xs ++ [Value.int .u32 nxs]) ag44 (by rfl) (by rfl) (hS.range (i := 2) rfl (by rw [pt_len _ _ HX.out]; exact pt_all _ _ HX.out)) (pt_len _ _ HX.out) | exact run_lda (n := 33) (cs := bs ys ++ [Value.int .u32 nys]) ag44 (by rfl) (by rfl) (hS.range (i := 1) rfl (by rw [pt_len _ _ HY.out]; exact pt_all _ _ HY.out)) (pt_len _ _ HY.out) | exact run_lda (n := 33) (cs := bs zs ++ [Value.int .u32 nzs]) ag44 (by rfl) (by rfl) (hS.range (i := 0) rfl (by rw [pt_len _ _ HZ.out]; exact pt_all _ _ HZ.out)) (pt_len _ _ HZ.out) | (go_simp; rfl)) ?_; simp only [Act.put, List.setIfInBounds_toArray, List.set_cons_succ, List.set_cons_zero]) | (refine wpPi_skip (by rw [hops.out]; simp only [List.getElem?_toArray, List.getElem?_cons_succ, List.getElem?_cons_zero]; rfl) (by first | rfl | (rw [hops.out]; rfl)) ?_; simp only [Act.put, List.setIfInBounds_toArray, List.set_cons_succ, List.set_cons_zero])
  simp only [wpPi]
  clear OPS hops
  go_wp2_with (first
    | (refine atd 54 (by rfl) ?_; refine wl (by rfl) (s_lda (cs := bs ys ++ [Value.int .u32 nys]) HS.out 1 33 (by rfl) (by rfl) (by rfl) ag44 (by exact pt_all _ _ HY.out) (pt_len _ _ HY.out) ?_))
    | (refine atd 55 (by rfl) ?_; refine wl (by rfl) (s_lda (cs := bs xs ++ [Value.int .u32 nxs]) HS.out 2 33 (by rfl) (by rfl) (by rfl) ag44 (by exact pt_all _ _ HX.out) (pt_len _ _ HX.out) ?_))
    | (refine atd 64 (by rfl) ?_; refine wl (by rfl) (s_lda (cs := bs xs ++ [Value.int .u32 nxs]) HS.out 2 33 (by rfl) (by rfl) (by rfl) ag44 (by exact pt_all _ _ HX.out) (pt_len _ _ HX.out) ?_))
    | (refine atd 65 (by rfl) ?_; refine wl (by rfl) (s_lda (cs := bs ys ++ [Value.int .u32 nys]) HS.out 1 33 (by rfl) (by rfl) (by rfl) ag44 (by exact pt_all _ _ HY.out) (pt_len _ _ HY.out) ?_))
    | (refine atd 71 (by rfl) ?_; refine wl (by rfl) (s_lda (cs := bs xs) HS.out 2 32 (by rfl) (by rfl) (by rfl) ag23' (by exact pt_h _ _ HX.out) ((by rw [bs_length]; exact HX.out)) ?_))
    | (refine atd 73 (by rfl) ?_; refine wl (by rfl) (s_lda (cs := bs ys) HS.out 1 32 (by rfl) (by rfl) (by rfl) ag23' (by exact pt_h _ _ HY.out) ((by rw [bs_length]; exact HY.out)) ?_))
    | (refine atd 79 (by rfl) ?_; refine wl (by rfl) (s_ld HS.out 2 (by rfl) (by rfl) (by rfl) (by kernel_rfl) (by exact pt_32 _ _ HX.out) ?_))
    | (refine atd 81 (by rfl) ?_; refine wl (by rfl) (s_ld HS.out 1 (by rfl) (by rfl) (by rfl) (by kernel_rfl) (by exact pt_32 _ _ HY.out) ?_))
    | (go_at_call 44; refine (cmp44 ys xs nys nxs (-1) _ HY.out HX.out H4.out).mono ?_; rintro e Wn ⟨rfl, hb⟩; have hS := HS.out.call hb; clear hb; clear HS; have HS := Lib.hid hS; clear hS))
  go_ret
  exact ⟨rfl, HS.out.below⟩
set_option maxHeartbeats 1000000 in
set_option maxRecDepth 100000 in
theorem sorted8_pmzs (xs ys zs : List UInt8) (nxs nys nzs : Int) (w : World) (hx : xs.length = 32) (hy : ys.length = 32) (hz : zs.length = 32) (h1 : O (xs, nxs) (ys, nys) = 1) (h2 : O (ys, nys) (zs, nzs) = -1) (h3 : O (xs, nxs) (zs, nzs) = 0) (hxy : xs = ys) (hn : nys < nxs) :
    Calls Try.prog 8 #[.agg (bs xs ++ [Value.int .u32 nxs]).toArray, .agg (bs ys ++ [Value.int .u32 nys]).toArray, .agg (bs zs ++ [Value.int .u32 nzs]).toArray] w fun e w' => e = .returned (.bool true) ∧ Below w.heap.size w w' := by
  have HS := Lib.hid (St.start w)
  have HX := Lib.hid hx; have HY := Lib.hid hy; have HZ := Lib.hid hz
  have H1 := Lib.hid h1; have H2 := Lib.hid h2; have H3 := Lib.hid h3
  have H4 := Lib.hid (show O (ys, nys) (xs, nxs) = -1 by have h := O_neg (xs, nxs) (ys, nys); omega)
  have hq : ∀ W, (Op.equalIn 10000 23 (.agg (bs xs).toArray) (.agg (bs ys).toArray)).run Try.prog W = .ok true W := fun W => by
    have := eqH 9998 xs ys hx hy W
    rwa [decide_eq_true hxy] at this
  have hq0 : ∀ W, (Op.equalIn 9999 23 (.agg (List.take 32 (bs xs ++ [Value.int .u32 nxs])).toArray) (.agg (List.take 32 (bs ys ++ [Value.int .u32 nys])).toArray)).run Try.prog W = .ok true W := fun W => by
    rw [take_pt _ _ hx, take_pt _ _ hy]
    have := eqH 9997 xs ys hx hy W
    rwa [decide_eq_true hxy] at this
  have p1 := pt_32 xs nxs hx
  have p2 := pt_32 ys nys hy
  have k1 : decide (nxs < nys) = false := decide_eq_false (by omega)
  have k2 : (nxs == nys) = false := by rw [beq_eq_false_iff_ne]; omega
  clear hx hy hz h1 h2 h3 hxy hn
  go_enter Try.func8, Try.ntmps8
  go_wp2_with (first
    | (refine atd 3 (by rfl) ?_; refine wl (by rfl) (s_bx (l := bs xs ++ [Value.int .u32 nxs]) HS.out (by rfl) (by rfl) ?_); intro b3 Wn hS; clear HS; have HS := Lib.hid hS; clear hS)
    | (refine atd 4 (by rfl) ?_; refine wl (by rfl) (s_bx (l := bs ys ++ [Value.int .u32 nys]) HS.out (by rfl) (by rfl) ?_); intro b4 Wn hS; clear HS; have HS := Lib.hid hS; clear hS)
    | (refine atd 5 (by rfl) ?_; refine wl (by rfl) (s_bx (l := bs zs ++ [Value.int .u32 nzs]) HS.out (by rfl) (by rfl) ?_); intro b5 Wn hS; clear HS; have HS := Lib.hid hS; clear hS)
    | (go_at_call 33; refine (alive33 _).mono ?_; rintro e Wn ⟨rfl, hb⟩; have hS := HS.out.call hb; clear hb; clear HS; have HS := Lib.hid hS; clear hS))
  refine wp_region_pi [(0, true), (1, true), (3, true), (4, true), (6, true), (7, true), (2, false), (5, false), (8, false), (9, true), (10, true), (11, true)] (by kernel_rfl) (by kernel_rfl) rfl (by kernel_rfl) (fun _ _ _ _ _ h => h) (fun w' => St w w' [Blk b5 (bs zs ++ [Value.int .u32 nzs]) 44, Blk b4 (bs ys ++ [Value.int .u32 nys]) 44, Blk b3 (bs xs ++ [Value.int .u32 nxs]) 44] []) HS.out.drew ?_
  intro OPS hops
  have hS := HS.out.drew
  clear HS; have HS := Lib.hid hS; clear hS
  iterate 6
    first | (refine wpPi_yield _ (by rw [hops.out]; simp only [List.getElem?_toArray, List.getElem?_cons_succ, List.getElem?_cons_zero]; rfl) (by first | rfl | (rw [hops.out]; rfl)) (fun w' hS => by first | exact run_lda (n := 33) (cs := bs xs ++ [Value.int .u32 nxs]) ag44 (by rfl) (by rfl) (hS.range (i := 2) rfl (by rw [pt_len _ _ HX.out]; exact pt_all _ _ HX.out)) (pt_len _ _ HX.out) | exact run_lda (n := 33) (cs := bs ys ++ [Value.int .u32 nys]) ag44 (by rfl) (by rfl) (hS.range (i := 1) rfl (by rw [pt_len _ _ HY.out]; exact pt_all _ _ HY.out)) (pt_len _ _ HY.out) | exact run_lda (n := 33) (cs := bs zs ++ [Value.int .u32 nzs]) ag44 (by rfl) (by rfl) (hS.range (i := 0) rfl (by rw [pt_len _ _ HZ.out]; exact pt_all _ _ HZ.out)) (pt_len _ _ HZ.out) | (go_simp; rfl)) ?_; simp only [Act.put, List.setIfInBounds_toArray, List.set_cons_succ, List.set_cons_zero]) | (refine wpPi_skip (by rw [hops.out]; simp only [List.getElem?_toArray, List.getElem?_cons_succ, List.getElem?_cons_zero]; rfl) (by first | rfl | (rw [hops.out]; rfl)) ?_; simp only [Act.put, List.setIfInBounds_toArray, List.set_cons_succ, List.set_cons_zero])
  refine wpPi_act (by rw [hops.out]; simp only [List.getElem?_toArray, List.getElem?_cons_succ, List.getElem?_cons_zero]; rfl) (by first | rfl | (rw [hops.out]; rfl)) ?_
  go_simp
  refine (cmp44 xs ys nxs nys (1) _ HX.out HY.out H1.out).mono ?_
  rintro e Wn ⟨rfl, hb⟩
  have hS := HS.out.call hb
  clear HS; have HS := Lib.hid hS; clear hS
  clear hb
  refine ⟨HS.out, ?_⟩
  try simp only [Act.put, List.setIfInBounds_toArray, List.set_cons_succ, List.set_cons_zero]
  refine wpPi_act (by rw [hops.out]; simp only [List.getElem?_toArray, List.getElem?_cons_succ, List.getElem?_cons_zero]; rfl) (by first | rfl | (rw [hops.out]; rfl)) ?_
  go_simp
  refine (cmp44 ys zs nys nzs (-1) _ HY.out HZ.out H2.out).mono ?_
  rintro e Wn ⟨rfl, hb⟩
  have hS := HS.out.call hb
  clear HS; have HS := Lib.hid hS; clear hS
  clear hb
  refine ⟨HS.out, ?_⟩
  try simp only [Act.put, List.setIfInBounds_toArray, List.set_cons_succ, List.set_cons_zero]
  refine wpPi_act (by rw [hops.out]; simp only [List.getElem?_toArray, List.getElem?_cons_succ, List.getElem?_cons_zero]; rfl) (by first | rfl | (rw [hops.out]; rfl)) ?_
  go_simp
  refine (cmp44 xs zs nxs nzs (0) _ HX.out HZ.out H3.out).mono ?_
  rintro e Wn ⟨rfl, hb⟩
  have hS := HS.out.call hb
  clear HS; have HS := Lib.hid hS; clear hS
  clear hb
  refine ⟨HS.out, ?_⟩
  try simp only [Act.put, List.setIfInBounds_toArray, List.set_cons_succ, List.set_cons_zero]
  iterate 3
    first | (refine wpPi_yield _ (by rw [hops.out]; simp only [List.getElem?_toArray, List.getElem?_cons_succ, List.getElem?_cons_zero]; rfl) (by first | rfl | (rw [hops.out]; rfl)) (fun w' hS => by first | exact run_lda (n := 33) (cs := bs xs ++ [Value.int .u32 nxs]) ag44 (by rfl) (by rfl) (hS.range (i := 2) rfl (by rw [pt_len _ _ HX.out]; exact pt_all _ _ HX.out)) (pt_len _ _ HX.out) | exact run_lda (n := 33) (cs := bs ys ++ [Value.int .u32 nys]) ag44 (by rfl) (by rfl) (hS.range (i := 1) rfl (by rw [pt_len _ _ HY.out]; exact pt_all _ _ HY.out)) (pt_len _ _ HY.out) | exact run_lda (n := 33) (cs := bs zs ++ [Value.int .u32 nzs]) ag44 (by rfl) (by rfl) (hS.range (i := 0) rfl (by rw [pt_len _ _ HZ.out]; exact pt_all _ _ HZ.out)) (pt_len _ _ HZ.out) | (go_simp; rfl)) ?_; simp only [Act.put, List.setIfInBounds_toArray, List.set_cons_succ, List.set_cons_zero]) | (refine wpPi_skip (by rw [hops.out]; simp only [List.getElem?_toArray, List.getElem?_cons_succ, List.getElem?_cons_zero]; rfl) (by first | rfl | (rw [hops.out]; rfl)) ?_; simp only [Act.put, List.setIfInBounds_toArray, List.set_cons_succ, List.set_cons_zero])
  simp only [wpPi]
  clear OPS hops
  go_wp2_with (first
    | (refine atd 54 (by rfl) ?_; refine wl (by rfl) (s_lda (cs := bs ys ++ [Value.int .u32 nys]) HS.out 1 33 (by rfl) (by rfl) (by rfl) ag44 (by exact pt_all _ _ HY.out) (pt_len _ _ HY.out) ?_))
    | (refine atd 55 (by rfl) ?_; refine wl (by rfl) (s_lda (cs := bs xs ++ [Value.int .u32 nxs]) HS.out 2 33 (by rfl) (by rfl) (by rfl) ag44 (by exact pt_all _ _ HX.out) (pt_len _ _ HX.out) ?_))
    | (refine atd 64 (by rfl) ?_; refine wl (by rfl) (s_lda (cs := bs xs ++ [Value.int .u32 nxs]) HS.out 2 33 (by rfl) (by rfl) (by rfl) ag44 (by exact pt_all _ _ HX.out) (pt_len _ _ HX.out) ?_))
    | (refine atd 65 (by rfl) ?_; refine wl (by rfl) (s_lda (cs := bs ys ++ [Value.int .u32 nys]) HS.out 1 33 (by rfl) (by rfl) (by rfl) ag44 (by exact pt_all _ _ HY.out) (pt_len _ _ HY.out) ?_))
    | (refine atd 71 (by rfl) ?_; refine wl (by rfl) (s_lda (cs := bs xs) HS.out 2 32 (by rfl) (by rfl) (by rfl) ag23' (by exact pt_h _ _ HX.out) ((by rw [bs_length]; exact HX.out)) ?_))
    | (refine atd 73 (by rfl) ?_; refine wl (by rfl) (s_lda (cs := bs ys) HS.out 1 32 (by rfl) (by rfl) (by rfl) ag23' (by exact pt_h _ _ HY.out) ((by rw [bs_length]; exact HY.out)) ?_))
    | (refine atd 79 (by rfl) ?_; refine wl (by rfl) (s_ld HS.out 2 (by rfl) (by rfl) (by rfl) (by kernel_rfl) (by exact pt_32 _ _ HX.out) ?_))
    | (refine atd 81 (by rfl) ?_; refine wl (by rfl) (s_ld HS.out 1 (by rfl) (by rfl) (by rfl) (by kernel_rfl) (by exact pt_32 _ _ HY.out) ?_))
    | (go_at_call 44; refine (cmp44 ys xs nys nxs (-1) _ HY.out HX.out H4.out).mono ?_; rintro e Wn ⟨rfl, hb⟩; have hS := HS.out.call hb; clear hb; clear HS; have HS := Lib.hid hS; clear hS))
  go_ret
  exact ⟨rfl, HS.out.below⟩
set_option maxHeartbeats 1000000 in
set_option maxRecDepth 100000 in
theorem sorted8_pmzd (xs ys zs : List UInt8) (nxs nys nzs : Int) (w : World) (hx : xs.length = 32) (hy : ys.length = 32) (hz : zs.length = 32) (h1 : O (xs, nxs) (ys, nys) = 1) (h2 : O (ys, nys) (zs, nzs) = -1) (h3 : O (xs, nxs) (zs, nzs) = 0) (hxy : ¬ xs = ys) :
    Calls Try.prog 8 #[.agg (bs xs ++ [Value.int .u32 nxs]).toArray, .agg (bs ys ++ [Value.int .u32 nys]).toArray, .agg (bs zs ++ [Value.int .u32 nzs]).toArray] w fun e w' => e = .returned (.bool true) ∧ Below w.heap.size w w' := by
  have HS := Lib.hid (St.start w)
  have HX := Lib.hid hx; have HY := Lib.hid hy; have HZ := Lib.hid hz
  have H1 := Lib.hid h1; have H2 := Lib.hid h2; have H3 := Lib.hid h3
  have H4 := Lib.hid (show O (ys, nys) (xs, nxs) = -1 by have h := O_neg (xs, nxs) (ys, nys); omega)
  have hq : ∀ W, (Op.equalIn 10000 23 (.agg (bs xs).toArray) (.agg (bs ys).toArray)).run Try.prog W = .ok false W := fun W => by
    have := eqH 9998 xs ys hx hy W
    rwa [decide_eq_false hxy] at this
  have hq0 : ∀ W, (Op.equalIn 9999 23 (.agg (List.take 32 (bs xs ++ [Value.int .u32 nxs])).toArray) (.agg (List.take 32 (bs ys ++ [Value.int .u32 nys])).toArray)).run Try.prog W = .ok false W := fun W => by
    rw [take_pt _ _ hx, take_pt _ _ hy]
    have := eqH 9997 xs ys hx hy W
    rwa [decide_eq_false hxy] at this
  have p1 := pt_32 xs nxs hx
  have p2 := pt_32 ys nys hy
  clear hx hy hz h1 h2 h3 hxy 
  go_enter Try.func8, Try.ntmps8
  go_wp2_with (first
    | (refine atd 3 (by rfl) ?_; refine wl (by rfl) (s_bx (l := bs xs ++ [Value.int .u32 nxs]) HS.out (by rfl) (by rfl) ?_); intro b3 Wn hS; clear HS; have HS := Lib.hid hS; clear hS)
    | (refine atd 4 (by rfl) ?_; refine wl (by rfl) (s_bx (l := bs ys ++ [Value.int .u32 nys]) HS.out (by rfl) (by rfl) ?_); intro b4 Wn hS; clear HS; have HS := Lib.hid hS; clear hS)
    | (refine atd 5 (by rfl) ?_; refine wl (by rfl) (s_bx (l := bs zs ++ [Value.int .u32 nzs]) HS.out (by rfl) (by rfl) ?_); intro b5 Wn hS; clear HS; have HS := Lib.hid hS; clear hS)
    | (go_at_call 33; refine (alive33 _).mono ?_; rintro e Wn ⟨rfl, hb⟩; have hS := HS.out.call hb; clear hb; clear HS; have HS := Lib.hid hS; clear hS))
  refine wp_region_pi [(0, true), (1, true), (3, true), (4, true), (6, true), (7, true), (2, false), (5, false), (8, false), (9, true), (10, true), (11, true)] (by kernel_rfl) (by kernel_rfl) rfl (by kernel_rfl) (fun _ _ _ _ _ h => h) (fun w' => St w w' [Blk b5 (bs zs ++ [Value.int .u32 nzs]) 44, Blk b4 (bs ys ++ [Value.int .u32 nys]) 44, Blk b3 (bs xs ++ [Value.int .u32 nxs]) 44] []) HS.out.drew ?_
  intro OPS hops
  have hS := HS.out.drew
  clear HS; have HS := Lib.hid hS; clear hS
  iterate 6
    first | (refine wpPi_yield _ (by rw [hops.out]; simp only [List.getElem?_toArray, List.getElem?_cons_succ, List.getElem?_cons_zero]; rfl) (by first | rfl | (rw [hops.out]; rfl)) (fun w' hS => by first | exact run_lda (n := 33) (cs := bs xs ++ [Value.int .u32 nxs]) ag44 (by rfl) (by rfl) (hS.range (i := 2) rfl (by rw [pt_len _ _ HX.out]; exact pt_all _ _ HX.out)) (pt_len _ _ HX.out) | exact run_lda (n := 33) (cs := bs ys ++ [Value.int .u32 nys]) ag44 (by rfl) (by rfl) (hS.range (i := 1) rfl (by rw [pt_len _ _ HY.out]; exact pt_all _ _ HY.out)) (pt_len _ _ HY.out) | exact run_lda (n := 33) (cs := bs zs ++ [Value.int .u32 nzs]) ag44 (by rfl) (by rfl) (hS.range (i := 0) rfl (by rw [pt_len _ _ HZ.out]; exact pt_all _ _ HZ.out)) (pt_len _ _ HZ.out) | (go_simp; rfl)) ?_; simp only [Act.put, List.setIfInBounds_toArray, List.set_cons_succ, List.set_cons_zero]) | (refine wpPi_skip (by rw [hops.out]; simp only [List.getElem?_toArray, List.getElem?_cons_succ, List.getElem?_cons_zero]; rfl) (by first | rfl | (rw [hops.out]; rfl)) ?_; simp only [Act.put, List.setIfInBounds_toArray, List.set_cons_succ, List.set_cons_zero])
  refine wpPi_act (by rw [hops.out]; simp only [List.getElem?_toArray, List.getElem?_cons_succ, List.getElem?_cons_zero]; rfl) (by first | rfl | (rw [hops.out]; rfl)) ?_
  go_simp
  refine (cmp44 xs ys nxs nys (1) _ HX.out HY.out H1.out).mono ?_
  rintro e Wn ⟨rfl, hb⟩
  have hS := HS.out.call hb
  clear HS; have HS := Lib.hid hS; clear hS
  clear hb
  refine ⟨HS.out, ?_⟩
  try simp only [Act.put, List.setIfInBounds_toArray, List.set_cons_succ, List.set_cons_zero]
  refine wpPi_act (by rw [hops.out]; simp only [List.getElem?_toArray, List.getElem?_cons_succ, List.getElem?_cons_zero]; rfl) (by first | rfl | (rw [hops.out]; rfl)) ?_
  go_simp
  refine (cmp44 ys zs nys nzs (-1) _ HY.out HZ.out H2.out).mono ?_
  rintro e Wn ⟨rfl, hb⟩
  have hS := HS.out.call hb
  clear HS; have HS := Lib.hid hS; clear hS
  clear hb
  refine ⟨HS.out, ?_⟩
  try simp only [Act.put, List.setIfInBounds_toArray, List.set_cons_succ, List.set_cons_zero]
  refine wpPi_act (by rw [hops.out]; simp only [List.getElem?_toArray, List.getElem?_cons_succ, List.getElem?_cons_zero]; rfl) (by first | rfl | (rw [hops.out]; rfl)) ?_
  go_simp
  refine (cmp44 xs zs nxs nzs (0) _ HX.out HZ.out H3.out).mono ?_
  rintro e Wn ⟨rfl, hb⟩
  have hS := HS.out.call hb
  clear HS; have HS := Lib.hid hS; clear hS
  clear hb
  refine ⟨HS.out, ?_⟩
  try simp only [Act.put, List.setIfInBounds_toArray, List.set_cons_succ, List.set_cons_zero]
  iterate 3
    first | (refine wpPi_yield _ (by rw [hops.out]; simp only [List.getElem?_toArray, List.getElem?_cons_succ, List.getElem?_cons_zero]; rfl) (by first | rfl | (rw [hops.out]; rfl)) (fun w' hS => by first | exact run_lda (n := 33) (cs := bs xs ++ [Value.int .u32 nxs]) ag44 (by rfl) (by rfl) (hS.range (i := 2) rfl (by rw [pt_len _ _ HX.out]; exact pt_all _ _ HX.out)) (pt_len _ _ HX.out) | exact run_lda (n := 33) (cs := bs ys ++ [Value.int .u32 nys]) ag44 (by rfl) (by rfl) (hS.range (i := 1) rfl (by rw [pt_len _ _ HY.out]; exact pt_all _ _ HY.out)) (pt_len _ _ HY.out) | exact run_lda (n := 33) (cs := bs zs ++ [Value.int .u32 nzs]) ag44 (by rfl) (by rfl) (hS.range (i := 0) rfl (by rw [pt_len _ _ HZ.out]; exact pt_all _ _ HZ.out)) (pt_len _ _ HZ.out) | (go_simp; rfl)) ?_; simp only [Act.put, List.setIfInBounds_toArray, List.set_cons_succ, List.set_cons_zero]) | (refine wpPi_skip (by rw [hops.out]; simp only [List.getElem?_toArray, List.getElem?_cons_succ, List.getElem?_cons_zero]; rfl) (by first | rfl | (rw [hops.out]; rfl)) ?_; simp only [Act.put, List.setIfInBounds_toArray, List.set_cons_succ, List.set_cons_zero])
  simp only [wpPi]
  clear OPS hops
  go_wp2_with (first
    | (refine atd 54 (by rfl) ?_; refine wl (by rfl) (s_lda (cs := bs ys ++ [Value.int .u32 nys]) HS.out 1 33 (by rfl) (by rfl) (by rfl) ag44 (by exact pt_all _ _ HY.out) (pt_len _ _ HY.out) ?_))
    | (refine atd 55 (by rfl) ?_; refine wl (by rfl) (s_lda (cs := bs xs ++ [Value.int .u32 nxs]) HS.out 2 33 (by rfl) (by rfl) (by rfl) ag44 (by exact pt_all _ _ HX.out) (pt_len _ _ HX.out) ?_))
    | (refine atd 64 (by rfl) ?_; refine wl (by rfl) (s_lda (cs := bs xs ++ [Value.int .u32 nxs]) HS.out 2 33 (by rfl) (by rfl) (by rfl) ag44 (by exact pt_all _ _ HX.out) (pt_len _ _ HX.out) ?_))
    | (refine atd 65 (by rfl) ?_; refine wl (by rfl) (s_lda (cs := bs ys ++ [Value.int .u32 nys]) HS.out 1 33 (by rfl) (by rfl) (by rfl) ag44 (by exact pt_all _ _ HY.out) (pt_len _ _ HY.out) ?_))
    | (refine atd 71 (by rfl) ?_; refine wl (by rfl) (s_lda (cs := bs xs) HS.out 2 32 (by rfl) (by rfl) (by rfl) ag23' (by exact pt_h _ _ HX.out) ((by rw [bs_length]; exact HX.out)) ?_))
    | (refine atd 73 (by rfl) ?_; refine wl (by rfl) (s_lda (cs := bs ys) HS.out 1 32 (by rfl) (by rfl) (by rfl) ag23' (by exact pt_h _ _ HY.out) ((by rw [bs_length]; exact HY.out)) ?_))
    | (refine atd 79 (by rfl) ?_; refine wl (by rfl) (s_ld HS.out 2 (by rfl) (by rfl) (by rfl) (by kernel_rfl) (by exact pt_32 _ _ HX.out) ?_))
    | (refine atd 81 (by rfl) ?_; refine wl (by rfl) (s_ld HS.out 1 (by rfl) (by rfl) (by rfl) (by kernel_rfl) (by exact pt_32 _ _ HY.out) ?_))
    | (go_at_call 44; refine (cmp44 ys xs nys nxs (-1) _ HY.out HX.out H4.out).mono ?_; rintro e Wn ⟨rfl, hb⟩; have hS := HS.out.call hb; clear hb; clear HS; have HS := Lib.hid hS; clear hS))
  go_ret
  exact ⟨rfl, HS.out.below⟩
set_option maxHeartbeats 1000000 in
set_option maxRecDepth 100000 in
theorem sorted8_pmps (xs ys zs : List UInt8) (nxs nys nzs : Int) (w : World) (hx : xs.length = 32) (hy : ys.length = 32) (hz : zs.length = 32) (h1 : O (xs, nxs) (ys, nys) = 1) (h2 : O (ys, nys) (zs, nzs) = -1) (h3 : O (xs, nxs) (zs, nzs) = 1) (hxy : xs = ys) (hn : nys < nxs) :
    Calls Try.prog 8 #[.agg (bs xs ++ [Value.int .u32 nxs]).toArray, .agg (bs ys ++ [Value.int .u32 nys]).toArray, .agg (bs zs ++ [Value.int .u32 nzs]).toArray] w fun e w' => e = .returned (.bool true) ∧ Below w.heap.size w w' := by
  have HS := Lib.hid (St.start w)
  have HX := Lib.hid hx; have HY := Lib.hid hy; have HZ := Lib.hid hz
  have H1 := Lib.hid h1; have H2 := Lib.hid h2; have H3 := Lib.hid h3
  have H4 := Lib.hid (show O (ys, nys) (xs, nxs) = -1 by have h := O_neg (xs, nxs) (ys, nys); omega)
  have hq : ∀ W, (Op.equalIn 10000 23 (.agg (bs xs).toArray) (.agg (bs ys).toArray)).run Try.prog W = .ok true W := fun W => by
    have := eqH 9998 xs ys hx hy W
    rwa [decide_eq_true hxy] at this
  have hq0 : ∀ W, (Op.equalIn 9999 23 (.agg (List.take 32 (bs xs ++ [Value.int .u32 nxs])).toArray) (.agg (List.take 32 (bs ys ++ [Value.int .u32 nys])).toArray)).run Try.prog W = .ok true W := fun W => by
    rw [take_pt _ _ hx, take_pt _ _ hy]
    have := eqH 9997 xs ys hx hy W
    rwa [decide_eq_true hxy] at this
  have p1 := pt_32 xs nxs hx
  have p2 := pt_32 ys nys hy
  have k1 : decide (nxs < nys) = false := decide_eq_false (by omega)
  have k2 : (nxs == nys) = false := by rw [beq_eq_false_iff_ne]; omega
  clear hx hy hz h1 h2 h3 hxy hn
  go_enter Try.func8, Try.ntmps8
  go_wp2_with (first
    | (refine atd 3 (by rfl) ?_; refine wl (by rfl) (s_bx (l := bs xs ++ [Value.int .u32 nxs]) HS.out (by rfl) (by rfl) ?_); intro b3 Wn hS; clear HS; have HS := Lib.hid hS; clear hS)
    | (refine atd 4 (by rfl) ?_; refine wl (by rfl) (s_bx (l := bs ys ++ [Value.int .u32 nys]) HS.out (by rfl) (by rfl) ?_); intro b4 Wn hS; clear HS; have HS := Lib.hid hS; clear hS)
    | (refine atd 5 (by rfl) ?_; refine wl (by rfl) (s_bx (l := bs zs ++ [Value.int .u32 nzs]) HS.out (by rfl) (by rfl) ?_); intro b5 Wn hS; clear HS; have HS := Lib.hid hS; clear hS)
    | (go_at_call 33; refine (alive33 _).mono ?_; rintro e Wn ⟨rfl, hb⟩; have hS := HS.out.call hb; clear hb; clear HS; have HS := Lib.hid hS; clear hS))
  refine wp_region_pi [(0, true), (1, true), (3, true), (4, true), (6, true), (7, true), (2, false), (5, false), (8, false), (9, true), (10, true), (11, true)] (by kernel_rfl) (by kernel_rfl) rfl (by kernel_rfl) (fun _ _ _ _ _ h => h) (fun w' => St w w' [Blk b5 (bs zs ++ [Value.int .u32 nzs]) 44, Blk b4 (bs ys ++ [Value.int .u32 nys]) 44, Blk b3 (bs xs ++ [Value.int .u32 nxs]) 44] []) HS.out.drew ?_
  intro OPS hops
  have hS := HS.out.drew
  clear HS; have HS := Lib.hid hS; clear hS
  iterate 6
    first | (refine wpPi_yield _ (by rw [hops.out]; simp only [List.getElem?_toArray, List.getElem?_cons_succ, List.getElem?_cons_zero]; rfl) (by first | rfl | (rw [hops.out]; rfl)) (fun w' hS => by first | exact run_lda (n := 33) (cs := bs xs ++ [Value.int .u32 nxs]) ag44 (by rfl) (by rfl) (hS.range (i := 2) rfl (by rw [pt_len _ _ HX.out]; exact pt_all _ _ HX.out)) (pt_len _ _ HX.out) | exact run_lda (n := 33) (cs := bs ys ++ [Value.int .u32 nys]) ag44 (by rfl) (by rfl) (hS.range (i := 1) rfl (by rw [pt_len _ _ HY.out]; exact pt_all _ _ HY.out)) (pt_len _ _ HY.out) | exact run_lda (n := 33) (cs := bs zs ++ [Value.int .u32 nzs]) ag44 (by rfl) (by rfl) (hS.range (i := 0) rfl (by rw [pt_len _ _ HZ.out]; exact pt_all _ _ HZ.out)) (pt_len _ _ HZ.out) | (go_simp; rfl)) ?_; simp only [Act.put, List.setIfInBounds_toArray, List.set_cons_succ, List.set_cons_zero]) | (refine wpPi_skip (by rw [hops.out]; simp only [List.getElem?_toArray, List.getElem?_cons_succ, List.getElem?_cons_zero]; rfl) (by first | rfl | (rw [hops.out]; rfl)) ?_; simp only [Act.put, List.setIfInBounds_toArray, List.set_cons_succ, List.set_cons_zero])
  refine wpPi_act (by rw [hops.out]; simp only [List.getElem?_toArray, List.getElem?_cons_succ, List.getElem?_cons_zero]; rfl) (by first | rfl | (rw [hops.out]; rfl)) ?_
  go_simp
  refine (cmp44 xs ys nxs nys (1) _ HX.out HY.out H1.out).mono ?_
  rintro e Wn ⟨rfl, hb⟩
  have hS := HS.out.call hb
  clear HS; have HS := Lib.hid hS; clear hS
  clear hb
  refine ⟨HS.out, ?_⟩
  try simp only [Act.put, List.setIfInBounds_toArray, List.set_cons_succ, List.set_cons_zero]
  refine wpPi_act (by rw [hops.out]; simp only [List.getElem?_toArray, List.getElem?_cons_succ, List.getElem?_cons_zero]; rfl) (by first | rfl | (rw [hops.out]; rfl)) ?_
  go_simp
  refine (cmp44 ys zs nys nzs (-1) _ HY.out HZ.out H2.out).mono ?_
  rintro e Wn ⟨rfl, hb⟩
  have hS := HS.out.call hb
  clear HS; have HS := Lib.hid hS; clear hS
  clear hb
  refine ⟨HS.out, ?_⟩
  try simp only [Act.put, List.setIfInBounds_toArray, List.set_cons_succ, List.set_cons_zero]
  refine wpPi_act (by rw [hops.out]; simp only [List.getElem?_toArray, List.getElem?_cons_succ, List.getElem?_cons_zero]; rfl) (by first | rfl | (rw [hops.out]; rfl)) ?_
  go_simp
  refine (cmp44 xs zs nxs nzs (1) _ HX.out HZ.out H3.out).mono ?_
  rintro e Wn ⟨rfl, hb⟩
  have hS := HS.out.call hb
  clear HS; have HS := Lib.hid hS; clear hS
  clear hb
  refine ⟨HS.out, ?_⟩
  try simp only [Act.put, List.setIfInBounds_toArray, List.set_cons_succ, List.set_cons_zero]
  iterate 3
    first | (refine wpPi_yield _ (by rw [hops.out]; simp only [List.getElem?_toArray, List.getElem?_cons_succ, List.getElem?_cons_zero]; rfl) (by first | rfl | (rw [hops.out]; rfl)) (fun w' hS => by first | exact run_lda (n := 33) (cs := bs xs ++ [Value.int .u32 nxs]) ag44 (by rfl) (by rfl) (hS.range (i := 2) rfl (by rw [pt_len _ _ HX.out]; exact pt_all _ _ HX.out)) (pt_len _ _ HX.out) | exact run_lda (n := 33) (cs := bs ys ++ [Value.int .u32 nys]) ag44 (by rfl) (by rfl) (hS.range (i := 1) rfl (by rw [pt_len _ _ HY.out]; exact pt_all _ _ HY.out)) (pt_len _ _ HY.out) | exact run_lda (n := 33) (cs := bs zs ++ [Value.int .u32 nzs]) ag44 (by rfl) (by rfl) (hS.range (i := 0) rfl (by rw [pt_len _ _ HZ.out]; exact pt_all _ _ HZ.out)) (pt_len _ _ HZ.out) | (go_simp; rfl)) ?_; simp only [Act.put, List.setIfInBounds_toArray, List.set_cons_succ, List.set_cons_zero]) | (refine wpPi_skip (by rw [hops.out]; simp only [List.getElem?_toArray, List.getElem?_cons_succ, List.getElem?_cons_zero]; rfl) (by first | rfl | (rw [hops.out]; rfl)) ?_; simp only [Act.put, List.setIfInBounds_toArray, List.set_cons_succ, List.set_cons_zero])
  simp only [wpPi]
  clear OPS hops
  go_wp2_with (first
    | (refine atd 54 (by rfl) ?_; refine wl (by rfl) (s_lda (cs := bs ys ++ [Value.int .u32 nys]) HS.out 1 33 (by rfl) (by rfl) (by rfl) ag44 (by exact pt_all _ _ HY.out) (pt_len _ _ HY.out) ?_))
    | (refine atd 55 (by rfl) ?_; refine wl (by rfl) (s_lda (cs := bs xs ++ [Value.int .u32 nxs]) HS.out 2 33 (by rfl) (by rfl) (by rfl) ag44 (by exact pt_all _ _ HX.out) (pt_len _ _ HX.out) ?_))
    | (refine atd 64 (by rfl) ?_; refine wl (by rfl) (s_lda (cs := bs xs ++ [Value.int .u32 nxs]) HS.out 2 33 (by rfl) (by rfl) (by rfl) ag44 (by exact pt_all _ _ HX.out) (pt_len _ _ HX.out) ?_))
    | (refine atd 65 (by rfl) ?_; refine wl (by rfl) (s_lda (cs := bs ys ++ [Value.int .u32 nys]) HS.out 1 33 (by rfl) (by rfl) (by rfl) ag44 (by exact pt_all _ _ HY.out) (pt_len _ _ HY.out) ?_))
    | (refine atd 71 (by rfl) ?_; refine wl (by rfl) (s_lda (cs := bs xs) HS.out 2 32 (by rfl) (by rfl) (by rfl) ag23' (by exact pt_h _ _ HX.out) ((by rw [bs_length]; exact HX.out)) ?_))
    | (refine atd 73 (by rfl) ?_; refine wl (by rfl) (s_lda (cs := bs ys) HS.out 1 32 (by rfl) (by rfl) (by rfl) ag23' (by exact pt_h _ _ HY.out) ((by rw [bs_length]; exact HY.out)) ?_))
    | (refine atd 79 (by rfl) ?_; refine wl (by rfl) (s_ld HS.out 2 (by rfl) (by rfl) (by rfl) (by kernel_rfl) (by exact pt_32 _ _ HX.out) ?_))
    | (refine atd 81 (by rfl) ?_; refine wl (by rfl) (s_ld HS.out 1 (by rfl) (by rfl) (by rfl) (by kernel_rfl) (by exact pt_32 _ _ HY.out) ?_))
    | (go_at_call 44; refine (cmp44 ys xs nys nxs (-1) _ HY.out HX.out H4.out).mono ?_; rintro e Wn ⟨rfl, hb⟩; have hS := HS.out.call hb; clear hb; clear HS; have HS := Lib.hid hS; clear hS))
  go_ret
  exact ⟨rfl, HS.out.below⟩
set_option maxHeartbeats 1000000 in
set_option maxRecDepth 100000 in
theorem sorted8_pmpd (xs ys zs : List UInt8) (nxs nys nzs : Int) (w : World) (hx : xs.length = 32) (hy : ys.length = 32) (hz : zs.length = 32) (h1 : O (xs, nxs) (ys, nys) = 1) (h2 : O (ys, nys) (zs, nzs) = -1) (h3 : O (xs, nxs) (zs, nzs) = 1) (hxy : ¬ xs = ys) :
    Calls Try.prog 8 #[.agg (bs xs ++ [Value.int .u32 nxs]).toArray, .agg (bs ys ++ [Value.int .u32 nys]).toArray, .agg (bs zs ++ [Value.int .u32 nzs]).toArray] w fun e w' => e = .returned (.bool true) ∧ Below w.heap.size w w' := by
  have HS := Lib.hid (St.start w)
  have HX := Lib.hid hx; have HY := Lib.hid hy; have HZ := Lib.hid hz
  have H1 := Lib.hid h1; have H2 := Lib.hid h2; have H3 := Lib.hid h3
  have H4 := Lib.hid (show O (ys, nys) (xs, nxs) = -1 by have h := O_neg (xs, nxs) (ys, nys); omega)
  have hq : ∀ W, (Op.equalIn 10000 23 (.agg (bs xs).toArray) (.agg (bs ys).toArray)).run Try.prog W = .ok false W := fun W => by
    have := eqH 9998 xs ys hx hy W
    rwa [decide_eq_false hxy] at this
  have hq0 : ∀ W, (Op.equalIn 9999 23 (.agg (List.take 32 (bs xs ++ [Value.int .u32 nxs])).toArray) (.agg (List.take 32 (bs ys ++ [Value.int .u32 nys])).toArray)).run Try.prog W = .ok false W := fun W => by
    rw [take_pt _ _ hx, take_pt _ _ hy]
    have := eqH 9997 xs ys hx hy W
    rwa [decide_eq_false hxy] at this
  have p1 := pt_32 xs nxs hx
  have p2 := pt_32 ys nys hy
  clear hx hy hz h1 h2 h3 hxy 
  go_enter Try.func8, Try.ntmps8
  go_wp2_with (first
    | (refine atd 3 (by rfl) ?_; refine wl (by rfl) (s_bx (l := bs xs ++ [Value.int .u32 nxs]) HS.out (by rfl) (by rfl) ?_); intro b3 Wn hS; clear HS; have HS := Lib.hid hS; clear hS)
    | (refine atd 4 (by rfl) ?_; refine wl (by rfl) (s_bx (l := bs ys ++ [Value.int .u32 nys]) HS.out (by rfl) (by rfl) ?_); intro b4 Wn hS; clear HS; have HS := Lib.hid hS; clear hS)
    | (refine atd 5 (by rfl) ?_; refine wl (by rfl) (s_bx (l := bs zs ++ [Value.int .u32 nzs]) HS.out (by rfl) (by rfl) ?_); intro b5 Wn hS; clear HS; have HS := Lib.hid hS; clear hS)
    | (go_at_call 33; refine (alive33 _).mono ?_; rintro e Wn ⟨rfl, hb⟩; have hS := HS.out.call hb; clear hb; clear HS; have HS := Lib.hid hS; clear hS))
  refine wp_region_pi [(0, true), (1, true), (3, true), (4, true), (6, true), (7, true), (2, false), (5, false), (8, false), (9, true), (10, true), (11, true)] (by kernel_rfl) (by kernel_rfl) rfl (by kernel_rfl) (fun _ _ _ _ _ h => h) (fun w' => St w w' [Blk b5 (bs zs ++ [Value.int .u32 nzs]) 44, Blk b4 (bs ys ++ [Value.int .u32 nys]) 44, Blk b3 (bs xs ++ [Value.int .u32 nxs]) 44] []) HS.out.drew ?_
  intro OPS hops
  have hS := HS.out.drew
  clear HS; have HS := Lib.hid hS; clear hS
  iterate 6
    first | (refine wpPi_yield _ (by rw [hops.out]; simp only [List.getElem?_toArray, List.getElem?_cons_succ, List.getElem?_cons_zero]; rfl) (by first | rfl | (rw [hops.out]; rfl)) (fun w' hS => by first | exact run_lda (n := 33) (cs := bs xs ++ [Value.int .u32 nxs]) ag44 (by rfl) (by rfl) (hS.range (i := 2) rfl (by rw [pt_len _ _ HX.out]; exact pt_all _ _ HX.out)) (pt_len _ _ HX.out) | exact run_lda (n := 33) (cs := bs ys ++ [Value.int .u32 nys]) ag44 (by rfl) (by rfl) (hS.range (i := 1) rfl (by rw [pt_len _ _ HY.out]; exact pt_all _ _ HY.out)) (pt_len _ _ HY.out) | exact run_lda (n := 33) (cs := bs zs ++ [Value.int .u32 nzs]) ag44 (by rfl) (by rfl) (hS.range (i := 0) rfl (by rw [pt_len _ _ HZ.out]; exact pt_all _ _ HZ.out)) (pt_len _ _ HZ.out) | (go_simp; rfl)) ?_; simp only [Act.put, List.setIfInBounds_toArray, List.set_cons_succ, List.set_cons_zero]) | (refine wpPi_skip (by rw [hops.out]; simp only [List.getElem?_toArray, List.getElem?_cons_succ, List.getElem?_cons_zero]; rfl) (by first | rfl | (rw [hops.out]; rfl)) ?_; simp only [Act.put, List.setIfInBounds_toArray, List.set_cons_succ, List.set_cons_zero])
  refine wpPi_act (by rw [hops.out]; simp only [List.getElem?_toArray, List.getElem?_cons_succ, List.getElem?_cons_zero]; rfl) (by first | rfl | (rw [hops.out]; rfl)) ?_
  go_simp
  refine (cmp44 xs ys nxs nys (1) _ HX.out HY.out H1.out).mono ?_
  rintro e Wn ⟨rfl, hb⟩
  have hS := HS.out.call hb
  clear HS; have HS := Lib.hid hS; clear hS
  clear hb
  refine ⟨HS.out, ?_⟩
  try simp only [Act.put, List.setIfInBounds_toArray, List.set_cons_succ, List.set_cons_zero]
  refine wpPi_act (by rw [hops.out]; simp only [List.getElem?_toArray, List.getElem?_cons_succ, List.getElem?_cons_zero]; rfl) (by first | rfl | (rw [hops.out]; rfl)) ?_
  go_simp
  refine (cmp44 ys zs nys nzs (-1) _ HY.out HZ.out H2.out).mono ?_
  rintro e Wn ⟨rfl, hb⟩
  have hS := HS.out.call hb
  clear HS; have HS := Lib.hid hS; clear hS
  clear hb
  refine ⟨HS.out, ?_⟩
  try simp only [Act.put, List.setIfInBounds_toArray, List.set_cons_succ, List.set_cons_zero]
  refine wpPi_act (by rw [hops.out]; simp only [List.getElem?_toArray, List.getElem?_cons_succ, List.getElem?_cons_zero]; rfl) (by first | rfl | (rw [hops.out]; rfl)) ?_
  go_simp
  refine (cmp44 xs zs nxs nzs (1) _ HX.out HZ.out H3.out).mono ?_
  rintro e Wn ⟨rfl, hb⟩
  have hS := HS.out.call hb
  clear HS; have HS := Lib.hid hS; clear hS
  clear hb
  refine ⟨HS.out, ?_⟩
  try simp only [Act.put, List.setIfInBounds_toArray, List.set_cons_succ, List.set_cons_zero]
  iterate 3
    first | (refine wpPi_yield _ (by rw [hops.out]; simp only [List.getElem?_toArray, List.getElem?_cons_succ, List.getElem?_cons_zero]; rfl) (by first | rfl | (rw [hops.out]; rfl)) (fun w' hS => by first | exact run_lda (n := 33) (cs := bs xs ++ [Value.int .u32 nxs]) ag44 (by rfl) (by rfl) (hS.range (i := 2) rfl (by rw [pt_len _ _ HX.out]; exact pt_all _ _ HX.out)) (pt_len _ _ HX.out) | exact run_lda (n := 33) (cs := bs ys ++ [Value.int .u32 nys]) ag44 (by rfl) (by rfl) (hS.range (i := 1) rfl (by rw [pt_len _ _ HY.out]; exact pt_all _ _ HY.out)) (pt_len _ _ HY.out) | exact run_lda (n := 33) (cs := bs zs ++ [Value.int .u32 nzs]) ag44 (by rfl) (by rfl) (hS.range (i := 0) rfl (by rw [pt_len _ _ HZ.out]; exact pt_all _ _ HZ.out)) (pt_len _ _ HZ.out) | (go_simp; rfl)) ?_; simp only [Act.put, List.setIfInBounds_toArray, List.set_cons_succ, List.set_cons_zero]) | (refine wpPi_skip (by rw [hops.out]; simp only [List.getElem?_toArray, List.getElem?_cons_succ, List.getElem?_cons_zero]; rfl) (by first | rfl | (rw [hops.out]; rfl)) ?_; simp only [Act.put, List.setIfInBounds_toArray, List.set_cons_succ, List.set_cons_zero])
  simp only [wpPi]
  clear OPS hops
  go_wp2_with (first
    | (refine atd 54 (by rfl) ?_; refine wl (by rfl) (s_lda (cs := bs ys ++ [Value.int .u32 nys]) HS.out 1 33 (by rfl) (by rfl) (by rfl) ag44 (by exact pt_all _ _ HY.out) (pt_len _ _ HY.out) ?_))
    | (refine atd 55 (by rfl) ?_; refine wl (by rfl) (s_lda (cs := bs xs ++ [Value.int .u32 nxs]) HS.out 2 33 (by rfl) (by rfl) (by rfl) ag44 (by exact pt_all _ _ HX.out) (pt_len _ _ HX.out) ?_))
    | (refine atd 64 (by rfl) ?_; refine wl (by rfl) (s_lda (cs := bs xs ++ [Value.int .u32 nxs]) HS.out 2 33 (by rfl) (by rfl) (by rfl) ag44 (by exact pt_all _ _ HX.out) (pt_len _ _ HX.out) ?_))
    | (refine atd 65 (by rfl) ?_; refine wl (by rfl) (s_lda (cs := bs ys ++ [Value.int .u32 nys]) HS.out 1 33 (by rfl) (by rfl) (by rfl) ag44 (by exact pt_all _ _ HY.out) (pt_len _ _ HY.out) ?_))
    | (refine atd 71 (by rfl) ?_; refine wl (by rfl) (s_lda (cs := bs xs) HS.out 2 32 (by rfl) (by rfl) (by rfl) ag23' (by exact pt_h _ _ HX.out) ((by rw [bs_length]; exact HX.out)) ?_))
    | (refine atd 73 (by rfl) ?_; refine wl (by rfl) (s_lda (cs := bs ys) HS.out 1 32 (by rfl) (by rfl) (by rfl) ag23' (by exact pt_h _ _ HY.out) ((by rw [bs_length]; exact HY.out)) ?_))
    | (refine atd 79 (by rfl) ?_; refine wl (by rfl) (s_ld HS.out 2 (by rfl) (by rfl) (by rfl) (by kernel_rfl) (by exact pt_32 _ _ HX.out) ?_))
    | (refine atd 81 (by rfl) ?_; refine wl (by rfl) (s_ld HS.out 1 (by rfl) (by rfl) (by rfl) (by kernel_rfl) (by exact pt_32 _ _ HY.out) ?_))
    | (go_at_call 44; refine (cmp44 ys xs nys nxs (-1) _ HY.out HX.out H4.out).mono ?_; rintro e Wn ⟨rfl, hb⟩; have hS := HS.out.call hb; clear hb; clear HS; have HS := Lib.hid hS; clear hS))
  go_ret
  exact ⟨rfl, HS.out.below⟩
end
section
open Go Go.RowKit Go.Proofs
attribute [local go_sem] Oper.semAt_some
attribute [local irreducible] Calls

theorem sorted8 (xs ys zs : List UInt8) (nxs nys nzs : Int) (w : World) (hx : xs.length = 32) (hy : ys.length = 32) (hz : zs.length = 32) :
    Calls Try.prog 8 #[.agg (bs xs ++ [Value.int .u32 nxs]).toArray, .agg (bs ys ++ [Value.int .u32 nys]).toArray, .agg (bs zs ++ [Value.int .u32 nzs]).toArray] w fun e w' => e = .returned (.bool true) ∧ Below w.heap.size w w' := by
  obtain ⟨t1, t2, t3, t4⟩ := O_tri (xs, nxs) (ys, nys) (zs, nzs)
  rcases O_cases (xs, nxs) (ys, nys) with h1 | h1 | h1
  · rcases O_cases (ys, nys) (zs, nzs) with h2 | h2 | h2
    · have h3 : O (xs, nxs) (zs, nzs) = -1 := by first | exact t1 ⟨h1, h2⟩ | exact t2 ⟨h1, h2⟩ | (rw [t3 h1]; exact h2) | (rw [t4 h2]; exact h1)
      by_cases hxy : xs = ys
      · have hn : nxs < nys := by
          subst hxy
          rw [O_same] at h1
          rcases ordN_cases nxs nys with h | h | h <;> omega
        exact sorted8_mmms xs ys zs nxs nys nzs w hx hy hz h1 h2 h3 hxy hn
      · exact sorted8_mmmd xs ys zs nxs nys nzs w hx hy hz h1 h2 h3 hxy
    · have h3 : O (xs, nxs) (zs, nzs) = -1 := by first | exact t1 ⟨h1, h2⟩ | exact t2 ⟨h1, h2⟩ | (rw [t3 h1]; exact h2) | (rw [t4 h2]; exact h1)
      by_cases hxy : xs = ys
      · have hn : nxs < nys := by
          subst hxy
          rw [O_same] at h1
          rcases ordN_cases nxs nys with h | h | h <;> omega
        exact sorted8_mzms xs ys zs nxs nys nzs w hx hy hz h1 h2 h3 hxy hn
      · exact sorted8_mzmd xs ys zs nxs nys nzs w hx hy hz h1 h2 h3 hxy
    · rcases O_cases (xs, nxs) (zs, nzs) with h3 | h3 | h3
      · skip
        by_cases hxy : xs = ys
        · have hn : nxs < nys := by
            subst hxy
            rw [O_same] at h1
            rcases ordN_cases nxs nys with h | h | h <;> omega
          exact sorted8_mpms xs ys zs nxs nys nzs w hx hy hz h1 h2 h3 hxy hn
        · exact sorted8_mpmd xs ys zs nxs nys nzs w hx hy hz h1 h2 h3 hxy
      · skip
        by_cases hxy : xs = ys
        · have hn : nxs < nys := by
            subst hxy
            rw [O_same] at h1
            rcases ordN_cases nxs nys with h | h | h <;> omega
          exact sorted8_mpzs xs ys zs nxs nys nzs w hx hy hz h1 h2 h3 hxy hn
        · exact sorted8_mpzd xs ys zs nxs nys nzs w hx hy hz h1 h2 h3 hxy
      · skip
        by_cases hxy : xs = ys
        · have hn : nxs < nys := by
            subst hxy
            rw [O_same] at h1
            rcases ordN_cases nxs nys with h | h | h <;> omega
          exact sorted8_mpps xs ys zs nxs nys nzs w hx hy hz h1 h2 h3 hxy hn
        · exact sorted8_mppd xs ys zs nxs nys nzs w hx hy hz h1 h2 h3 hxy
  · rcases O_cases (ys, nys) (zs, nzs) with h2 | h2 | h2
    · have h3 : O (xs, nxs) (zs, nzs) = -1 := by first | exact t1 ⟨h1, h2⟩ | exact t2 ⟨h1, h2⟩ | (rw [t3 h1]; exact h2) | (rw [t4 h2]; exact h1)
      have e := O_zero h1
      injection e with e1 e2
      exact sorted8_zmme xs ys zs nxs nys nzs w hx hy hz h1 h2 h3 e1 e2
    · have h3 : O (xs, nxs) (zs, nzs) = 0 := by first | exact t1 ⟨h1, h2⟩ | exact t2 ⟨h1, h2⟩ | (rw [t3 h1]; exact h2) | (rw [t4 h2]; exact h1)
      have e := O_zero h1
      injection e with e1 e2
      exact sorted8_zzze xs ys zs nxs nys nzs w hx hy hz h1 h2 h3 e1 e2
    · have h3 : O (xs, nxs) (zs, nzs) = 1 := by first | exact t1 ⟨h1, h2⟩ | exact t2 ⟨h1, h2⟩ | (rw [t3 h1]; exact h2) | (rw [t4 h2]; exact h1)
      have e := O_zero h1
      injection e with e1 e2
      exact sorted8_zppe xs ys zs nxs nys nzs w hx hy hz h1 h2 h3 e1 e2
  · rcases O_cases (ys, nys) (zs, nzs) with h2 | h2 | h2
    · rcases O_cases (xs, nxs) (zs, nzs) with h3 | h3 | h3
      · skip
        by_cases hxy : xs = ys
        · have hn : nys < nxs := by
            subst hxy
            rw [O_same] at h1
            rcases ordN_cases nxs nys with h | h | h <;> omega
          exact sorted8_pmms xs ys zs nxs nys nzs w hx hy hz h1 h2 h3 hxy hn
        · exact sorted8_pmmd xs ys zs nxs nys nzs w hx hy hz h1 h2 h3 hxy
      · skip
        by_cases hxy : xs = ys
        · have hn : nys < nxs := by
            subst hxy
            rw [O_same] at h1
            rcases ordN_cases nxs nys with h | h | h <;> omega
          exact sorted8_pmzs xs ys zs nxs nys nzs w hx hy hz h1 h2 h3 hxy hn
        · exact sorted8_pmzd xs ys zs nxs nys nzs w hx hy hz h1 h2 h3 hxy
      · skip
        by_cases hxy : xs = ys
        · have hn : nys < nxs := by
            subst hxy
            rw [O_same] at h1
            rcases ordN_cases nxs nys with h | h | h <;> omega
          exact sorted8_pmps xs ys zs nxs nys nzs w hx hy hz h1 h2 h3 hxy hn
        · exact sorted8_pmpd xs ys zs nxs nys nzs w hx hy hz h1 h2 h3 hxy
    · have h3 : O (xs, nxs) (zs, nzs) = 1 := by first | exact t1 ⟨h1, h2⟩ | exact t2 ⟨h1, h2⟩ | (rw [t3 h1]; exact h2) | (rw [t4 h2]; exact h1)
      by_cases hxy : xs = ys
      · have hn : nys < nxs := by
          subst hxy
          rw [O_same] at h1
          rcases ordN_cases nxs nys with h | h | h <;> omega
        exact sorted8_pzps xs ys zs nxs nys nzs w hx hy hz h1 h2 h3 hxy hn
      · exact sorted8_pzpd xs ys zs nxs nys nzs w hx hy hz h1 h2 h3 hxy
    · have h3 : O (xs, nxs) (zs, nzs) = 1 := by first | exact t1 ⟨h1, h2⟩ | exact t2 ⟨h1, h2⟩ | (rw [t3 h1]; exact h2) | (rw [t4 h2]; exact h1)
      by_cases hxy : xs = ys
      · have hn : nys < nxs := by
          subst hxy
          rw [O_same] at h1
          rcases ordN_cases nxs nys with h | h | h <;> omega
        exact sorted8_ppps xs ys zs nxs nys nzs w hx hy hz h1 h2 h3 hxy hn
      · exact sorted8_pppd xs ys zs nxs nys nzs w hx hy hz h1 h2 h3 hxy
end
section
open Go Go.RowKit Go.Proofs
attribute [local irreducible] Calls
theorem pt_of {w : World} {cs : List Value} (g : Rd Try.prog w 44 cs) : ∃ (xs : List UInt8) (n : Int), xs.length = 32 ∧ cs = bs xs ++ [.int .u32 n] := by
  obtain ⟨hl, hp⟩ := g.struct Try.underlying44
  rw [oc44] at hl
  have p0 := hp _ (List.mem_cons_self ..)
  have p1 := hp _ (List.mem_cons_of_mem _ (List.mem_cons_self ..))
  clear hp
  simp only [oc23, oc42] at p0 p1
  obtain ⟨tx, htl, htx⟩ := hash_of p0
  obtain ⟨n, hn, hn2⟩ := u32_of p1
  refine ⟨tx, n, htl, ?_⟩
  rw [← htx, ← hn]
  have e : cs.drop 32 = (cs.drop 32).take 1 := (List.take_of_length_le (by rw [List.length_drop, hl]; decide)).symm
  show _ = List.take 32 (cs.drop 0) ++ List.take 1 (cs.drop 32)
  rw [← e, List.drop_zero, List.take_append_drop]
theorem txSorted_walk (c0 c1 c2 : List Value) (w : World) (g0 : Rd Try.prog w 44 c0) (g1 : Rd Try.prog w 44 c1) (g2 : Rd Try.prog w 44 c2) : Calls Try.prog 8 #[.agg c0.toArray, .agg c1.toArray, .agg c2.toArray] w fun e w' => e = .returned (.bool true) ∧ Below w.heap.size w w' := by
  obtain ⟨xs, n, hx, rfl⟩ := pt_of g0
  obtain ⟨ys, m, hy, rfl⟩ := pt_of g1
  obtain ⟨zs, k, hz, rfl⟩ := pt_of g2
  exact sorted8 xs ys zs n m k w hx hy hz
end
end Go.Proofs.Yteljmpoaggfliaa
