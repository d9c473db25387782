/- Contracts and words that the laws stand on (CoinSortedWalk). -/
import Derived.Test.YteljmpoaggfliaaCoinA
set_option linter.unusedVariables false
set_option linter.unusedSimpArgs false
namespace Go.Proofs.Yteljmpoaggfliaa
section
open Go Go.RowKit Go.Proofs
attribute [local go_sem] Oper.semAt_some
attribute [local irreducible] Calls
attribute [local irreducible] verC O2 vP
set_option maxHeartbeats 1000000 in
set_option maxRecDepth 100000 in
theorem csorted_mmms (x y z : Value × TVer) (mx my : Int) (w : World) (hx : x.2.ok) (hy : y.2.ok) (hz : z.2.ok) (h1 : O2 (vP x.2) (vP y.2) = -1) (h2 : O2 (vP y.2) (vP z.2) = -1) (h3 : O2 (vP x.2) (vP z.2) = -1) (cx : (verC x)[33]? = some (.int .i64 mx)) (cy : (verC y)[33]? = some (.int .i64 my)) (hxy : x.2.h = y.2.h ∧ (x.2.n : Int) = (y.2.n : Int)) (hn : ¬ mx = my) :
    Calls Try.prog 9 #[.agg (verC x).toArray, .agg (verC y).toArray, .agg (verC z).toArray] w fun e w' => e = .returned (.bool true) ∧ Below w.heap.size w w' := by
  have HS := Lib.hid (St.start w)
  have Hx := Lib.hid hx; have Hy := Lib.hid hy; have Hz := Lib.hid hz
  have H1 := Lib.hid h1; have H2 := Lib.hid h2; have H3 := Lib.hid h3
  have H4 := Lib.hid (show O2 (vP y.2) (vP x.2) = 1 by have h := O2_neg (vP x.2) (vP y.2); omega)
  have hq : ∀ W, (Op.equalIn 10000 44 (.agg (bs x.2.h ++ [Value.int .u32 (x.2.n : Int)]).toArray) (.agg (bs y.2.h ++ [Value.int .u32 (y.2.n : Int)]).toArray)).run Try.prog W = .ok true W := fun W => by
    have := eqPt 9997 x.2.h y.2.h (x.2.n : Int) (y.2.n : Int) hx.h hy.h W
    rwa [decide_eq_true hxy] at this
  have k2 : (mx == my) = false := by rw [beq_eq_false_iff_ne]; exact hn
  clear hx hy hz h1 h2 h3 hxy hn
  go_enter Try.func9, Try.ntmps9
  go_wp2_with (first
    | go_skip
    | (refine atd 3 (by rfl) ?_; refine wl (by rfl) (s_bx (l := verC x) HS.out (by rfl) (by rfl) ?_); intro b3 Wn hS; clear HS; have HS := Lib.hid hS; clear hS)
    | (refine atd 4 (by rfl) ?_; refine wl (by rfl) (s_bx (l := verC y) HS.out (by rfl) (by rfl) ?_); intro b4 Wn hS; clear HS; have HS := Lib.hid hS; clear hS)
    | (refine atd 5 (by rfl) ?_; refine wl (by rfl) (s_bx (l := verC z) HS.out (by rfl) (by rfl) ?_); intro b5 Wn hS; clear HS; have HS := Lib.hid hS; clear hS)
    | (go_at_call 37; refine (alive37 _).mono ?_; rintro e Wn ⟨rfl, hb⟩; have hS := HS.out.call hb; clear hb; clear HS; have HS := Lib.hid hS; clear hS))
  refine wp_region_pi [(0, true), (1, true), (3, true), (4, true), (6, true), (7, true), (2, false), (5, false), (8, false), (9, true), (10, true), (11, true)] (by kernel_rfl) (by kernel_rfl) rfl (by kernel_rfl) (fun _ _ _ _ _ h => h) (fun w' => St w w' [Blk b5 (verC z) 46, Blk b4 (verC y) 46, Blk b3 (verC x) 46] []) HS.out.drew ?_
  intro OPS hops
  have hS := HS.out.drew
  clear HS; have HS := Lib.hid hS; clear hS
  iterate 6
    first | (refine wpPi_yield _ (by rw [hops.out]; simp only [List.getElem?_toArray, List.getElem?_cons_succ, List.getElem?_cons_zero]; rfl) (by first | rfl | (rw [hops.out]; rfl)) (fun w' hS => by first | exact run_lda (n := 70) (cs := verC x) ag46 (by rfl) (by rfl) (hS.range (i := 2) rfl (by rw [verC_length Hx.out]; exact verC_all Hx.out)) (verC_length Hx.out) | exact run_lda (n := 70) (cs := verC y) ag46 (by rfl) (by rfl) (hS.range (i := 1) rfl (by rw [verC_length Hy.out]; exact verC_all Hy.out)) (verC_length Hy.out) | exact run_lda (n := 70) (cs := verC z) ag46 (by rfl) (by rfl) (hS.range (i := 0) rfl (by rw [verC_length Hz.out]; exact verC_all Hz.out)) (verC_length Hz.out) | (go_simp; rfl)) ?_; simp only [Act.put, List.setIfInBounds_toArray, List.set_cons_succ, List.set_cons_zero]) | (refine wpPi_skip (by rw [hops.out]; simp only [List.getElem?_toArray, List.getElem?_cons_succ, List.getElem?_cons_zero]; rfl) (by first | rfl | (rw [hops.out]; rfl)) ?_; simp only [Act.put, List.setIfInBounds_toArray, List.set_cons_succ, List.set_cons_zero])
  refine wpPi_act (by rw [hops.out]; simp only [List.getElem?_toArray, List.getElem?_cons_succ, List.getElem?_cons_zero]; rfl) (by first | rfl | (rw [hops.out]; rfl)) ?_
  go_simp
  refine (cmp24 x y _ Hx.out Hy.out (R := -1) H1.out).mono ?_
  rintro e Wn ⟨rfl, hb⟩
  have hS := HS.out.call hb
  clear HS; have HS := Lib.hid hS; clear hS
  clear hb
  refine ⟨HS.out, ?_⟩
  try simp only [Act.put, List.setIfInBounds_toArray, List.set_cons_succ, List.set_cons_zero]
  refine wpPi_act (by rw [hops.out]; simp only [List.getElem?_toArray, List.getElem?_cons_succ, List.getElem?_cons_zero]; rfl) (by first | rfl | (rw [hops.out]; rfl)) ?_
  go_simp
  refine (cmp24 y z _ Hy.out Hz.out (R := -1) H2.out).mono ?_
  rintro e Wn ⟨rfl, hb⟩
  have hS := HS.out.call hb
  clear HS; have HS := Lib.hid hS; clear hS
  clear hb
  refine ⟨HS.out, ?_⟩
  try simp only [Act.put, List.setIfInBounds_toArray, List.set_cons_succ, List.set_cons_zero]
  refine wpPi_act (by rw [hops.out]; simp only [List.getElem?_toArray, List.getElem?_cons_succ, List.getElem?_cons_zero]; rfl) (by first | rfl | (rw [hops.out]; rfl)) ?_
  go_simp
  refine (cmp24 x z _ Hx.out Hz.out (R := -1) H3.out).mono ?_
  rintro e Wn ⟨rfl, hb⟩
  have hS := HS.out.call hb
  clear HS; have HS := Lib.hid hS; clear hS
  clear hb
  refine ⟨HS.out, ?_⟩
  try simp only [Act.put, List.setIfInBounds_toArray, List.set_cons_succ, List.set_cons_zero]
  iterate 3
    first | (refine wpPi_yield _ (by rw [hops.out]; simp only [List.getElem?_toArray, List.getElem?_cons_succ, List.getElem?_cons_zero]; rfl) (by first | rfl | (rw [hops.out]; rfl)) (fun w' hS => by first | exact run_lda (n := 70) (cs := verC x) ag46 (by rfl) (by rfl) (hS.range (i := 2) rfl (by rw [verC_length Hx.out]; exact verC_all Hx.out)) (verC_length Hx.out) | exact run_lda (n := 70) (cs := verC y) ag46 (by rfl) (by rfl) (hS.range (i := 1) rfl (by rw [verC_length Hy.out]; exact verC_all Hy.out)) (verC_length Hy.out) | exact run_lda (n := 70) (cs := verC z) ag46 (by rfl) (by rfl) (hS.range (i := 0) rfl (by rw [verC_length Hz.out]; exact verC_all Hz.out)) (verC_length Hz.out) | (go_simp; rfl)) ?_; simp only [Act.put, List.setIfInBounds_toArray, List.set_cons_succ, List.set_cons_zero]) | (refine wpPi_skip (by rw [hops.out]; simp only [List.getElem?_toArray, List.getElem?_cons_succ, List.getElem?_cons_zero]; rfl) (by first | rfl | (rw [hops.out]; rfl)) ?_; simp only [Act.put, List.setIfInBounds_toArray, List.set_cons_succ, List.set_cons_zero])
  simp only [wpPi]
  clear OPS hops
  go_wp2_with (first
    | go_skip
    | (refine atd 54 (by rfl) ?_; refine wl (by rfl) (s_lda (cs := verC y) HS.out 1 70 (by rfl) (by rfl) (by rfl) ag46 (by exact verC_all Hy.out) (verC_length Hy.out) ?_))
    | (refine atd 55 (by rfl) ?_; refine wl (by rfl) (s_lda (cs := verC x) HS.out 2 70 (by rfl) (by rfl) (by rfl) ag46 (by exact verC_all Hx.out) (verC_length Hx.out) ?_))
    | (refine atd 65 (by rfl) ?_; refine wl (by rfl) (s_lda (cs := bs x.2.h ++ [Value.int .u32 (x.2.n : Int)]) HS.out 2 33 (by rfl) (by rfl) (by rfl) ag44 (by exact verC_pt Hx.out) (verC_pt33 Hx.out) ?_))
    | (refine atd 67 (by rfl) ?_; refine wl (by rfl) (s_lda (cs := bs y.2.h ++ [Value.int .u32 (y.2.n : Int)]) HS.out 1 33 (by rfl) (by rfl) (by rfl) ag44 (by exact verC_pt Hy.out) (verC_pt33 Hy.out) ?_))
    | (refine atd 71 (by rfl) ?_; refine wl (by rfl) (s_ld HS.out 2 (by rfl) (by rfl) (by rfl) (by kernel_rfl) (by exact cx) ?_))
    | (refine atd 73 (by rfl) ?_; refine wl (by rfl) (s_ld HS.out 1 (by rfl) (by rfl) (by rfl) (by kernel_rfl) (by exact cy) ?_))
    | (go_at_call 24; refine (cmp24 y x _ Hy.out Hx.out (R := 1) H4.out).mono ?_; rintro e Wn ⟨rfl, hb⟩; have hS := HS.out.call hb; clear hb; clear HS; have HS := Lib.hid hS; clear hS))
  go_ret
  exact ⟨rfl, HS.out.below⟩
set_option maxHeartbeats 1000000 in
set_option maxRecDepth 100000 in
theorem csorted_mmmd (x y z : Value × TVer) (mx my : Int) (w : World) (hx : x.2.ok) (hy : y.2.ok) (hz : z.2.ok) (h1 : O2 (vP x.2) (vP y.2) = -1) (h2 : O2 (vP y.2) (vP z.2) = -1) (h3 : O2 (vP x.2) (vP z.2) = -1) (cx : (verC x)[33]? = some (.int .i64 mx)) (cy : (verC y)[33]? = some (.int .i64 my)) (hxy : ¬ (x.2.h = y.2.h ∧ (x.2.n : Int) = (y.2.n : Int))) :
    Calls Try.prog 9 #[.agg (verC x).toArray, .agg (verC y).toArray, .agg (verC z).toArray] w fun e w' => e = .returned (.bool true) ∧ Below w.heap.size w w' := by
  have HS := Lib.hid (St.start w)
  have Hx := Lib.hid hx; have Hy := Lib.hid hy; have Hz := Lib.hid hz
  have H1 := Lib.hid h1; have H2 := Lib.hid h2; have H3 := Lib.hid h3
  have H4 := Lib.hid (show O2 (vP y.2) (vP x.2) = 1 by have h := O2_neg (vP x.2) (vP y.2); omega)
  have hq : ∀ W, (Op.equalIn 10000 44 (.agg (bs x.2.h ++ [Value.int .u32 (x.2.n : Int)]).toArray) (.agg (bs y.2.h ++ [Value.int .u32 (y.2.n : Int)]).toArray)).run Try.prog W = .ok false W := fun W => by
    have := eqPt 9997 x.2.h y.2.h (x.2.n : Int) (y.2.n : Int) hx.h hy.h W
    rwa [decide_eq_false hxy] at this
  clear hx hy hz h1 h2 h3 hxy 
  go_enter Try.func9, Try.ntmps9
  go_wp2_with (first
    | go_skip
    | (refine atd 3 (by rfl) ?_; refine wl (by rfl) (s_bx (l := verC x) HS.out (by rfl) (by rfl) ?_); intro b3 Wn hS; clear HS; have HS := Lib.hid hS; clear hS)
    | (refine atd 4 (by rfl) ?_; refine wl (by rfl) (s_bx (l := verC y) HS.out (by rfl) (by rfl) ?_); intro b4 Wn hS; clear HS; have HS := Lib.hid hS; clear hS)
    | (refine atd 5 (by rfl) ?_; refine wl (by rfl) (s_bx (l := verC z) HS.out (by rfl) (by rfl) ?_); intro b5 Wn hS; clear HS; have HS := Lib.hid hS; clear hS)
    | (go_at_call 37; refine (alive37 _).mono ?_; rintro e Wn ⟨rfl, hb⟩; have hS := HS.out.call hb; clear hb; clear HS; have HS := Lib.hid hS; clear hS))
  refine wp_region_pi [(0, true), (1, true), (3, true), (4, true), (6, true), (7, true), (2, false), (5, false), (8, false), (9, true), (10, true), (11, true)] (by kernel_rfl) (by kernel_rfl) rfl (by kernel_rfl) (fun _ _ _ _ _ h => h) (fun w' => St w w' [Blk b5 (verC z) 46, Blk b4 (verC y) 46, Blk b3 (verC x) 46] []) HS.out.drew ?_
  intro OPS hops
  have hS := HS.out.drew
  clear HS; have HS := Lib.hid hS; clear hS
  iterate 6
    first | (refine wpPi_yield _ (by rw [hops.out]; simp only [List.getElem?_toArray, List.getElem?_cons_succ, List.getElem?_cons_zero]; rfl) (by first | rfl | (rw [hops.out]; rfl)) (fun w' hS => by first | exact run_lda (n := 70) (cs := verC x) ag46 (by rfl) (by rfl) (hS.range (i := 2) rfl (by rw [verC_length Hx.out]; exact verC_all Hx.out)) (verC_length Hx.out) | exact run_lda (n := 70) (cs := verC y) ag46 (by rfl) (by rfl) (hS.range (i := 1) rfl (by rw [verC_length Hy.out]; exact verC_all Hy.out)) (verC_length Hy.out) | exact run_lda (n := 70) (cs := verC z) ag46 (by rfl) (by rfl) (hS.range (i := 0) rfl (by rw [verC_length Hz.out]; exact verC_all Hz.out)) (verC_length Hz.out) | (go_simp; rfl)) ?_; simp only [Act.put, List.setIfInBounds_toArray, List.set_cons_succ, List.set_cons_zero]) | (refine wpPi_skip (by rw [hops.out]; simp only [List.getElem?_toArray, List.getElem?_cons_succ, List.getElem?_cons_zero]; rfl) (by first | rfl | (rw [hops.out]; rfl)) ?_; simp only [Act.put, List.setIfInBounds_toArray, List.set_cons_succ, List.set_cons_zero])
  refine wpPi_act (by rw [hops.out]; simp only [List.getElem?_toArray, List.getElem?_cons_succ, List.getElem?_cons_zero]; rfl) (by first | rfl | (rw [hops.out]; rfl)) ?_
  go_simp
  refine (cmp24 x y _ Hx.out Hy.out (R := -1) H1.out).mono ?_
  rintro e Wn ⟨rfl, hb⟩
  have hS := HS.out.call hb
  clear HS; have HS := Lib.hid hS; clear hS
  clear hb
  refine ⟨HS.out, ?_⟩
  try simp only [Act.put, List.setIfInBounds_toArray, List.set_cons_succ, List.set_cons_zero]
  refine wpPi_act (by rw [hops.out]; simp only [List.getElem?_toArray, List.getElem?_cons_succ, List.getElem?_cons_zero]; rfl) (by first | rfl | (rw [hops.out]; rfl)) ?_
  go_simp
  refine (cmp24 y z _ Hy.out Hz.out (R := -1) H2.out).mono ?_
  rintro e Wn ⟨rfl, hb⟩
  have hS := HS.out.call hb
  clear HS; have HS := Lib.hid hS; clear hS
  clear hb
  refine ⟨HS.out, ?_⟩
  try simp only [Act.put, List.setIfInBounds_toArray, List.set_cons_succ, List.set_cons_zero]
  refine wpPi_act (by rw [hops.out]; simp only [List.getElem?_toArray, List.getElem?_cons_succ, List.getElem?_cons_zero]; rfl) (by first | rfl | (rw [hops.out]; rfl)) ?_
  go_simp
  refine (cmp24 x z _ Hx.out Hz.out (R := -1) H3.out).mono ?_
  rintro e Wn ⟨rfl, hb⟩
  have hS := HS.out.call hb
  clear HS; have HS := Lib.hid hS; clear hS
  clear hb
  refine ⟨HS.out, ?_⟩
  try simp only [Act.put, List.setIfInBounds_toArray, List.set_cons_succ, List.set_cons_zero]
  iterate 3
    first | (refine wpPi_yield _ (by rw [hops.out]; simp only [List.getElem?_toArray, List.getElem?_cons_succ, List.getElem?_cons_zero]; rfl) (by first | rfl | (rw [hops.out]; rfl)) (fun w' hS => by first | exact run_lda (n := 70) (cs := verC x) ag46 (by rfl) (by rfl) (hS.range (i := 2) rfl (by rw [verC_length Hx.out]; exact verC_all Hx.out)) (verC_length Hx.out) | exact run_lda (n := 70) (cs := verC y) ag46 (by rfl) (by rfl) (hS.range (i := 1) rfl (by rw [verC_length Hy.out]; exact verC_all Hy.out)) (verC_length Hy.out) | exact run_lda (n := 70) (cs := verC z) ag46 (by rfl) (by rfl) (hS.range (i := 0) rfl (by rw [verC_length Hz.out]; exact verC_all Hz.out)) (verC_length Hz.out) | (go_simp; rfl)) ?_; simp only [Act.put, List.setIfInBounds_toArray, List.set_cons_succ, List.set_cons_zero]) | (refine wpPi_skip (by rw [hops.out]; simp only [List.getElem?_toArray, List.getElem?_cons_succ, List.getElem?_cons_zero]; rfl) (by first | rfl | (rw [hops.out]; rfl)) ?_; simp only [Act.put, List.setIfInBounds_toArray, List.set_cons_succ, List.set_cons_zero])
  simp only [wpPi]
  clear OPS hops
  go_wp2_with (first
    | go_skip
    | (refine atd 54 (by rfl) ?_; refine wl (by rfl) (s_lda (cs := verC y) HS.out 1 70 (by rfl) (by rfl) (by rfl) ag46 (by exact verC_all Hy.out) (verC_length Hy.out) ?_))
    | (refine atd 55 (by rfl) ?_; refine wl (by rfl) (s_lda (cs := verC x) HS.out 2 70 (by rfl) (by rfl) (by rfl) ag46 (by exact verC_all Hx.out) (verC_length Hx.out) ?_))
    | (refine atd 65 (by rfl) ?_; refine wl (by rfl) (s_lda (cs := bs x.2.h ++ [Value.int .u32 (x.2.n : Int)]) HS.out 2 33 (by rfl) (by rfl) (by rfl) ag44 (by exact verC_pt Hx.out) (verC_pt33 Hx.out) ?_))
    | (refine atd 67 (by rfl) ?_; refine wl (by rfl) (s_lda (cs := bs y.2.h ++ [Value.int .u32 (y.2.n : Int)]) HS.out 1 33 (by rfl) (by rfl) (by rfl) ag44 (by exact verC_pt Hy.out) (verC_pt33 Hy.out) ?_))
    | (refine atd 71 (by rfl) ?_; refine wl (by rfl) (s_ld HS.out 2 (by rfl) (by rfl) (by rfl) (by kernel_rfl) (by exact cx) ?_))
    | (refine atd 73 (by rfl) ?_; refine wl (by rfl) (s_ld HS.out 1 (by rfl) (by rfl) (by rfl) (by kernel_rfl) (by exact cy) ?_))
    | (go_at_call 24; refine (cmp24 y x _ Hy.out Hx.out (R := 1) H4.out).mono ?_; rintro e Wn ⟨rfl, hb⟩; have hS := HS.out.call hb; clear hb; clear HS; have HS := Lib.hid hS; clear hS))
  go_ret
  exact ⟨rfl, HS.out.below⟩
set_option maxHeartbeats 1000000 in
set_option maxRecDepth 100000 in
theorem csorted_mzms (x y z : Value × TVer) (mx my : Int) (w : World) (hx : x.2.ok) (hy : y.2.ok) (hz : z.2.ok) (h1 : O2 (vP x.2) (vP y.2) = -1) (h2 : O2 (vP y.2) (vP z.2) = 0) (h3 : O2 (vP x.2) (vP z.2) = -1) (cx : (verC x)[33]? = some (.int .i64 mx)) (cy : (verC y)[33]? = some (.int .i64 my)) (hxy : x.2.h = y.2.h ∧ (x.2.n : Int) = (y.2.n : Int)) (hn : ¬ mx = my) :
    Calls Try.prog 9 #[.agg (verC x).toArray, .agg (verC y).toArray, .agg (verC z).toArray] w fun e w' => e = .returned (.bool true) ∧ Below w.heap.size w w' := by
  have HS := Lib.hid (St.start w)
  have Hx := Lib.hid hx; have Hy := Lib.hid hy; have Hz := Lib.hid hz
  have H1 := Lib.hid h1; have H2 := Lib.hid h2; have H3 := Lib.hid h3
  have H4 := Lib.hid (show O2 (vP y.2) (vP x.2) = 1 by have h := O2_neg (vP x.2) (vP y.2); omega)
  have hq : ∀ W, (Op.equalIn 10000 44 (.agg (bs x.2.h ++ [Value.int .u32 (x.2.n : Int)]).toArray) (.agg (bs y.2.h ++ [Value.int .u32 (y.2.n : Int)]).toArray)).run Try.prog W = .ok true W := fun W => by
    have := eqPt 9997 x.2.h y.2.h (x.2.n : Int) (y.2.n : Int) hx.h hy.h W
    rwa [decide_eq_true hxy] at this
  have k2 : (mx == my) = false := by rw [beq_eq_false_iff_ne]; exact hn
  clear hx hy hz h1 h2 h3 hxy hn
  go_enter Try.func9, Try.ntmps9
  go_wp2_with (first
    | go_skip
    | (refine atd 3 (by rfl) ?_; refine wl (by rfl) (s_bx (l := verC x) HS.out (by rfl) (by rfl) ?_); intro b3 Wn hS; clear HS; have HS := Lib.hid hS; clear hS)
    | (refine atd 4 (by rfl) ?_; refine wl (by rfl) (s_bx (l := verC y) HS.out (by rfl) (by rfl) ?_); intro b4 Wn hS; clear HS; have HS := Lib.hid hS; clear hS)
    | (refine atd 5 (by rfl) ?_; refine wl (by rfl) (s_bx (l := verC z) HS.out (by rfl) (by rfl) ?_); intro b5 Wn hS; clear HS; have HS := Lib.hid hS; clear hS)
    | (go_at_call 37; refine (alive37 _).mono ?_; rintro e Wn ⟨rfl, hb⟩; have hS := HS.out.call hb; clear hb; clear HS; have HS := Lib.hid hS; clear hS))
  refine wp_region_pi [(0, true), (1, true), (3, true), (4, true), (6, true), (7, true), (2, false), (5, false), (8, false), (9, true), (10, true), (11, true)] (by kernel_rfl) (by kernel_rfl) rfl (by kernel_rfl) (fun _ _ _ _ _ h => h) (fun w' => St w w' [Blk b5 (verC z) 46, Blk b4 (verC y) 46, Blk b3 (verC x) 46] []) HS.out.drew ?_
  intro OPS hops
  have hS := HS.out.drew
  clear HS; have HS := Lib.hid hS; clear hS
  iterate 6
    first | (refine wpPi_yield _ (by rw [hops.out]; simp only [List.getElem?_toArray, List.getElem?_cons_succ, List.getElem?_cons_zero]; rfl) (by first | rfl | (rw [hops.out]; rfl)) (fun w' hS => by first | exact run_lda (n := 70) (cs := verC x) ag46 (by rfl) (by rfl) (hS.range (i := 2) rfl (by rw [verC_length Hx.out]; exact verC_all Hx.out)) (verC_length Hx.out) | exact run_lda (n := 70) (cs := verC y) ag46 (by rfl) (by rfl) (hS.range (i := 1) rfl (by rw [verC_length Hy.out]; exact verC_all Hy.out)) (verC_length Hy.out) | exact run_lda (n := 70) (cs := verC z) ag46 (by rfl) (by rfl) (hS.range (i := 0) rfl (by rw [verC_length Hz.out]; exact verC_all Hz.out)) (verC_length Hz.out) | (go_simp; rfl)) ?_; simp only [Act.put, List.setIfInBounds_toArray, List.set_cons_succ, List.set_cons_zero]) | (refine wpPi_skip (by rw [hops.out]; simp only [List.getElem?_toArray, List.getElem?_cons_succ, List.getElem?_cons_zero]; rfl) (by first | rfl | (rw [hops.out]; rfl)) ?_; simp only [Act.put, List.setIfInBounds_toArray, List.set_cons_succ, List.set_cons_zero])
  refine wpPi_act (by rw [hops.out]; simp only [List.getElem?_toArray, List.getElem?_cons_succ, List.getElem?_cons_zero]; rfl) (by first | rfl | (rw [hops.out]; rfl)) ?_
  go_simp
  refine (cmp24 x y _ Hx.out Hy.out (R := -1) H1.out).mono ?_
  rintro e Wn ⟨rfl, hb⟩
  have hS := HS.out.call hb
  clear HS; have HS := Lib.hid hS; clear hS
  clear hb
  refine ⟨HS.out, ?_⟩
  try simp only [Act.put, List.setIfInBounds_toArray, List.set_cons_succ, List.set_cons_zero]
  refine wpPi_act (by rw [hops.out]; simp only [List.getElem?_toArray, List.getElem?_cons_succ, List.getElem?_cons_zero]; rfl) (by first | rfl | (rw [hops.out]; rfl)) ?_
  go_simp
  refine (cmp24 y z _ Hy.out Hz.out (R := 0) H2.out).mono ?_
  rintro e Wn ⟨rfl, hb⟩
  have hS := HS.out.call hb
  clear HS; have HS := Lib.hid hS; clear hS
  clear hb
  refine ⟨HS.out, ?_⟩
  try simp only [Act.put, List.setIfInBounds_toArray, List.set_cons_succ, List.set_cons_zero]
  refine wpPi_act (by rw [hops.out]; simp only [List.getElem?_toArray, List.getElem?_cons_succ, List.getElem?_cons_zero]; rfl) (by first | rfl | (rw [hops.out]; rfl)) ?_
  go_simp
  refine (cmp24 x z _ Hx.out Hz.out (R := -1) H3.out).mono ?_
  rintro e Wn ⟨rfl, hb⟩
  have hS := HS.out.call hb
  clear HS; have HS := Lib.hid hS; clear hS
  clear hb
  refine ⟨HS.out, ?_⟩
  try simp only [Act.put, List.setIfInBounds_toArray, List.set_cons_succ, List.set_cons_zero]
  iterate 3
    first | (refine wpPi_yield _ (by rw [hops.out]; simp only [List.getElem?_toArray, List.getElem?_cons_succ, List.getElem?_cons_zero]; rfl) (by first | rfl | (rw [hops.out]; rfl)) (fun w' hS => by first | exact run_lda (n := 70) (cs := verC x) ag46 (by rfl) (by rfl) (hS.range (i := 2) rfl (by rw [verC_length Hx.out]; exact verC_all Hx.out)) (verC_length Hx.out) | exact run_lda (n := 70) (cs := verC y) ag46 (by rfl) (by rfl) (hS.range (i := 1) rfl (by rw [verC_length Hy.out]; exact verC_all Hy.out)) (verC_length Hy.out) | exact run_lda (n := 70) (cs := verC z) ag46 (by rfl) (by rfl) (hS.range (i := 0) rfl (by rw [verC_length Hz.out]; exact verC_all Hz.out)) (verC_length Hz.out) | (go_simp; rfl)) ?_; simp only [Act.put, List.setIfInBounds_toArray, List.set_cons_succ, List.set_cons_zero]) | (refine wpPi_skip (by rw [hops.out]; simp only [List.getElem?_toArray, List.getElem?_cons_succ, List.getElem?_cons_zero]; rfl) (by first | rfl | (rw [hops.out]; rfl)) ?_; simp only [Act.put, List.setIfInBounds_toArray, List.set_cons_succ, List.set_cons_zero])
  simp only [wpPi]
  clear OPS hops
  go_wp2_with (first
    | go_skip
    | (refine atd 54 (by rfl) ?_; refine wl (by rfl) (s_lda (cs := verC y) HS.out 1 70 (by rfl) (by rfl) (by rfl) ag46 (by exact verC_all Hy.out) (verC_length Hy.out) ?_))
    | (refine atd 55 (by rfl) ?_; refine wl (by rfl) (s_lda (cs := verC x) HS.out 2 70 (by rfl) (by rfl) (by rfl) ag46 (by exact verC_all Hx.out) (verC_length Hx.out) ?_))
    | (refine atd 65 (by rfl) ?_; refine wl (by rfl) (s_lda (cs := bs x.2.h ++ [Value.int .u32 (x.2.n : Int)]) HS.out 2 33 (by rfl) (by rfl) (by rfl) ag44 (by exact verC_pt Hx.out) (verC_pt33 Hx.out) ?_))
    | (refine atd 67 (by rfl) ?_; refine wl (by rfl) (s_lda (cs := bs y.2.h ++ [Value.int .u32 (y.2.n : Int)]) HS.out 1 33 (by rfl) (by rfl) (by rfl) ag44 (by exact verC_pt Hy.out) (verC_pt33 Hy.out) ?_))
    | (refine atd 71 (by rfl) ?_; refine wl (by rfl) (s_ld HS.out 2 (by rfl) (by rfl) (by rfl) (by kernel_rfl) (by exact cx) ?_))
    | (refine atd 73 (by rfl) ?_; refine wl (by rfl) (s_ld HS.out 1 (by rfl) (by rfl) (by rfl) (by kernel_rfl) (by exact cy) ?_))
    | (go_at_call 24; refine (cmp24 y x _ Hy.out Hx.out (R := 1) H4.out).mono ?_; rintro e Wn ⟨rfl, hb⟩; have hS := HS.out.call hb; clear hb; clear HS; have HS := Lib.hid hS; clear hS))
  go_ret
  exact ⟨rfl, HS.out.below⟩
set_option maxHeartbeats 1000000 in
set_option maxRecDepth 100000 in
theorem csorted_mzmd (x y z : Value × TVer) (mx my : Int) (w : World) (hx : x.2.ok) (hy : y.2.ok) (hz : z.2.ok) (h1 : O2 (vP x.2) (vP y.2) = -1) (h2 : O2 (vP y.2) (vP z.2) = 0) (h3 : O2 (vP x.2) (vP z.2) = -1) (cx : (verC x)[33]? = some (.int .i64 mx)) (cy : (verC y)[33]? = some (.int .i64 my)) (hxy : ¬ (x.2.h = y.2.h ∧ (x.2.n : Int) = (y.2.n : Int))) :
    Calls Try.prog 9 #[.agg (verC x).toArray, .agg (verC y).toArray, .agg (verC z).toArray] w fun e w' => e = .returned (.bool true) ∧ Below w.heap.size w w' := by
  have HS := Lib.hid (St.start w)
  have Hx := Lib.hid hx; have Hy := Lib.hid hy; have Hz := Lib.hid hz
  have H1 := Lib.hid h1; have H2 := Lib.hid h2; have H3 := Lib.hid h3
  have H4 := Lib.hid (show O2 (vP y.2) (vP x.2) = 1 by have h := O2_neg (vP x.2) (vP y.2); omega)
  have hq : ∀ W, (Op.equalIn 10000 44 (.agg (bs x.2.h ++ [Value.int .u32 (x.2.n : Int)]).toArray) (.agg (bs y.2.h ++ [Value.int .u32 (y.2.n : Int)]).toArray)).run Try.prog W = .ok false W := fun W => by
    have := eqPt 9997 x.2.h y.2.h (x.2.n : Int) (y.2.n : Int) hx.h hy.h W
    rwa [decide_eq_false hxy] at this
  clear hx hy hz h1 h2 h3 hxy 
  go_enter Try.func9, Try.ntmps9
  go_wp2_with (first
    | go_skip
    | (refine atd 3 (by rfl) ?_; refine wl (by rfl) (s_bx (l := verC x) HS.out (by rfl) (by rfl) ?_); intro b3 Wn hS; clear HS; have HS := Lib.hid hS; clear hS)
    | (refine atd 4 (by rfl) ?_; refine wl (by rfl) (s_bx (l := verC y) HS.out (by rfl) (by rfl) ?_); intro b4 Wn hS; clear HS; have HS := Lib.hid hS; clear hS)
    | (refine atd 5 (by rfl) ?_; refine wl (by rfl) (s_bx (l := verC z) HS.out (by rfl) (by rfl) ?_); intro b5 Wn hS; clear HS; have HS := Lib.hid hS; clear hS)
    | (go_at_call 37; refine (alive37 _).mono ?_; rintro e Wn ⟨rfl, hb⟩; have hS := HS.out.call hb; clear hb; clear HS; have HS := Lib.hid hS; clear hS))
  refine wp_region_pi [(0, true), (1, true), (3, true), (4, true), (6, true), (7, true), (2, false), (5, false), (8, false), (9, true), (10, true), (11, true)] (by kernel_rfl) (by kernel_rfl) rfl (by kernel_rfl) (fun _ _ _ _ _ h => h) (fun w' => St w w' [Blk b5 (verC z) 46, Blk b4 (verC y) 46, Blk b3 (verC x) 46] []) HS.out.drew ?_
  intro OPS hops
  have hS := HS.out.drew
  clear HS; have HS := Lib.hid hS; clear hS
  iterate 6
    first | (refine wpPi_yield _ (by rw [hops.out]; simp only [List.getElem?_toArray, List.getElem?_cons_succ, List.getElem?_cons_zero]; rfl) (by first | rfl | (rw [hops.out]; rfl)) (fun w' hS => by first | exact run_lda (n := 70) (cs := verC x) ag46 (by rfl) (by rfl) (hS.range (i := 2) rfl (by rw [verC_length Hx.out]; exact verC_all Hx.out)) (verC_length Hx.out) | exact run_lda (n := 70) (cs := verC y) ag46 (by rfl) (by rfl) (hS.range (i := 1) rfl (by rw [verC_length Hy.out]; exact verC_all Hy.out)) (verC_length Hy.out) | exact run_lda (n := 70) (cs := verC z) ag46 (by rfl) (by rfl) (hS.range (i := 0) rfl (by rw [verC_length Hz.out]; exact verC_all Hz.out)) (verC_length Hz.out) | (go_simp; rfl)) ?_; simp only [Act.put, List.setIfInBounds_toArray, List.set_cons_succ, List.set_cons_zero]) | (refine wpPi_skip (by rw [hops.out]; simp only [List.getElem?_toArray, List.getElem?_cons_succ, List.getElem?_cons_zero]; rfl) (by first | rfl | (rw [hops.out]; rfl)) ?_; simp only [Act.put, List.setIfInBounds_toArray, List.set_cons_succ, List.set_cons_zero])
  refine wpPi_act (by rw [hops.out]; simp only [List.getElem?_toArray, List.getElem?_cons_succ, List.getElem?_cons_zero]; rfl) (by first | rfl | (rw [hops.out]; rfl)) ?_
  go_simp
  refine (cmp24 x y _ Hx.out Hy.out (R := -1) H1.out).mono ?_
  rintro e Wn ⟨rfl, hb⟩
  have hS := HS.out.call hb
  clear HS; have HS := Lib.hid hS; clear hS
  clear hb
  refine ⟨HS.out, ?_⟩
  try simp only [Act.put, List.setIfInBounds_toArray, List.set_cons_succ, List.set_cons_zero]
  refine wpPi_act (by rw [hops.out]; simp only [List.getElem?_toArray, List.getElem?_cons_succ, List.getElem?_cons_zero]; rfl) (by first | rfl | (rw [hops.out]; rfl)) ?_
  go_simp
  refine (cmp24 y z _ Hy.out Hz.out (R := 0) H2.out).mono ?_
  rintro e Wn ⟨rfl, hb⟩
  have hS := HS.out.call hb
  clear HS; have HS := Lib.hid hS; clear hS
  clear hb
  refine ⟨HS.out, ?_⟩
  try simp only [Act.put, List.setIfInBounds_toArray, List.set_cons_succ, List.set_cons_zero]
  refine wpPi_act (by rw [hops.out]; simp only [List.getElem?_toArray, List.getElem?_cons_succ, List.getElem?_cons_zero]; rfl) (by first | rfl | (rw [hops.out]; rfl)) ?_
  go_simp
  refine (cmp24 x z _ Hx.out Hz.out (R := -1) H3.out).mono ?_
  rintro e Wn ⟨rfl, hb⟩
  have hS := HS.out.call hb
  clear HS; have HS := Lib.hid hS; clear hS
  clear hb
  refine ⟨HS.out, ?_⟩
  try simp only [Act.put, List.setIfInBounds_toArray, List.set_cons_succ, List.set_cons_zero]
  iterate 3
    first | (refine wpPi_yield _ (by rw [hops.out]; simp only [List.getElem?_toArray, List.getElem?_cons_succ, List.getElem?_cons_zero]; rfl) (by first | rfl | (rw [hops.out]; rfl)) (fun w' hS => by first | exact run_lda (n := 70) (cs := verC x) ag46 (by rfl) (by rfl) (hS.range (i := 2) rfl (by rw [verC_length Hx.out]; exact verC_all Hx.out)) (verC_length Hx.out) | exact run_lda (n := 70) (cs := verC y) ag46 (by rfl) (by rfl) (hS.range (i := 1) rfl (by rw [verC_length Hy.out]; exact verC_all Hy.out)) (verC_length Hy.out) | exact run_lda (n := 70) (cs := verC z) ag46 (by rfl) (by rfl) (hS.range (i := 0) rfl (by rw [verC_length Hz.out]; exact verC_all Hz.out)) (verC_length Hz.out) | (go_simp; rfl)) ?_; simp only [Act.put, List.setIfInBounds_toArray, List.set_cons_succ, List.set_cons_zero]) | (refine wpPi_skip (by rw [hops.out]; simp only [List.getElem?_toArray, List.getElem?_cons_succ, List.getElem?_cons_zero]; rfl) (by first | rfl | (rw [hops.out]; rfl)) ?_; simp only [Act.put, List.setIfInBounds_toArray, List.set_cons_succ, List.set_cons_zero])
  simp only [wpPi]
  clear OPS hops
  go_wp2_with (first
    | go_skip
    | (refine atd 54 (by rfl) ?_; refine wl (by rfl) (s_lda (cs := verC y) HS.out 1 70 (by rfl) (by rfl) (by rfl) ag46 (by exact verC_all Hy.out) (verC_length Hy.out) ?_))
    | (refine atd 55 (by rfl) ?_; refine wl (by rfl) (s_lda (cs := verC x) HS.out 2 70 (by rfl) (by rfl) (by rfl) ag46 (by exact verC_all Hx.out) (verC_length Hx.out) ?_))
    | (refine atd 65 (by rfl) ?_; refine wl (by rfl) (s_lda (cs := bs x.2.h ++ [Value.int .u32 (x.2.n : Int)]) HS.out 2 33 (by rfl) (by rfl) (by rfl) ag44 (by exact verC_pt Hx.out) (verC_pt33 Hx.out) ?_))
    | (refine atd 67 (by rfl) ?_; refine wl (by rfl) (s_lda (cs := bs y.2.h ++ [Value.int .u32 (y.2.n : Int)]) HS.out 1 33 (by rfl) (by rfl) (by rfl) ag44 (by exact verC_pt Hy.out) (verC_pt33 Hy.out) ?_))
    | (refine atd 71 (by rfl) ?_; refine wl (by rfl) (s_ld HS.out 2 (by rfl) (by rfl) (by rfl) (by kernel_rfl) (by exact cx) ?_))
    | (refine atd 73 (by rfl) ?_; refine wl (by rfl) (s_ld HS.out 1 (by rfl) (by rfl) (by rfl) (by kernel_rfl) (by exact cy) ?_))
    | (go_at_call 24; refine (cmp24 y x _ Hy.out Hx.out (R := 1) H4.out).mono ?_; rintro e Wn ⟨rfl, hb⟩; have hS := HS.out.call hb; clear hb; clear HS; have HS := Lib.hid hS; clear hS))
  go_ret
  exact ⟨rfl, HS.out.below⟩
set_option maxHeartbeats 1000000 in
set_option maxRecDepth 100000 in
theorem csorted_mpms (x y z : Value × TVer) (mx my : Int) (w : World) (hx : x.2.ok) (hy : y.2.ok) (hz : z.2.ok) (h1 : O2 (vP x.2) (vP y.2) = -1) (h2 : O2 (vP y.2) (vP z.2) = 1) (h3 : O2 (vP x.2) (vP z.2) = -1) (cx : (verC x)[33]? = some (.int .i64 mx)) (cy : (verC y)[33]? = some (.int .i64 my)) (hxy : x.2.h = y.2.h ∧ (x.2.n : Int) = (y.2.n : Int)) (hn : ¬ mx = my) :
    Calls Try.prog 9 #[.agg (verC x).toArray, .agg (verC y).toArray, .agg (verC z).toArray] w fun e w' => e = .returned (.bool true) ∧ Below w.heap.size w w' := by
  have HS := Lib.hid (St.start w)
  have Hx := Lib.hid hx; have Hy := Lib.hid hy; have Hz := Lib.hid hz
  have H1 := Lib.hid h1; have H2 := Lib.hid h2; have H3 := Lib.hid h3
  have H4 := Lib.hid (show O2 (vP y.2) (vP x.2) = 1 by have h := O2_neg (vP x.2) (vP y.2); omega)
  have hq : ∀ W, (Op.equalIn 10000 44 (.agg (bs x.2.h ++ [Value.int .u32 (x.2.n : Int)]).toArray) (.agg (bs y.2.h ++ [Value.int .u32 (y.2.n : Int)]).toArray)).run Try.prog W = .ok true W := fun W => by
    have := eqPt 9997 x.2.h y.2.h (x.2.n : Int) (y.2.n : Int) hx.h hy.h W
    rwa [decide_eq_true hxy] at this
  have k2 : (mx == my) = false := by rw [beq_eq_false_iff_ne]; exact hn
  clear hx hy hz h1 h2 h3 hxy hn
  go_enter Try.func9, Try.ntmps9
  go_wp2_with (first
    | go_skip
    | (refine atd 3 (by rfl) ?_; refine wl (by rfl) (s_bx (l := verC x) HS.out (by rfl) (by rfl) ?_); intro b3 Wn hS; clear HS; have HS := Lib.hid hS; clear hS)
    | (refine atd 4 (by rfl) ?_; refine wl (by rfl) (s_bx (l := verC y) HS.out (by rfl) (by rfl) ?_); intro b4 Wn hS; clear HS; have HS := Lib.hid hS; clear hS)
    | (refine atd 5 (by rfl) ?_; refine wl (by rfl) (s_bx (l := verC z) HS.out (by rfl) (by rfl) ?_); intro b5 Wn hS; clear HS; have HS := Lib.hid hS; clear hS)
    | (go_at_call 37; refine (alive37 _).mono ?_; rintro e Wn ⟨rfl, hb⟩; have hS := HS.out.call hb; clear hb; clear HS; have HS := Lib.hid hS; clear hS))
  refine wp_region_pi [(0, true), (1, true), (3, true), (4, true), (6, true), (7, true), (2, false), (5, false), (8, false), (9, true), (10, true), (11, true)] (by kernel_rfl) (by kernel_rfl) rfl (by kernel_rfl) (fun _ _ _ _ _ h => h) (fun w' => St w w' [Blk b5 (verC z) 46, Blk b4 (verC y) 46, Blk b3 (verC x) 46] []) HS.out.drew ?_
  intro OPS hops
  have hS := HS.out.drew
  clear HS; have HS := Lib.hid hS; clear hS
  iterate 6
    first | (refine wpPi_yield _ (by rw [hops.out]; simp only [List.getElem?_toArray, List.getElem?_cons_succ, List.getElem?_cons_zero]; rfl) (by first | rfl | (rw [hops.out]; rfl)) (fun w' hS => by first | exact run_lda (n := 70) (cs := verC x) ag46 (by rfl) (by rfl) (hS.range (i := 2) rfl (by rw [verC_length Hx.out]; exact verC_all Hx.out)) (verC_length Hx.out) | exact run_lda (n := 70) (cs := verC y) ag46 (by rfl) (by rfl) (hS.range (i := 1) rfl (by rw [verC_length Hy.out]; exact verC_all Hy.out)) (verC_length Hy.out) | exact run_lda (n := 70) (cs := verC z) ag46 (by rfl) (by rfl) (hS.range (i := 0) rfl (by rw [verC_length Hz.out]; exact verC_all Hz.out)) (verC_length Hz.out) | (go_simp; rfl)) ?_; simp only [Act.put, List.setIfInBounds_toArray, List.set_cons_succ, List.set_cons_zero]) | (refine wpPi_skip (by rw [hops.out]; simp only [List.getElem?_toArray, List.getElem?_cons_succ, List.getElem?_cons_zero]; rfl) (by first | rfl | (rw [hops.out]; rfl)) ?_; simp only [Act.put, List.setIfInBounds_toArray, List.set_cons_succ, List.set_cons_zero])
  refine wpPi_act (by rw [hops.out]; simp only [List.getElem?_toArray, List.getElem?_cons_succ, List.getElem?_cons_zero]; rfl) (by first | rfl | (rw [hops.out]; rfl)) ?_
  go_simp
  refine (cmp24 x y _ Hx.out Hy.out (R := -1) H1.out).mono ?_
  rintro e Wn ⟨rfl, hb⟩
  have hS := HS.out.call hb
  clear HS; have HS := Lib.hid hS; clear hS
  clear hb
  refine ⟨HS.out, ?_⟩
  try simp only [Act.put, List.setIfInBounds_toArray, List.set_cons_succ, List.set_cons_zero]
  refine wpPi_act (by rw [hops.out]; simp only [List.getElem?_toArray, List.getElem?_cons_succ, List.getElem?_cons_zero]; rfl) (by first | rfl | (rw [hops.out]; rfl)) ?_
  go_simp
  refine (cmp24 y z _ Hy.out Hz.out (R := 1) H2.out).mono ?_
  rintro e Wn ⟨rfl, hb⟩
  have hS := HS.out.call hb
  clear HS; have HS := Lib.hid hS; clear hS
  clear hb
  refine ⟨HS.out, ?_⟩
  try simp only [Act.put, List.setIfInBounds_toArray, List.set_cons_succ, List.set_cons_zero]
  refine wpPi_act (by rw [hops.out]; simp only [List.getElem?_toArray, List.getElem?_cons_succ, List.getElem?_cons_zero]; rfl) (by first | rfl | (rw [hops.out]; rfl)) ?_
  go_simp
  refine (cmp24 x z _ Hx.out Hz.out (R := -1) H3.out).mono ?_
  rintro e Wn ⟨rfl, hb⟩
  have hS := HS.out.call hb
  clear HS; have HS := Lib.hid hS; clear hS
  clear hb
  refine ⟨HS.out, ?_⟩
  try simp only [Act.put, List.setIfInBounds_toArray, List.set_cons_succ, List.set_cons_zero]
  iterate 3
    first | (refine wpPi_yield _ (by rw [hops.out]; simp only [List.getElem?_toArray, List.getElem?_cons_succ, List.getElem?_cons_zero]; rfl) (by first | rfl | (rw [hops.out]; rfl)) (fun w' hS => by first | exact run_lda (n := 70) (cs := verC x) ag46 (by rfl) (by rfl) (hS.range (i := 2) rfl (by rw [verC_length Hx.out]; exact verC_all Hx.out)) (verC_length Hx.out) | exact run_lda (n := 70) (cs := verC y) ag46 (by rfl) (by rfl) (hS.range (i := 1) rfl (by rw [verC_length Hy.out]; exact verC_all Hy.out)) (verC_length Hy.out) | exact run_lda (n := 70) (cs := verC z) ag46 (by rfl) (by rfl) (hS.range (i := 0) rfl (by rw [verC_length Hz.out]; exact verC_all Hz.out)) (verC_length Hz.out) | (go_simp; rfl)) ?_; simp only [Act.put, List.setIfInBounds_toArray, List.set_cons_succ, List.set_cons_zero]) | (refine wpPi_skip (by rw [hops.out]; simp only [List.getElem?_toArray, List.getElem?_cons_succ, List.getElem?_cons_zero]; rfl) (by first | rfl | (rw [hops.out]; rfl)) ?_; simp only [Act.put, List.setIfInBounds_toArray, List.set_cons_succ, List.set_cons_zero])
  simp only [wpPi]
  clear OPS hops
  go_wp2_with (first
    | go_skip
    | (refine atd 54 (by rfl) ?_; refine wl (by rfl) (s_lda (cs := verC y) HS.out 1 70 (by rfl) (by rfl) (by rfl) ag46 (by exact verC_all Hy.out) (verC_length Hy.out) ?_))
    | (refine atd 55 (by rfl) ?_; refine wl (by rfl) (s_lda (cs := verC x) HS.out 2 70 (by rfl) (by rfl) (by rfl) ag46 (by exact verC_all Hx.out) (verC_length Hx.out) ?_))
    | (refine atd 65 (by rfl) ?_; refine wl (by rfl) (s_lda (cs := bs x.2.h ++ [Value.int .u32 (x.2.n : Int)]) HS.out 2 33 (by rfl) (by rfl) (by rfl) ag44 (by exact verC_pt Hx.out) (verC_pt33 Hx.out) ?_))
    | (refine atd 67 (by rfl) ?_; refine wl (by rfl) (s_lda (cs := bs y.2.h ++ [Value.int .u32 (y.2.n : Int)]) HS.out 1 33 (by rfl) (by rfl) (by rfl) ag44 (by exact verC_pt Hy.out) (verC_pt33 Hy.out) ?_))
    | (refine atd 71 (by rfl) ?_; refine wl (by rfl) (s_ld HS.out 2 (by rfl) (by rfl) (by rfl) (by kernel_rfl) (by exact cx) ?_))
    | (refine atd 73 (by rfl) ?_; refine wl (by rfl) (s_ld HS.out 1 (by rfl) (by rfl) (by rfl) (by kernel_rfl) (by exact cy) ?_))
    | (go_at_call 24; refine (cmp24 y x _ Hy.out Hx.out (R := 1) H4.out).mono ?_; rintro e Wn ⟨rfl, hb⟩; have hS := HS.out.call hb; clear hb; clear HS; have HS := Lib.hid hS; clear hS))
  go_ret
  exact ⟨rfl, HS.out.below⟩
set_option maxHeartbeats 1000000 in
set_option maxRecDepth 100000 in
theorem csorted_mpmd (x y z : Value × TVer) (mx my : Int) (w : World) (hx : x.2.ok) (hy : y.2.ok) (hz : z.2.ok) (h1 : O2 (vP x.2) (vP y.2) = -1) (h2 : O2 (vP y.2) (vP z.2) = 1) (h3 : O2 (vP x.2) (vP z.2) = -1) (cx : (verC x)[33]? = some (.int .i64 mx)) (cy : (verC y)[33]? = some (.int .i64 my)) (hxy : ¬ (x.2.h = y.2.h ∧ (x.2.n : Int) = (y.2.n : Int))) :
    Calls Try.prog 9 #[.agg (verC x).toArray, .agg (verC y).toArray, .agg (verC z).toArray] w fun e w' => e = .returned (.bool true) ∧ Below w.heap.size w w' := by
  have HS := Lib.hid (St.start w)
  have Hx := Lib.hid hx; have Hy := Lib.hid hy; have Hz := Lib.hid hz
  have H1 := Lib.hid h1; have H2 := Lib.hid h2; have H3 := Lib.hid h3
  have H4 := Lib.hid (show O2 (vP y.2) (vP x.2) = 1 by have h := O2_neg (vP x.2) (vP y.2); omega)
  have hq : ∀ W, (Op.equalIn 10000 44 (.agg (bs x.2.h ++ [Value.int .u32 (x.2.n : Int)]).toArray) (.agg (bs y.2.h ++ [Value.int .u32 (y.2.n : Int)]).toArray)).run Try.prog W = .ok false W := fun W => by
    have := eqPt 9997 x.2.h y.2.h (x.2.n : Int) (y.2.n : Int) hx.h hy.h W
    rwa [decide_eq_false hxy] at this
  clear hx hy hz h1 h2 h3 hxy 
  go_enter Try.func9, Try.ntmps9
  go_wp2_with (first
    | go_skip
    | (refine atd 3 (by rfl) ?_; refine wl (by rfl) (s_bx (l := verC x) HS.out (by rfl) (by rfl) ?_); intro b3 Wn hS; clear HS; have HS := Lib.hid hS; clear hS)
    | (refine atd 4 (by rfl) ?_; refine wl (by rfl) (s_bx (l := verC y) HS.out (by rfl) (by rfl) ?_); intro b4 Wn hS; clear HS; have HS := Lib.hid hS; clear hS)
    | (refine atd 5 (by rfl) ?_; refine wl (by rfl) (s_bx (l := verC z) HS.out (by rfl) (by rfl) ?_); intro b5 Wn hS; clear HS; have HS := Lib.hid hS; clear hS)
    | (go_at_call 37; refine (alive37 _).mono ?_; rintro e Wn ⟨rfl, hb⟩; have hS := HS.out.call hb; clear hb; clear HS; have HS := Lib.hid hS; clear hS))
  refine wp_region_pi [(0, true), (1, true), (3, true), (4, true), (6, true), (7, true), (2, false), (5, false), (8, false), (9, true), (10, true), (11, true)] (by kernel_rfl) (by kernel_rfl) rfl (by kernel_rfl) (fun _ _ _ _ _ h => h) (fun w' => St w w' [Blk b5 (verC z) 46, Blk b4 (verC y) 46, Blk b3 (verC x) 46] []) HS.out.drew ?_
  intro OPS hops
  have hS := HS.out.drew
  clear HS; have HS := Lib.hid hS; clear hS
  iterate 6
    first | (refine wpPi_yield _ (by rw [hops.out]; simp only [List.getElem?_toArray, List.getElem?_cons_succ, List.getElem?_cons_zero]; rfl) (by first | rfl | (rw [hops.out]; rfl)) (fun w' hS => by first | exact run_lda (n := 70) (cs := verC x) ag46 (by rfl) (by rfl) (hS.range (i := 2) rfl (by rw [verC_length Hx.out]; exact verC_all Hx.out)) (verC_length Hx.out) | exact run_lda (n := 70) (cs := verC y) ag46 (by rfl) (by rfl) (hS.range (i := 1) rfl (by rw [verC_length Hy.out]; exact verC_all Hy.out)) (verC_length Hy.out) | exact run_lda (n := 70) (cs := verC z) ag46 (by rfl) (by rfl) (hS.range (i := 0) rfl (by rw [verC_length Hz.out]; exact verC_all Hz.out)) (verC_length Hz.out) | (go_simp; rfl)) ?_; simp only [Act.put, List.setIfInBounds_toArray, List.set_cons_succ, List.set_cons_zero]) | (refine wpPi_skip (by rw [hops.out]; simp only [List.getElem?_toArray, List.getElem?_cons_succ, List.getElem?_cons_zero]; rfl) (by first | rfl | (rw [hops.out]; rfl)) ?_; simp only [Act.put, List.setIfInBounds_toArray, List.set_cons_succ, List.set_cons_zero])
  refine wpPi_act (by rw [hops.out]; simp only [List.getElem?_toArray, List.getElem?_cons_succ, List.getElem?_cons_zero]; rfl) (by first | rfl | (rw [hops.out]; rfl)) ?_
  go_simp
  refine (cmp24 x y _ Hx.out Hy.out (R := -1) H1.out).mono ?_
  rintro e Wn ⟨rfl, hb⟩
  have hS := HS.out.call hb
  clear HS; have HS := Lib.hid hS; clear hS
  clear hb
  refine ⟨HS.out, ?_⟩
  try simp only [Act.put, List.setIfInBounds_toArray, List.set_cons_succ, List.set_cons_zero]
  refine wpPi_act (by rw [hops.out]; simp only [List.getElem?_toArray, List.getElem?_cons_succ, List.getElem?_cons_zero]; rfl) (by first | rfl | (rw [hops.out]; rfl)) ?_
  go_simp
  refine (cmp24 y z _ Hy.out Hz.out (R := 1) H2.out).mono ?_
  rintro e Wn ⟨rfl, hb⟩
  have hS := HS.out.call hb
  clear HS; have HS := Lib.hid hS; clear hS
  clear hb
  refine ⟨HS.out, ?_⟩
  try simp only [Act.put, List.setIfInBounds_toArray, List.set_cons_succ, List.set_cons_zero]
  refine wpPi_act (by rw [hops.out]; simp only [List.getElem?_toArray, List.getElem?_cons_succ, List.getElem?_cons_zero]; rfl) (by first | rfl | (rw [hops.out]; rfl)) ?_
  go_simp
  refine (cmp24 x z _ Hx.out Hz.out (R := -1) H3.out).mono ?_
  rintro e Wn ⟨rfl, hb⟩
  have hS := HS.out.call hb
  clear HS; have HS := Lib.hid hS; clear hS
  clear hb
  refine ⟨HS.out, ?_⟩
  try simp only [Act.put, List.setIfInBounds_toArray, List.set_cons_succ, List.set_cons_zero]
  iterate 3
    first | (refine wpPi_yield _ (by rw [hops.out]; simp only [List.getElem?_toArray, List.getElem?_cons_succ, List.getElem?_cons_zero]; rfl) (by first | rfl | (rw [hops.out]; rfl)) (fun w' hS => by first | exact run_lda (n := 70) (cs := verC x) ag46 (by rfl) (by rfl) (hS.range (i := 2) rfl (by rw [verC_length Hx.out]; exact verC_all Hx.out)) (verC_length Hx.out) | exact run_lda (n := 70) (cs := verC y) ag46 (by rfl) (by rfl) (hS.range (i := 1) rfl (by rw [verC_length Hy.out]; exact verC_all Hy.out)) (verC_length Hy.out) | exact run_lda (n := 70) (cs := verC z) ag46 (by rfl) (by rfl) (hS.range (i := 0) rfl (by rw [verC_length Hz.out]; exact verC_all Hz.out)) (verC_length Hz.out) | (go_simp; rfl)) ?_; simp only [Act.put, List.setIfInBounds_toArray, List.set_cons_succ, List.set_cons_zero]) | (refine wpPi_skip (by rw [hops.out]; simp only [List.getElem?_toArray, List.getElem?_cons_succ, List.getElem?_cons_zero]; rfl) (by first | rfl | (rw [hops.out]; rfl)) ?_; simp only [Act.put, List.setIfInBounds_toArray, List.set_cons_succ, List.set_cons_zero])
  simp only [wpPi]
  clear OPS hops
  go_wp2_with (first
    | go_skip
    | (refine atd 54 (by rfl) ?_; refine wl (by rfl) (s_lda (cs := verC y) HS.out 1 70 (by rfl) (by rfl) (by rfl) ag46 (by exact verC_all Hy.out) (verC_length Hy.out) ?_))
    | (refine atd 55 (by rfl) ?_; refine wl (by rfl) (s_lda (cs := verC x) HS.out 2 70 (by rfl) (by rfl) (by rfl) ag46 (by exact verC_all Hx.out) (verC_length Hx.out) ?_))
    | (refine atd 65 (by rfl) ?_; refine wl (by rfl) (s_lda (cs := bs x.2.h ++ [Value.int .u32 (x.2.n : Int)]) HS.out 2 33 (by rfl) (by rfl) (by rfl) ag44 (by exact verC_pt Hx.out) (verC_pt33 Hx.out) ?_))
    | (refine atd 67 (by rfl) ?_; refine wl (by rfl) (s_lda (cs := bs y.2.h ++ [Value.int .u32 (y.2.n : Int)]) HS.out 1 33 (by rfl) (by rfl) (by rfl) ag44 (by exact verC_pt Hy.out) (verC_pt33 Hy.out) ?_))
    | (refine atd 71 (by rfl) ?_; refine wl (by rfl) (s_ld HS.out 2 (by rfl) (by rfl) (by rfl) (by kernel_rfl) (by exact cx) ?_))
    | (refine atd 73 (by rfl) ?_; refine wl (by rfl) (s_ld HS.out 1 (by rfl) (by rfl) (by rfl) (by kernel_rfl) (by exact cy) ?_))
    | (go_at_call 24; refine (cmp24 y x _ Hy.out Hx.out (R := 1) H4.out).mono ?_; rintro e Wn ⟨rfl, hb⟩; have hS := HS.out.call hb; clear hb; clear HS; have HS := Lib.hid hS; clear hS))
  go_ret
  exact ⟨rfl, HS.out.below⟩
set_option maxHeartbeats 1000000 in
set_option maxRecDepth 100000 in
theorem csorted_mpzs (x y z : Value × TVer) (mx my : Int) (w : World) (hx : x.2.ok) (hy : y.2.ok) (hz : z.2.ok) (h1 : O2 (vP x.2) (vP y.2) = -1) (h2 : O2 (vP y.2) (vP z.2) = 1) (h3 : O2 (vP x.2) (vP z.2) = 0) (cx : (verC x)[33]? = some (.int .i64 mx)) (cy : (verC y)[33]? = some (.int .i64 my)) (hxy : x.2.h = y.2.h ∧ (x.2.n : Int) = (y.2.n : Int)) (hn : ¬ mx = my) :
    Calls Try.prog 9 #[.agg (verC x).toArray, .agg (verC y).toArray, .agg (verC z).toArray] w fun e w' => e = .returned (.bool true) ∧ Below w.heap.size w w' := by
  have HS := Lib.hid (St.start w)
  have Hx := Lib.hid hx; have Hy := Lib.hid hy; have Hz := Lib.hid hz
  have H1 := Lib.hid h1; have H2 := Lib.hid h2; have H3 := Lib.hid h3
  have H4 := Lib.hid (show O2 (vP y.2) (vP x.2) = 1 by have h := O2_neg (vP x.2) (vP y.2); omega)
  have hq : ∀ W, (Op.equalIn 10000 44 (.agg (bs x.2.h ++ [Value.int .u32 (x.2.n : Int)]).toArray) (.agg (bs y.2.h ++ [Value.int .u32 (y.2.n : Int)]).toArray)).run Try.prog W = .ok true W := fun W => by
    have := eqPt 9997 x.2.h y.2.h (x.2.n : Int) (y.2.n : Int) hx.h hy.h W
    rwa [decide_eq_true hxy] at this
  have k2 : (mx == my) = false := by rw [beq_eq_false_iff_ne]; exact hn
  clear hx hy hz h1 h2 h3 hxy hn
  go_enter Try.func9, Try.ntmps9
  go_wp2_with (first
    | go_skip
    | (refine atd 3 (by rfl) ?_; refine wl (by rfl) (s_bx (l := verC x) HS.out (by rfl) (by rfl) ?_); intro b3 Wn hS; clear HS; have HS := Lib.hid hS; clear hS)
    | (refine atd 4 (by rfl) ?_; refine wl (by rfl) (s_bx (l := verC y) HS.out (by rfl) (by rfl) ?_); intro b4 Wn hS; clear HS; have HS := Lib.hid hS; clear hS)
    | (refine atd 5 (by rfl) ?_; refine wl (by rfl) (s_bx (l := verC z) HS.out (by rfl) (by rfl) ?_); intro b5 Wn hS; clear HS; have HS := Lib.hid hS; clear hS)
    | (go_at_call 37; refine (alive37 _).mono ?_; rintro e Wn ⟨rfl, hb⟩; have hS := HS.out.call hb; clear hb; clear HS; have HS := Lib.hid hS; clear hS))
  refine wp_region_pi [(0, true), (1, true), (3, true), (4, true), (6, true), (7, true), (2, false), (5, false), (8, false), (9, true), (10, true), (11, true)] (by kernel_rfl) (by kernel_rfl) rfl (by kernel_rfl) (fun _ _ _ _ _ h => h) (fun w' => St w w' [Blk b5 (verC z) 46, Blk b4 (verC y) 46, Blk b3 (verC x) 46] []) HS.out.drew ?_
  intro OPS hops
  have hS := HS.out.drew
  clear HS; have HS := Lib.hid hS; clear hS
  iterate 6
    first | (refine wpPi_yield _ (by rw [hops.out]; simp only [List.getElem?_toArray, List.getElem?_cons_succ, List.getElem?_cons_zero]; rfl) (by first | rfl | (rw [hops.out]; rfl)) (fun w' hS => by first | exact run_lda (n := 70) (cs := verC x) ag46 (by rfl) (by rfl) (hS.range (i := 2) rfl (by rw [verC_length Hx.out]; exact verC_all Hx.out)) (verC_length Hx.out) | exact run_lda (n := 70) (cs := verC y) ag46 (by rfl) (by rfl) (hS.range (i := 1) rfl (by rw [verC_length Hy.out]; exact verC_all Hy.out)) (verC_length Hy.out) | exact run_lda (n := 70) (cs := verC z) ag46 (by rfl) (by rfl) (hS.range (i := 0) rfl (by rw [verC_length Hz.out]; exact verC_all Hz.out)) (verC_length Hz.out) | (go_simp; rfl)) ?_; simp only [Act.put, List.setIfInBounds_toArray, List.set_cons_succ, List.set_cons_zero]) | (refine wpPi_skip (by rw [hops.out]; simp only [List.getElem?_toArray, List.getElem?_cons_succ, List.getElem?_cons_zero]; rfl) (by first | rfl | (rw [hops.out]; rfl)) ?_; simp only [Act.put, List.setIfInBounds_toArray, List.set_cons_succ, List.set_cons_zero])
  refine wpPi_act (by rw [hops.out]; simp only [List.getElem?_toArray, List.getElem?_cons_succ, List.getElem?_cons_zero]; rfl) (by first | rfl | (rw [hops.out]; rfl)) ?_
  go_simp
  refine (cmp24 x y _ Hx.out Hy.out (R := -1) H1.out).mono ?_
  rintro e Wn ⟨rfl, hb⟩
  have hS := HS.out.call hb
  clear HS; have HS := Lib.hid hS; clear hS
  clear hb
  refine ⟨HS.out, ?_⟩
  try simp only [Act.put, List.setIfInBounds_toArray, List.set_cons_succ, List.set_cons_zero]
  refine wpPi_act (by rw [hops.out]; simp only [List.getElem?_toArray, List.getElem?_cons_succ, List.getElem?_cons_zero]; rfl) (by first | rfl | (rw [hops.out]; rfl)) ?_
  go_simp
  refine (cmp24 y z _ Hy.out Hz.out (R := 1) H2.out).mono ?_
  rintro e Wn ⟨rfl, hb⟩
  have hS := HS.out.call hb
  clear HS; have HS := Lib.hid hS; clear hS
  clear hb
  refine ⟨HS.out, ?_⟩
  try simp only [Act.put, List.setIfInBounds_toArray, List.set_cons_succ, List.set_cons_zero]
  refine wpPi_act (by rw [hops.out]; simp only [List.getElem?_toArray, List.getElem?_cons_succ, List.getElem?_cons_zero]; rfl) (by first | rfl | (rw [hops.out]; rfl)) ?_
  go_simp
  refine (cmp24 x z _ Hx.out Hz.out (R := 0) H3.out).mono ?_
  rintro e Wn ⟨rfl, hb⟩
  have hS := HS.out.call hb
  clear HS; have HS := Lib.hid hS; clear hS
  clear hb
  refine ⟨HS.out, ?_⟩
  try simp only [Act.put, List.setIfInBounds_toArray, List.set_cons_succ, List.set_cons_zero]
  iterate 3
    first | (refine wpPi_yield _ (by rw [hops.out]; simp only [List.getElem?_toArray, List.getElem?_cons_succ, List.getElem?_cons_zero]; rfl) (by first | rfl | (rw [hops.out]; rfl)) (fun w' hS => by first | exact run_lda (n := 70) (cs := verC x) ag46 (by rfl) (by rfl) (hS.range (i := 2) rfl (by rw [verC_length Hx.out]; exact verC_all Hx.out)) (verC_length Hx.out) | exact run_lda (n := 70) (cs := verC y) ag46 (by rfl) (by rfl) (hS.range (i := 1) rfl (by rw [verC_length Hy.out]; exact verC_all Hy.out)) (verC_length Hy.out) | exact run_lda (n := 70) (cs := verC z) ag46 (by rfl) (by rfl) (hS.range (i := 0) rfl (by rw [verC_length Hz.out]; exact verC_all Hz.out)) (verC_length Hz.out) | (go_simp; rfl)) ?_; simp only [Act.put, List.setIfInBounds_toArray, List.set_cons_succ, List.set_cons_zero]) | (refine wpPi_skip (by rw [hops.out]; simp only [List.getElem?_toArray, List.getElem?_cons_succ, List.getElem?_cons_zero]; rfl) (by first | rfl | (rw [hops.out]; rfl)) ?_; simp only [Act.put, List.setIfInBounds_toArray, List.set_cons_succ, List.set_cons_zero])
  simp only [wpPi]
  clear OPS hops
  go_wp2_with (first
    | go_skip
    | (refine atd 54 (by rfl) ?_; refine wl (by rfl) (s_lda (cs := verC y) HS.out 1 70 (by rfl) (by rfl) (by rfl) ag46 (by exact verC_all Hy.out) (verC_length Hy.out) ?_))
    | (refine atd 55 (by rfl) ?_; refine wl (by rfl) (s_lda (cs := verC x) HS.out 2 70 (by rfl) (by rfl) (by rfl) ag46 (by exact verC_all Hx.out) (verC_length Hx.out) ?_))
    | (refine atd 65 (by rfl) ?_; refine wl (by rfl) (s_lda (cs := bs x.2.h ++ [Value.int .u32 (x.2.n : Int)]) HS.out 2 33 (by rfl) (by rfl) (by rfl) ag44 (by exact verC_pt Hx.out) (verC_pt33 Hx.out) ?_))
    | (refine atd 67 (by rfl) ?_; refine wl (by rfl) (s_lda (cs := bs y.2.h ++ [Value.int .u32 (y.2.n : Int)]) HS.out 1 33 (by rfl) (by rfl) (by rfl) ag44 (by exact verC_pt Hy.out) (verC_pt33 Hy.out) ?_))
    | (refine atd 71 (by rfl) ?_; refine wl (by rfl) (s_ld HS.out 2 (by rfl) (by rfl) (by rfl) (by kernel_rfl) (by exact cx) ?_))
    | (refine atd 73 (by rfl) ?_; refine wl (by rfl) (s_ld HS.out 1 (by rfl) (by rfl) (by rfl) (by kernel_rfl) (by exact cy) ?_))
    | (go_at_call 24; refine (cmp24 y x _ Hy.out Hx.out (R := 1) H4.out).mono ?_; rintro e Wn ⟨rfl, hb⟩; have hS := HS.out.call hb; clear hb; clear HS; have HS := Lib.hid hS; clear hS))
  go_ret
  exact ⟨rfl, HS.out.below⟩
set_option maxHeartbeats 1000000 in
set_option maxRecDepth 100000 in
theorem csorted_mpzd (x y z : Value × TVer) (mx my : Int) (w : World) (hx : x.2.ok) (hy : y.2.ok) (hz : z.2.ok) (h1 : O2 (vP x.2) (vP y.2) = -1) (h2 : O2 (vP y.2) (vP z.2) = 1) (h3 : O2 (vP x.2) (vP z.2) = 0) (cx : (verC x)[33]? = some (.int .i64 mx)) (cy : (verC y)[33]? = some (.int .i64 my)) (hxy : ¬ (x.2.h = y.2.h ∧ (x.2.n : Int) = (y.2.n : Int))) :
    Calls Try.prog 9 #[.agg (verC x).toArray, .agg (verC y).toArray, .agg (verC z).toArray] w fun e w' => e = .returned (.bool true) ∧ Below w.heap.size w w' := by
  have HS := Lib.hid (St.start w)
  have Hx := Lib.hid hx; have Hy := Lib.hid hy; have Hz := Lib.hid hz
  have H1 := Lib.hid h1; have H2 := Lib.hid h2; have H3 := Lib.hid h3
  have H4 := Lib.hid (show O2 (vP y.2) (vP x.2) = 1 by have h := O2_neg (vP x.2) (vP y.2); omega)
  have hq : ∀ W, (Op.equalIn 10000 44 (.agg (bs x.2.h ++ [Value.int .u32 (x.2.n : Int)]).toArray) (.agg (bs y.2.h ++ [Value.int .u32 (y.2.n : Int)]).toArray)).run Try.prog W = .ok false W := fun W => by
    have := eqPt 9997 x.2.h y.2.h (x.2.n : Int) (y.2.n : Int) hx.h hy.h W
    rwa [decide_eq_false hxy] at this
  clear hx hy hz h1 h2 h3 hxy 
  go_enter Try.func9, Try.ntmps9
  go_wp2_with (first
    | go_skip
    | (refine atd 3 (by rfl) ?_; refine wl (by rfl) (s_bx (l := verC x) HS.out (by rfl) (by rfl) ?_); intro b3 Wn hS; clear HS; have HS := Lib.hid hS; clear hS)
    | (refine atd 4 (by rfl) ?_; refine wl (by rfl) (s_bx (l := verC y) HS.out (by rfl) (by rfl) ?_); intro b4 Wn hS; clear HS; have HS := Lib.hid hS; clear hS)
    | (refine atd 5 (by rfl) ?_; refine wl (by rfl) (s_bx (l := verC z) HS.out (by rfl) (by rfl) ?_); intro b5 Wn hS; clear HS; have HS := Lib.hid hS; clear hS)
    | (go_at_call 37; refine (alive37 _).mono ?_; rintro e Wn ⟨rfl, hb⟩; have hS := HS.out.call hb; clear hb; clear HS; have HS := Lib.hid hS; clear hS))
  refine wp_region_pi [(0, true), (1, true), (3, true), (4, true), (6, true), (7, true), (2, false), (5, false), (8, false), (9, true), (10, true), (11, true)] (by kernel_rfl) (by kernel_rfl) rfl (by kernel_rfl) (fun _ _ _ _ _ h => h) (fun w' => St w w' [Blk b5 (verC z) 46, Blk b4 (verC y) 46, Blk b3 (verC x) 46] []) HS.out.drew ?_
  intro OPS hops
  have hS := HS.out.drew
  clear HS; have HS := Lib.hid hS; clear hS
  iterate 6
    first | (refine wpPi_yield _ (by rw [hops.out]; simp only [List.getElem?_toArray, List.getElem?_cons_succ, List.getElem?_cons_zero]; rfl) (by first | rfl | (rw [hops.out]; rfl)) (fun w' hS => by first | exact run_lda (n := 70) (cs := verC x) ag46 (by rfl) (by rfl) (hS.range (i := 2) rfl (by rw [verC_length Hx.out]; exact verC_all Hx.out)) (verC_length Hx.out) | exact run_lda (n := 70) (cs := verC y) ag46 (by rfl) (by rfl) (hS.range (i := 1) rfl (by rw [verC_length Hy.out]; exact verC_all Hy.out)) (verC_length Hy.out) | exact run_lda (n := 70) (cs := verC z) ag46 (by rfl) (by rfl) (hS.range (i := 0) rfl (by rw [verC_length Hz.out]; exact verC_all Hz.out)) (verC_length Hz.out) | (go_simp; rfl)) ?_; simp only [Act.put, List.setIfInBounds_toArray, List.set_cons_succ, List.set_cons_zero]) | (refine wpPi_skip (by rw [hops.out]; simp only [List.getElem?_toArray, List.getElem?_cons_succ, List.getElem?_cons_zero]; rfl) (by first | rfl | (rw [hops.out]; rfl)) ?_; simp only [Act.put, List.setIfInBounds_toArray, List.set_cons_succ, List.set_cons_zero])
  refine wpPi_act (by rw [hops.out]; simp only [List.getElem?_toArray, List.getElem?_cons_succ, List.getElem?_cons_zero]; rfl) (by first | rfl | (rw [hops.out]; rfl)) ?_
  go_simp
  refine (cmp24 x y _ Hx.out Hy.out (R := -1) H1.out).mono ?_
  rintro e Wn ⟨rfl, hb⟩
  have hS := HS.out.call hb
  clear HS; have HS := Lib.hid hS; clear hS
  clear hb
  refine ⟨HS.out, ?_⟩
  try simp only [Act.put, List.setIfInBounds_toArray, List.set_cons_succ, List.set_cons_zero]
  refine wpPi_act (by rw [hops.out]; simp only [List.getElem?_toArray, List.getElem?_cons_succ, List.getElem?_cons_zero]; rfl) (by first | rfl | (rw [hops.out]; rfl)) ?_
  go_simp
  refine (cmp24 y z _ Hy.out Hz.out (R := 1) H2.out).mono ?_
  rintro e Wn ⟨rfl, hb⟩
  have hS := HS.out.call hb
  clear HS; have HS := Lib.hid hS; clear hS
  clear hb
  refine ⟨HS.out, ?_⟩
  try simp only [Act.put, List.setIfInBounds_toArray, List.set_cons_succ, List.set_cons_zero]
  refine wpPi_act (by rw [hops.out]; simp only [List.getElem?_toArray, List.getElem?_cons_succ, List.getElem?_cons_zero]; rfl) (by first | rfl | (rw [hops.out]; rfl)) ?_
  go_simp
  refine (cmp24 x z _ Hx.out Hz.out (R := 0) H3.out).mono ?_
  rintro e Wn ⟨rfl, hb⟩
  have hS := HS.out.call hb
  clear HS; have HS := Lib.hid hS; clear hS
  clear hb
  refine ⟨HS.out, ?_⟩
  try simp only [Act.put, List.setIfInBounds_toArray, List.set_cons_succ, List.set_cons_zero]
  iterate 3
    first | (refine wpPi_yield _ (by rw [hops.out]; simp only [List.getElem?_toArray, List.getElem?_cons_succ, List.getElem?_cons_zero]; rfl) (by first | rfl | (rw [hops.out]; rfl)) (fun w' hS => by first | exact run_lda (n := 70) (cs := verC x) ag46 (by rfl) (by rfl) (hS.range (i := 2) rfl (by rw [verC_length Hx.out]; exact verC_all Hx.out)) (verC_length Hx.out) | exact run_lda (n := 70) (cs := verC y) ag46 (by rfl) (by rfl) (hS.range (i := 1) rfl (by rw [verC_length Hy.out]; exact verC_all Hy.out)) (verC_length Hy.out) | exact run_lda (n := 70) (cs := verC z) ag46 (by rfl) (by rfl) (hS.range (i := 0) rfl (by rw [verC_length Hz.out]; exact verC_all Hz.out)) (verC_length Hz.out) | (go_simp; rfl)) ?_; simp only [Act.put, List.setIfInBounds_toArray, List.set_cons_succ, List.set_cons_zero]) | (refine wpPi_skip (by rw [hops.out]; simp only [List.getElem?_toArray, List.getElem?_cons_succ, List.getElem?_cons_zero]; rfl) (by first | rfl | (rw [hops.out]; rfl)) ?_; simp only [Act.put, List.setIfInBounds_toArray, List.set_cons_succ, List.set_cons_zero])
  simp only [wpPi]
  clear OPS hops
  go_wp2_with (first
    | go_skip
    | (refine atd 54 (by rfl) ?_; refine wl (by rfl) (s_lda (cs := verC y) HS.out 1 70 (by rfl) (by rfl) (by rfl) ag46 (by exact verC_all Hy.out) (verC_length Hy.out) ?_))
    | (refine atd 55 (by rfl) ?_; refine wl (by rfl) (s_lda (cs := verC x) HS.out 2 70 (by rfl) (by rfl) (by rfl) ag46 (by exact verC_all Hx.out) (verC_length Hx.out) ?_))
    | (refine atd 65 (by rfl) ?_; refine wl (by rfl) (s_lda (cs := bs x.2.h ++ [Value.int .u32 (x.2.n : Int)]) HS.out 2 33 (by rfl) (by rfl) (by rfl) ag44 (by exact verC_pt Hx.out) (verC_pt33 Hx.out) ?_))
    | (refine atd 67 (by rfl) ?_; refine wl (by rfl) (s_lda (cs := bs y.2.h ++ [Value.int .u32 (y.2.n : Int)]) HS.out 1 33 (by rfl) (by rfl) (by rfl) ag44 (by exact verC_pt Hy.out) (verC_pt33 Hy.out) ?_))
    | (refine atd 71 (by rfl) ?_; refine wl (by rfl) (s_ld HS.out 2 (by rfl) (by rfl) (by rfl) (by kernel_rfl) (by exact cx) ?_))
    | (refine atd 73 (by rfl) ?_; refine wl (by rfl) (s_ld HS.out 1 (by rfl) (by rfl) (by rfl) (by kernel_rfl) (by exact cy) ?_))
    | (go_at_call 24; refine (cmp24 y x _ Hy.out Hx.out (R := 1) H4.out).mono ?_; rintro e Wn ⟨rfl, hb⟩; have hS := HS.out.call hb; clear hb; clear HS; have HS := Lib.hid hS; clear hS))
  go_ret
  exact ⟨rfl, HS.out.below⟩
set_option maxHeartbeats 1000000 in
set_option maxRecDepth 100000 in
theorem csorted_mpps (x y z : Value × TVer) (mx my : Int) (w : World) (hx : x.2.ok) (hy : y.2.ok) (hz : z.2.ok) (h1 : O2 (vP x.2) (vP y.2) = -1) (h2 : O2 (vP y.2) (vP z.2) = 1) (h3 : O2 (vP x.2) (vP z.2) = 1) (cx : (verC x)[33]? = some (.int .i64 mx)) (cy : (verC y)[33]? = some (.int .i64 my)) (hxy : x.2.h = y.2.h ∧ (x.2.n : Int) = (y.2.n : Int)) (hn : ¬ mx = my) :
    Calls Try.prog 9 #[.agg (verC x).toArray, .agg (verC y).toArray, .agg (verC z).toArray] w fun e w' => e = .returned (.bool true) ∧ Below w.heap.size w w' := by
  have HS := Lib.hid (St.start w)
  have Hx := Lib.hid hx; have Hy := Lib.hid hy; have Hz := Lib.hid hz
  have H1 := Lib.hid h1; have H2 := Lib.hid h2; have H3 := Lib.hid h3
  have H4 := Lib.hid (show O2 (vP y.2) (vP x.2) = 1 by have h := O2_neg (vP x.2) (vP y.2); omega)
  have hq : ∀ W, (Op.equalIn 10000 44 (.agg (bs x.2.h ++ [Value.int .u32 (x.2.n : Int)]).toArray) (.agg (bs y.2.h ++ [Value.int .u32 (y.2.n : Int)]).toArray)).run Try.prog W = .ok true W := fun W => by
    have := eqPt 9997 x.2.h y.2.h (x.2.n : Int) (y.2.n : Int) hx.h hy.h W
    rwa [decide_eq_true hxy] at this
  have k2 : (mx == my) = false := by rw [beq_eq_false_iff_ne]; exact hn
  clear hx hy hz h1 h2 h3 hxy hn
  go_enter Try.func9, Try.ntmps9
  go_wp2_with (first
    | go_skip
    | (refine atd 3 (by rfl) ?_; refine wl (by rfl) (s_bx (l := verC x) HS.out (by rfl) (by rfl) ?_); intro b3 Wn hS; clear HS; have HS := Lib.hid hS; clear hS)
    | (refine atd 4 (by rfl) ?_; refine wl (by rfl) (s_bx (l := verC y) HS.out (by rfl) (by rfl) ?_); intro b4 Wn hS; clear HS; have HS := Lib.hid hS; clear hS)
    | (refine atd 5 (by rfl) ?_; refine wl (by rfl) (s_bx (l := verC z) HS.out (by rfl) (by rfl) ?_); intro b5 Wn hS; clear HS; have HS := Lib.hid hS; clear hS)
    | (go_at_call 37; refine (alive37 _).mono ?_; rintro e Wn ⟨rfl, hb⟩; have hS := HS.out.call hb; clear hb; clear HS; have HS := Lib.hid hS; clear hS))
  refine wp_region_pi [(0, true), (1, true), (3, true), (4, true), (6, true), (7, true), (2, false), (5, false), (8, false), (9, true), (10, true), (11, true)] (by kernel_rfl) (by kernel_rfl) rfl (by kernel_rfl) (fun _ _ _ _ _ h => h) (fun w' => St w w' [Blk b5 (verC z) 46, Blk b4 (verC y) 46, Blk b3 (verC x) 46] []) HS.out.drew ?_
  intro OPS hops
  have hS := HS.out.drew
  clear HS; have HS := Lib.hid hS; clear hS
  iterate 6
    first | (refine wpPi_yield _ (by rw [hops.out]; simp only [List.getElem?_toArray, List.getElem?_cons_succ, List.getElem?_cons_zero]; rfl) (by first | rfl | (rw [hops.out]; rfl)) (fun w' hS => by first | exact run_lda (n := 70) (cs := verC x) ag46 (by rfl) (by rfl) (hS.range (i := 2) rfl (by rw [verC_length Hx.out]; exact verC_all Hx.out)) (verC_length Hx.out) | exact run_lda (n := 70) (cs := verC y) ag46 (by rfl) (by rfl) (hS.range (i := 1) rfl (by rw [verC_length Hy.out]; exact verC_all Hy.out)) (verC_length Hy.out) | exact run_lda (n := 70) (cs := verC z) ag46 (by rfl) (by rfl) (hS.range (i := 0) rfl (by rw [verC_length Hz.out]; exact verC_all Hz.out)) (verC_length Hz.out) | (go_simp; rfl)) ?_; simp only [Act.put, List.setIfInBounds_toArray, List.set_cons_succ, List.set_cons_zero]) | (refine wpPi_skip (by rw [hops.out]; simp only [List.getElem?_toArray, List.getElem?_cons_succ, List.getElem?_cons_zero]; rfl) (by first | rfl | (rw [hops.out]; rfl)) ?_; simp only [Act.put, List.setIfInBounds_toArray, List.set_cons_succ, List.set_cons_zero])
  refine wpPi_act (by rw [hops.out]; simp only [List.getElem?_toArray, List.getElem?_cons_succ, List.getElem?_cons_zero]; rfl) (by first | rfl | (rw [hops.out]; rfl)) ?_
  go_simp
  refine (cmp24 x y _ Hx.out Hy.out (R := -1) H1.out).mono ?_
  rintro e Wn ⟨rfl, hb⟩
  have hS := HS.out.call hb
  clear HS; have HS := Lib.hid hS; clear hS
  clear hb
  refine ⟨HS.out, ?_⟩
  try simp only [Act.put, List.setIfInBounds_toArray, List.set_cons_succ, List.set_cons_zero]
  refine wpPi_act (by rw [hops.out]; simp only [List.getElem?_toArray, List.getElem?_cons_succ, List.getElem?_cons_zero]; rfl) (by first | rfl | (rw [hops.out]; rfl)) ?_
  go_simp
  refine (cmp24 y z _ Hy.out Hz.out (R := 1) H2.out).mono ?_
  rintro e Wn ⟨rfl, hb⟩
  have hS := HS.out.call hb
  clear HS; have HS := Lib.hid hS; clear hS
  clear hb
  refine ⟨HS.out, ?_⟩
  try simp only [Act.put, List.setIfInBounds_toArray, List.set_cons_succ, List.set_cons_zero]
  refine wpPi_act (by rw [hops.out]; simp only [List.getElem?_toArray, List.getElem?_cons_succ, List.getElem?_cons_zero]; rfl) (by first | rfl | (rw [hops.out]; rfl)) ?_
  go_simp
  refine (cmp24 x z _ Hx.out Hz.out (R := 1) H3.out).mono ?_
  rintro e Wn ⟨rfl, hb⟩
  have hS := HS.out.call hb
  clear HS; have HS := Lib.hid hS; clear hS
  clear hb
  refine ⟨HS.out, ?_⟩
  try simp only [Act.put, List.setIfInBounds_toArray, List.set_cons_succ, List.set_cons_zero]
  iterate 3
    first | (refine wpPi_yield _ (by rw [hops.out]; simp only [List.getElem?_toArray, List.getElem?_cons_succ, List.getElem?_cons_zero]; rfl) (by first | rfl | (rw [hops.out]; rfl)) (fun w' hS => by first | exact run_lda (n := 70) (cs := verC x) ag46 (by rfl) (by rfl) (hS.range (i := 2) rfl (by rw [verC_length Hx.out]; exact verC_all Hx.out)) (verC_length Hx.out) | exact run_lda (n := 70) (cs := verC y) ag46 (by rfl) (by rfl) (hS.range (i := 1) rfl (by rw [verC_length Hy.out]; exact verC_all Hy.out)) (verC_length Hy.out) | exact run_lda (n := 70) (cs := verC z) ag46 (by rfl) (by rfl) (hS.range (i := 0) rfl (by rw [verC_length Hz.out]; exact verC_all Hz.out)) (verC_length Hz.out) | (go_simp; rfl)) ?_; simp only [Act.put, List.setIfInBounds_toArray, List.set_cons_succ, List.set_cons_zero]) | (refine wpPi_skip (by rw [hops.out]; simp only [List.getElem?_toArray, List.getElem?_cons_succ, List.getElem?_cons_zero]; rfl) (by first | rfl | (rw [hops.out]; rfl)) ?_; simp only [Act.put, List.setIfInBounds_toArray, List.set_cons_succ, List.set_cons_zero])
  simp only [wpPi]
  clear OPS hops
  go_wp2_with (first
    | go_skip
    | (refine atd 54 (by rfl) ?_; refine wl (by rfl) (s_lda (cs := verC y) HS.out 1 70 (by rfl) (by rfl) (by rfl) ag46 (by exact verC_all Hy.out) (verC_length Hy.out) ?_))
    | (refine atd 55 (by rfl) ?_; refine wl (by rfl) (s_lda (cs := verC x) HS.out 2 70 (by rfl) (by rfl) (by rfl) ag46 (by exact verC_all Hx.out) (verC_length Hx.out) ?_))
    | (refine atd 65 (by rfl) ?_; refine wl (by rfl) (s_lda (cs := bs x.2.h ++ [Value.int .u32 (x.2.n : Int)]) HS.out 2 33 (by rfl) (by rfl) (by rfl) ag44 (by exact verC_pt Hx.out) (verC_pt33 Hx.out) ?_))
    | (refine atd 67 (by rfl) ?_; refine wl (by rfl) (s_lda (cs := bs y.2.h ++ [Value.int .u32 (y.2.n : Int)]) HS.out 1 33 (by rfl) (by rfl) (by rfl) ag44 (by exact verC_pt Hy.out) (verC_pt33 Hy.out) ?_))
    | (refine atd 71 (by rfl) ?_; refine wl (by rfl) (s_ld HS.out 2 (by rfl) (by rfl) (by rfl) (by kernel_rfl) (by exact cx) ?_))
    | (refine atd 73 (by rfl) ?_; refine wl (by rfl) (s_ld HS.out 1 (by rfl) (by rfl) (by rfl) (by kernel_rfl) (by exact cy) ?_))
    | (go_at_call 24; refine (cmp24 y x _ Hy.out Hx.out (R := 1) H4.out).mono ?_; rintro e Wn ⟨rfl, hb⟩; have hS := HS.out.call hb; clear hb; clear HS; have HS := Lib.hid hS; clear hS))
  go_ret
  exact ⟨rfl, HS.out.below⟩
set_option maxHeartbeats 1000000 in
set_option maxRecDepth 100000 in
theorem csorted_mppd (x y z : Value × TVer) (mx my : Int) (w : World) (hx : x.2.ok) (hy : y.2.ok) (hz : z.2.ok) (h1 : O2 (vP x.2) (vP y.2) = -1) (h2 : O2 (vP y.2) (vP z.2) = 1) (h3 : O2 (vP x.2) (vP z.2) = 1) (cx : (verC x)[33]? = some (.int .i64 mx)) (cy : (verC y)[33]? = some (.int .i64 my)) (hxy : ¬ (x.2.h = y.2.h ∧ (x.2.n : Int) = (y.2.n : Int))) :
    Calls Try.prog 9 #[.agg (verC x).toArray, .agg (verC y).toArray, .agg (verC z).toArray] w fun e w' => e = .returned (.bool true) ∧ Below w.heap.size w w' := by
  have HS := Lib.hid (St.start w)
  have Hx := Lib.hid hx; have Hy := Lib.hid hy; have Hz := Lib.hid hz
  have H1 := Lib.hid h1; have H2 := Lib.hid h2; have H3 := Lib.hid h3
  have H4 := Lib.hid (show O2 (vP y.2) (vP x.2) = 1 by have h := O2_neg (vP x.2) (vP y.2); omega)
  have hq : ∀ W, (Op.equalIn 10000 44 (.agg (bs x.2.h ++ [Value.int .u32 (x.2.n : Int)]).toArray) (.agg (bs y.2.h ++ [Value.int .u32 (y.2.n : Int)]).toArray)).run Try.prog W = .ok false W := fun W => by
    have := eqPt 9997 x.2.h y.2.h (x.2.n : Int) (y.2.n : Int) hx.h hy.h W
    rwa [decide_eq_false hxy] at this
  clear hx hy hz h1 h2 h3 hxy 
  go_enter Try.func9, Try.ntmps9
  go_wp2_with (first
    | go_skip
    | (refine atd 3 (by rfl) ?_; refine wl (by rfl) (s_bx (l := verC x) HS.out (by rfl) (by rfl) ?_); intro b3 Wn hS; clear HS; have HS := Lib.hid hS; clear hS)
    | (refine atd 4 (by rfl) ?_; refine wl (by rfl) (s_bx (l := verC y) HS.out (by rfl) (by rfl) ?_); intro b4 Wn hS; clear HS; have HS := Lib.hid hS; clear hS)
    | (refine atd 5 (by rfl) ?_; refine wl (by rfl) (s_bx (l := verC z) HS.out (by rfl) (by rfl) ?_); intro b5 Wn hS; clear HS; have HS := Lib.hid hS; clear hS)
    | (go_at_call 37; refine (alive37 _).mono ?_; rintro e Wn ⟨rfl, hb⟩; have hS := HS.out.call hb; clear hb; clear HS; have HS := Lib.hid hS; clear hS))
  refine wp_region_pi [(0, true), (1, true), (3, true), (4, true), (6, true), (7, true), (2, false), (5, false), (8, false), (9, true), (10, true), (11, true)] (by kernel_rfl) (by kernel_rfl) rfl (by kernel_rfl) (fun _ _ _ _ _ h => h) (fun w' => St w w' [Blk b5 (verC z) 46, Blk b4 (verC y) 46, Blk b3 (verC x) 46] []) HS.out.drew ?_
  intro OPS hops
  have hS := HS.out.drew
  clear HS; have HS := Lib.hid hS; clear hS
  iterate 6
    first | (refine wpPi_yield _ (by rw [hops.out]; simp only [List.getElem?_toArray, List.getElem?_cons_succ, List.getElem?_cons_zero]; rfl) (by first | rfl | (rw [hops.out]; rfl)) (fun w' hS => by first | exact run_lda (n := 70) (cs := verC x) ag46 (by rfl) (by rfl) (hS.range (i := 2) rfl (by rw [verC_length Hx.out]; exact verC_all Hx.out)) (verC_length Hx.out) | exact run_lda (n := 70) (cs := verC y) ag46 (by rfl) (by rfl) (hS.range (i := 1) rfl (by rw [verC_length Hy.out]; exact verC_all Hy.out)) (verC_length Hy.out) | exact run_lda (n := 70) (cs := verC z) ag46 (by rfl) (by rfl) (hS.range (i := 0) rfl (by rw [verC_length Hz.out]; exact verC_all Hz.out)) (verC_length Hz.out) | (go_simp; rfl)) ?_; simp only [Act.put, List.setIfInBounds_toArray, List.set_cons_succ, List.set_cons_zero]) | (refine wpPi_skip (by rw [hops.out]; simp only [List.getElem?_toArray, List.getElem?_cons_succ, List.getElem?_cons_zero]; rfl) (by first | rfl | (rw [hops.out]; rfl)) ?_; simp only [Act.put, List.setIfInBounds_toArray, List.set_cons_succ, List.set_cons_zero])
  refine wpPi_act (by rw [hops.out]; simp only [List.getElem?_toArray, List.getElem?_cons_succ, List.getElem?_cons_zero]; rfl) (by first | rfl | (rw [hops.out]; rfl)) ?_
  go_simp
  refine (cmp24 x y _ Hx.out Hy.out (R := -1) H1.out).mono ?_
  rintro e Wn ⟨rfl, hb⟩
  have hS := HS.out.call hb
  clear HS; have HS := Lib.hid hS; clear hS
  clear hb
  refine ⟨HS.out, ?_⟩
  try simp only [Act.put, List.setIfInBounds_toArray, List.set_cons_succ, List.set_cons_zero]
  refine wpPi_act (by rw [hops.out]; simp only [List.getElem?_toArray, List.getElem?_cons_succ, List.getElem?_cons_zero]; rfl) (by first | rfl | (rw [hops.out]; rfl)) ?_
  go_simp
  refine (cmp24 y z _ Hy.out Hz.out (R := 1) H2.out).mono ?_
  rintro e Wn ⟨rfl, hb⟩
  have hS := HS.out.call hb
  clear HS; have HS := Lib.hid hS; clear hS
  clear hb
  refine ⟨HS.out, ?_⟩
  try simp only [Act.put, List.setIfInBounds_toArray, List.set_cons_succ, List.set_cons_zero]
  refine wpPi_act (by rw [hops.out]; simp only [List.getElem?_toArray, List.getElem?_cons_succ, List.getElem?_cons_zero]; rfl) (by first | rfl | (rw [hops.out]; rfl)) ?_
  go_simp
  refine (cmp24 x z _ Hx.out Hz.out (R := 1) H3.out).mono ?_
  rintro e Wn ⟨rfl, hb⟩
  have hS := HS.out.call hb
  clear HS; have HS := Lib.hid hS; clear hS
  clear hb
  refine ⟨HS.out, ?_⟩
  try simp only [Act.put, List.setIfInBounds_toArray, List.set_cons_succ, List.set_cons_zero]
  iterate 3
    first | (refine wpPi_yield _ (by rw [hops.out]; simp only [List.getElem?_toArray, List.getElem?_cons_succ, List.getElem?_cons_zero]; rfl) (by first | rfl | (rw [hops.out]; rfl)) (fun w' hS => by first | exact run_lda (n := 70) (cs := verC x) ag46 (by rfl) (by rfl) (hS.range (i := 2) rfl (by rw [verC_length Hx.out]; exact verC_all Hx.out)) (verC_length Hx.out) | exact run_lda (n := 70) (cs := verC y) ag46 (by rfl) (by rfl) (hS.range (i := 1) rfl (by rw [verC_length Hy.out]; exact verC_all Hy.out)) (verC_length Hy.out) | exact run_lda (n := 70) (cs := verC z) ag46 (by rfl) (by rfl) (hS.range (i := 0) rfl (by rw [verC_length Hz.out]; exact verC_all Hz.out)) (verC_length Hz.out) | (go_simp; rfl)) ?_; simp only [Act.put, List.setIfInBounds_toArray, List.set_cons_succ, List.set_cons_zero]) | (refine wpPi_skip (by rw [hops.out]; simp only [List.getElem?_toArray, List.getElem?_cons_succ, List.getElem?_cons_zero]; rfl) (by first | rfl | (rw [hops.out]; rfl)) ?_; simp only [Act.put, List.setIfInBounds_toArray, List.set_cons_succ, List.set_cons_zero])
  simp only [wpPi]
  clear OPS hops
  go_wp2_with (first
    | go_skip
    | (refine atd 54 (by rfl) ?_; refine wl (by rfl) (s_lda (cs := verC y) HS.out 1 70 (by rfl) (by rfl) (by rfl) ag46 (by exact verC_all Hy.out) (verC_length Hy.out) ?_))
    | (refine atd 55 (by rfl) ?_; refine wl (by rfl) (s_lda (cs := verC x) HS.out 2 70 (by rfl) (by rfl) (by rfl) ag46 (by exact verC_all Hx.out) (verC_length Hx.out) ?_))
    | (refine atd 65 (by rfl) ?_; refine wl (by rfl) (s_lda (cs := bs x.2.h ++ [Value.int .u32 (x.2.n : Int)]) HS.out 2 33 (by rfl) (by rfl) (by rfl) ag44 (by exact verC_pt Hx.out) (verC_pt33 Hx.out) ?_))
    | (refine atd 67 (by rfl) ?_; refine wl (by rfl) (s_lda (cs := bs y.2.h ++ [Value.int .u32 (y.2.n : Int)]) HS.out 1 33 (by rfl) (by rfl) (by rfl) ag44 (by exact verC_pt Hy.out) (verC_pt33 Hy.out) ?_))
    | (refine atd 71 (by rfl) ?_; refine wl (by rfl) (s_ld HS.out 2 (by rfl) (by rfl) (by rfl) (by kernel_rfl) (by exact cx) ?_))
    | (refine atd 73 (by rfl) ?_; refine wl (by rfl) (s_ld HS.out 1 (by rfl) (by rfl) (by rfl) (by kernel_rfl) (by exact cy) ?_))
    | (go_at_call 24; refine (cmp24 y x _ Hy.out Hx.out (R := 1) H4.out).mono ?_; rintro e Wn ⟨rfl, hb⟩; have hS := HS.out.call hb; clear hb; clear HS; have HS := Lib.hid hS; clear hS))
  go_ret
  exact ⟨rfl, HS.out.below⟩
end
section
open Go Go.RowKit Go.Proofs
attribute [local go_sem] Oper.semAt_some
attribute [local irreducible] Calls
attribute [local irreducible] verC O2 vP
set_option maxHeartbeats 1000000 in
set_option maxRecDepth 100000 in
theorem csorted_zmme (x y z : Value × TVer) (mx my : Int) (w : World) (hx : x.2.ok) (hy : y.2.ok) (hz : z.2.ok) (h1 : O2 (vP x.2) (vP y.2) = 0) (h2 : O2 (vP y.2) (vP z.2) = -1) (h3 : O2 (vP x.2) (vP z.2) = -1) (cx : (verC x)[33]? = some (.int .i64 mx)) (cy : (verC y)[33]? = some (.int .i64 my)) (hxy : x.2.h = y.2.h ∧ (x.2.n : Int) = (y.2.n : Int)) (hn : mx = my) :
    Calls Try.prog 9 #[.agg (verC x).toArray, .agg (verC y).toArray, .agg (verC z).toArray] w fun e w' => e = .returned (.bool true) ∧ Below w.heap.size w w' := by
  have HS := Lib.hid (St.start w)
  have Hx := Lib.hid hx; have Hy := Lib.hid hy; have Hz := Lib.hid hz
  have H1 := Lib.hid h1; have H2 := Lib.hid h2; have H3 := Lib.hid h3
  have H4 := Lib.hid (show O2 (vP y.2) (vP x.2) = 0 by have h := O2_neg (vP x.2) (vP y.2); omega)
  have hq : ∀ W, (Op.equalIn 10000 44 (.agg (bs x.2.h ++ [Value.int .u32 (x.2.n : Int)]).toArray) (.agg (bs y.2.h ++ [Value.int .u32 (y.2.n : Int)]).toArray)).run Try.prog W = .ok true W := fun W => by
    have := eqPt 9997 x.2.h y.2.h (x.2.n : Int) (y.2.n : Int) hx.h hy.h W
    rwa [decide_eq_true hxy] at this
  subst hn
  clear hx hy hz h1 h2 h3 hxy 
  go_enter Try.func9, Try.ntmps9
  go_wp2_with (first
    | go_skip
    | (refine atd 3 (by rfl) ?_; refine wl (by rfl) (s_bx (l := verC x) HS.out (by rfl) (by rfl) ?_); intro b3 Wn hS; clear HS; have HS := Lib.hid hS; clear hS)
    | (refine atd 4 (by rfl) ?_; refine wl (by rfl) (s_bx (l := verC y) HS.out (by rfl) (by rfl) ?_); intro b4 Wn hS; clear HS; have HS := Lib.hid hS; clear hS)
    | (refine atd 5 (by rfl) ?_; refine wl (by rfl) (s_bx (l := verC z) HS.out (by rfl) (by rfl) ?_); intro b5 Wn hS; clear HS; have HS := Lib.hid hS; clear hS)
    | (go_at_call 37; refine (alive37 _).mono ?_; rintro e Wn ⟨rfl, hb⟩; have hS := HS.out.call hb; clear hb; clear HS; have HS := Lib.hid hS; clear hS))
  refine wp_region_pi [(0, true), (1, true), (3, true), (4, true), (6, true), (7, true), (2, false), (5, false), (8, false), (9, true), (10, true), (11, true)] (by kernel_rfl) (by kernel_rfl) rfl (by kernel_rfl) (fun _ _ _ _ _ h => h) (fun w' => St w w' [Blk b5 (verC z) 46, Blk b4 (verC y) 46, Blk b3 (verC x) 46] []) HS.out.drew ?_
  intro OPS hops
  have hS := HS.out.drew
  clear HS; have HS := Lib.hid hS; clear hS
  iterate 6
    first | (refine wpPi_yield _ (by rw [hops.out]; simp only [List.getElem?_toArray, List.getElem?_cons_succ, List.getElem?_cons_zero]; rfl) (by first | rfl | (rw [hops.out]; rfl)) (fun w' hS => by first | exact run_lda (n := 70) (cs := verC x) ag46 (by rfl) (by rfl) (hS.range (i := 2) rfl (by rw [verC_length Hx.out]; exact verC_all Hx.out)) (verC_length Hx.out) | exact run_lda (n := 70) (cs := verC y) ag46 (by rfl) (by rfl) (hS.range (i := 1) rfl (by rw [verC_length Hy.out]; exact verC_all Hy.out)) (verC_length Hy.out) | exact run_lda (n := 70) (cs := verC z) ag46 (by rfl) (by rfl) (hS.range (i := 0) rfl (by rw [verC_length Hz.out]; exact verC_all Hz.out)) (verC_length Hz.out) | (go_simp; rfl)) ?_; simp only [Act.put, List.setIfInBounds_toArray, List.set_cons_succ, List.set_cons_zero]) | (refine wpPi_skip (by rw [hops.out]; simp only [List.getElem?_toArray, List.getElem?_cons_succ, List.getElem?_cons_zero]; rfl) (by first | rfl | (rw [hops.out]; rfl)) ?_; simp only [Act.put, List.setIfInBounds_toArray, List.set_cons_succ, List.set_cons_zero])
  refine wpPi_act (by rw [hops.out]; simp only [List.getElem?_toArray, List.getElem?_cons_succ, List.getElem?_cons_zero]; rfl) (by first | rfl | (rw [hops.out]; rfl)) ?_
  go_simp
  refine (cmp24 x y _ Hx.out Hy.out (R := 0) H1.out).mono ?_
  rintro e Wn ⟨rfl, hb⟩
  have hS := HS.out.call hb
  clear HS; have HS := Lib.hid hS; clear hS
  clear hb
  refine ⟨HS.out, ?_⟩
  try simp only [Act.put, List.setIfInBounds_toArray, List.set_cons_succ, List.set_cons_zero]
  refine wpPi_act (by rw [hops.out]; simp only [List.getElem?_toArray, List.getElem?_cons_succ, List.getElem?_cons_zero]; rfl) (by first | rfl | (rw [hops.out]; rfl)) ?_
  go_simp
  refine (cmp24 y z _ Hy.out Hz.out (R := -1) H2.out).mono ?_
  rintro e Wn ⟨rfl, hb⟩
  have hS := HS.out.call hb
  clear HS; have HS := Lib.hid hS; clear hS
  clear hb
  refine ⟨HS.out, ?_⟩
  try simp only [Act.put, List.setIfInBounds_toArray, List.set_cons_succ, List.set_cons_zero]
  refine wpPi_act (by rw [hops.out]; simp only [List.getElem?_toArray, List.getElem?_cons_succ, List.getElem?_cons_zero]; rfl) (by first | rfl | (rw [hops.out]; rfl)) ?_
  go_simp
  refine (cmp24 x z _ Hx.out Hz.out (R := -1) H3.out).mono ?_
  rintro e Wn ⟨rfl, hb⟩
  have hS := HS.out.call hb
  clear HS; have HS := Lib.hid hS; clear hS
  clear hb
  refine ⟨HS.out, ?_⟩
  try simp only [Act.put, List.setIfInBounds_toArray, List.set_cons_succ, List.set_cons_zero]
  iterate 3
    first | (refine wpPi_yield _ (by rw [hops.out]; simp only [List.getElem?_toArray, List.getElem?_cons_succ, List.getElem?_cons_zero]; rfl) (by first | rfl | (rw [hops.out]; rfl)) (fun w' hS => by first | exact run_lda (n := 70) (cs := verC x) ag46 (by rfl) (by rfl) (hS.range (i := 2) rfl (by rw [verC_length Hx.out]; exact verC_all Hx.out)) (verC_length Hx.out) | exact run_lda (n := 70) (cs := verC y) ag46 (by rfl) (by rfl) (hS.range (i := 1) rfl (by rw [verC_length Hy.out]; exact verC_all Hy.out)) (verC_length Hy.out) | exact run_lda (n := 70) (cs := verC z) ag46 (by rfl) (by rfl) (hS.range (i := 0) rfl (by rw [verC_length Hz.out]; exact verC_all Hz.out)) (verC_length Hz.out) | (go_simp; rfl)) ?_; simp only [Act.put, List.setIfInBounds_toArray, List.set_cons_succ, List.set_cons_zero]) | (refine wpPi_skip (by rw [hops.out]; simp only [List.getElem?_toArray, List.getElem?_cons_succ, List.getElem?_cons_zero]; rfl) (by first | rfl | (rw [hops.out]; rfl)) ?_; simp only [Act.put, List.setIfInBounds_toArray, List.set_cons_succ, List.set_cons_zero])
  simp only [wpPi]
  clear OPS hops
  go_wp2_with (first
    | go_skip
    | (refine atd 54 (by rfl) ?_; refine wl (by rfl) (s_lda (cs := verC y) HS.out 1 70 (by rfl) (by rfl) (by rfl) ag46 (by exact verC_all Hy.out) (verC_length Hy.out) ?_))
    | (refine atd 55 (by rfl) ?_; refine wl (by rfl) (s_lda (cs := verC x) HS.out 2 70 (by rfl) (by rfl) (by rfl) ag46 (by exact verC_all Hx.out) (verC_length Hx.out) ?_))
    | (refine atd 65 (by rfl) ?_; refine wl (by rfl) (s_lda (cs := bs x.2.h ++ [Value.int .u32 (x.2.n : Int)]) HS.out 2 33 (by rfl) (by rfl) (by rfl) ag44 (by exact verC_pt Hx.out) (verC_pt33 Hx.out) ?_))
    | (refine atd 67 (by rfl) ?_; refine wl (by rfl) (s_lda (cs := bs y.2.h ++ [Value.int .u32 (y.2.n : Int)]) HS.out 1 33 (by rfl) (by rfl) (by rfl) ag44 (by exact verC_pt Hy.out) (verC_pt33 Hy.out) ?_))
    | (refine atd 71 (by rfl) ?_; refine wl (by rfl) (s_ld HS.out 2 (by rfl) (by rfl) (by rfl) (by kernel_rfl) (by exact cx) ?_))
    | (refine atd 73 (by rfl) ?_; refine wl (by rfl) (s_ld HS.out 1 (by rfl) (by rfl) (by rfl) (by kernel_rfl) (by exact cy) ?_))
    | (go_at_call 24; refine (cmp24 y x _ Hy.out Hx.out (R := 0) H4.out).mono ?_; rintro e Wn ⟨rfl, hb⟩; have hS := HS.out.call hb; clear hb; clear HS; have HS := Lib.hid hS; clear hS))
  go_ret
  exact ⟨rfl, HS.out.below⟩
set_option maxHeartbeats 1000000 in
set_option maxRecDepth 100000 in
theorem csorted_zzze (x y z : Value × TVer) (mx my : Int) (w : World) (hx : x.2.ok) (hy : y.2.ok) (hz : z.2.ok) (h1 : O2 (vP x.2) (vP y.2) = 0) (h2 : O2 (vP y.2) (vP z.2) = 0) (h3 : O2 (vP x.2) (vP z.2) = 0) (cx : (verC x)[33]? = some (.int .i64 mx)) (cy : (verC y)[33]? = some (.int .i64 my)) (hxy : x.2.h = y.2.h ∧ (x.2.n : Int) = (y.2.n : Int)) (hn : mx = my) :
    Calls Try.prog 9 #[.agg (verC x).toArray, .agg (verC y).toArray, .agg (verC z).toArray] w fun e w' => e = .returned (.bool true) ∧ Below w.heap.size w w' := by
  have HS := Lib.hid (St.start w)
  have Hx := Lib.hid hx; have Hy := Lib.hid hy; have Hz := Lib.hid hz
  have H1 := Lib.hid h1; have H2 := Lib.hid h2; have H3 := Lib.hid h3
  have H4 := Lib.hid (show O2 (vP y.2) (vP x.2) = 0 by have h := O2_neg (vP x.2) (vP y.2); omega)
  have hq : ∀ W, (Op.equalIn 10000 44 (.agg (bs x.2.h ++ [Value.int .u32 (x.2.n : Int)]).toArray) (.agg (bs y.2.h ++ [Value.int .u32 (y.2.n : Int)]).toArray)).run Try.prog W = .ok true W := fun W => by
    have := eqPt 9997 x.2.h y.2.h (x.2.n : Int) (y.2.n : Int) hx.h hy.h W
    rwa [decide_eq_true hxy] at this
  subst hn
  clear hx hy hz h1 h2 h3 hxy 
  go_enter Try.func9, Try.ntmps9
  go_wp2_with (first
    | go_skip
    | (refine atd 3 (by rfl) ?_; refine wl (by rfl) (s_bx (l := verC x) HS.out (by rfl) (by rfl) ?_); intro b3 Wn hS; clear HS; have HS := Lib.hid hS; clear hS)
    | (refine atd 4 (by rfl) ?_; refine wl (by rfl) (s_bx (l := verC y) HS.out (by rfl) (by rfl) ?_); intro b4 Wn hS; clear HS; have HS := Lib.hid hS; clear hS)
    | (refine atd 5 (by rfl) ?_; refine wl (by rfl) (s_bx (l := verC z) HS.out (by rfl) (by rfl) ?_); intro b5 Wn hS; clear HS; have HS := Lib.hid hS; clear hS)
    | (go_at_call 37; refine (alive37 _).mono ?_; rintro e Wn ⟨rfl, hb⟩; have hS := HS.out.call hb; clear hb; clear HS; have HS := Lib.hid hS; clear hS))
  refine wp_region_pi [(0, true), (1, true), (3, true), (4, true), (6, true), (7, true), (2, false), (5, false), (8, false), (9, true), (10, true), (11, true)] (by kernel_rfl) (by kernel_rfl) rfl (by kernel_rfl) (fun _ _ _ _ _ h => h) (fun w' => St w w' [Blk b5 (verC z) 46, Blk b4 (verC y) 46, Blk b3 (verC x) 46] []) HS.out.drew ?_
  intro OPS hops
  have hS := HS.out.drew
  clear HS; have HS := Lib.hid hS; clear hS
  iterate 6
    first | (refine wpPi_yield _ (by rw [hops.out]; simp only [List.getElem?_toArray, List.getElem?_cons_succ, List.getElem?_cons_zero]; rfl) (by first | rfl | (rw [hops.out]; rfl)) (fun w' hS => by first | exact run_lda (n := 70) (cs := verC x) ag46 (by rfl) (by rfl) (hS.range (i := 2) rfl (by rw [verC_length Hx.out]; exact verC_all Hx.out)) (verC_length Hx.out) | exact run_lda (n := 70) (cs := verC y) ag46 (by rfl) (by rfl) (hS.range (i := 1) rfl (by rw [verC_length Hy.out]; exact verC_all Hy.out)) (verC_length Hy.out) | exact run_lda (n := 70) (cs := verC z) ag46 (by rfl) (by rfl) (hS.range (i := 0) rfl (by rw [verC_length Hz.out]; exact verC_all Hz.out)) (verC_length Hz.out) | (go_simp; rfl)) ?_; simp only [Act.put, List.setIfInBounds_toArray, List.set_cons_succ, List.set_cons_zero]) | (refine wpPi_skip (by rw [hops.out]; simp only [List.getElem?_toArray, List.getElem?_cons_succ, List.getElem?_cons_zero]; rfl) (by first | rfl | (rw [hops.out]; rfl)) ?_; simp only [Act.put, List.setIfInBounds_toArray, List.set_cons_succ, List.set_cons_zero])
  refine wpPi_act (by rw [hops.out]; simp only [List.getElem?_toArray, List.getElem?_cons_succ, List.getElem?_cons_zero]; rfl) (by first | rfl | (rw [hops.out]; rfl)) ?_
  go_simp
  refine (cmp24 x y _ Hx.out Hy.out (R := 0) H1.out).mono ?_
  rintro e Wn ⟨rfl, hb⟩
  have hS := HS.out.call hb
  clear HS; have HS := Lib.hid hS; clear hS
  clear hb
  refine ⟨HS.out, ?_⟩
  try simp only [Act.put, List.setIfInBounds_toArray, List.set_cons_succ, List.set_cons_zero]
  refine wpPi_act (by rw [hops.out]; simp only [List.getElem?_toArray, List.getElem?_cons_succ, List.getElem?_cons_zero]; rfl) (by first | rfl | (rw [hops.out]; rfl)) ?_
  go_simp
  refine (cmp24 y z _ Hy.out Hz.out (R := 0) H2.out).mono ?_
  rintro e Wn ⟨rfl, hb⟩
  have hS := HS.out.call hb
  clear HS; have HS := Lib.hid hS; clear hS
  clear hb
  refine ⟨HS.out, ?_⟩
  try simp only [Act.put, List.setIfInBounds_toArray, List.set_cons_succ, List.set_cons_zero]
  refine wpPi_act (by rw [hops.out]; simp only [List.getElem?_toArray, List.getElem?_cons_succ, List.getElem?_cons_zero]; rfl) (by first | rfl | (rw [hops.out]; rfl)) ?_
  go_simp
  refine (cmp24 x z _ Hx.out Hz.out (R := 0) H3.out).mono ?_
  rintro e Wn ⟨rfl, hb⟩
  have hS := HS.out.call hb
  clear HS; have HS := Lib.hid hS; clear hS
  clear hb
  refine ⟨HS.out, ?_⟩
  try simp only [Act.put, List.setIfInBounds_toArray, List.set_cons_succ, List.set_cons_zero]
  iterate 3
    first | (refine wpPi_yield _ (by rw [hops.out]; simp only [List.getElem?_toArray, List.getElem?_cons_succ, List.getElem?_cons_zero]; rfl) (by first | rfl | (rw [hops.out]; rfl)) (fun w' hS => by first | exact run_lda (n := 70) (cs := verC x) ag46 (by rfl) (by rfl) (hS.range (i := 2) rfl (by rw [verC_length Hx.out]; exact verC_all Hx.out)) (verC_length Hx.out) | exact run_lda (n := 70) (cs := verC y) ag46 (by rfl) (by rfl) (hS.range (i := 1) rfl (by rw [verC_length Hy.out]; exact verC_all Hy.out)) (verC_length Hy.out) | exact run_lda (n := 70) (cs := verC z) ag46 (by rfl) (by rfl) (hS.range (i := 0) rfl (by rw [verC_length Hz.out]; exact verC_all Hz.out)) (verC_length Hz.out) | (go_simp; rfl)) ?_; simp only [Act.put, List.setIfInBounds_toArray, List.set_cons_succ, List.set_cons_zero]) | (refine wpPi_skip (by rw [hops.out]; simp only [List.getElem?_toArray, List.getElem?_cons_succ, List.getElem?_cons_zero]; rfl) (by first | rfl | (rw [hops.out]; rfl)) ?_; simp only [Act.put, List.setIfInBounds_toArray, List.set_cons_succ, List.set_cons_zero])
  simp only [wpPi]
  clear OPS hops
  go_wp2_with (first
    | go_skip
    | (refine atd 54 (by rfl) ?_; refine wl (by rfl) (s_lda (cs := verC y) HS.out 1 70 (by rfl) (by rfl) (by rfl) ag46 (by exact verC_all Hy.out) (verC_length Hy.out) ?_))
    | (refine atd 55 (by rfl) ?_; refine wl (by rfl) (s_lda (cs := verC x) HS.out 2 70 (by rfl) (by rfl) (by rfl) ag46 (by exact verC_all Hx.out) (verC_length Hx.out) ?_))
    | (refine atd 65 (by rfl) ?_; refine wl (by rfl) (s_lda (cs := bs x.2.h ++ [Value.int .u32 (x.2.n : Int)]) HS.out 2 33 (by rfl) (by rfl) (by rfl) ag44 (by exact verC_pt Hx.out) (verC_pt33 Hx.out) ?_))
    | (refine atd 67 (by rfl) ?_; refine wl (by rfl) (s_lda (cs := bs y.2.h ++ [Value.int .u32 (y.2.n : Int)]) HS.out 1 33 (by rfl) (by rfl) (by rfl) ag44 (by exact verC_pt Hy.out) (verC_pt33 Hy.out) ?_))
    | (refine atd 71 (by rfl) ?_; refine wl (by rfl) (s_ld HS.out 2 (by rfl) (by rfl) (by rfl) (by kernel_rfl) (by exact cx) ?_))
    | (refine atd 73 (by rfl) ?_; refine wl (by rfl) (s_ld HS.out 1 (by rfl) (by rfl) (by rfl) (by kernel_rfl) (by exact cy) ?_))
    | (go_at_call 24; refine (cmp24 y x _ Hy.out Hx.out (R := 0) H4.out).mono ?_; rintro e Wn ⟨rfl, hb⟩; have hS := HS.out.call hb; clear hb; clear HS; have HS := Lib.hid hS; clear hS))
  go_ret
  exact ⟨rfl, HS.out.below⟩
set_option maxHeartbeats 1000000 in
set_option maxRecDepth 100000 in
theorem csorted_zppe (x y z : Value × TVer) (mx my : Int) (w : World) (hx : x.2.ok) (hy : y.2.ok) (hz : z.2.ok) (h1 : O2 (vP x.2) (vP y.2) = 0) (h2 : O2 (vP y.2) (vP z.2) = 1) (h3 : O2 (vP x.2) (vP z.2) = 1) (cx : (verC x)[33]? = some (.int .i64 mx)) (cy : (verC y)[33]? = some (.int .i64 my)) (hxy : x.2.h = y.2.h ∧ (x.2.n : Int) = (y.2.n : Int)) (hn : mx = my) :
    Calls Try.prog 9 #[.agg (verC x).toArray, .agg (verC y).toArray, .agg (verC z).toArray] w fun e w' => e = .returned (.bool true) ∧ Below w.heap.size w w' := by
  have HS := Lib.hid (St.start w)
  have Hx := Lib.hid hx; have Hy := Lib.hid hy; have Hz := Lib.hid hz
  have H1 := Lib.hid h1; have H2 := Lib.hid h2; have H3 := Lib.hid h3
  have H4 := Lib.hid (show O2 (vP y.2) (vP x.2) = 0 by have h := O2_neg (vP x.2) (vP y.2); omega)
  have hq : ∀ W, (Op.equalIn 10000 44 (.agg (bs x.2.h ++ [Value.int .u32 (x.2.n : Int)]).toArray) (.agg (bs y.2.h ++ [Value.int .u32 (y.2.n : Int)]).toArray)).run Try.prog W = .ok true W := fun W => by
    have := eqPt 9997 x.2.h y.2.h (x.2.n : Int) (y.2.n : Int) hx.h hy.h W
    rwa [decide_eq_true hxy] at this
  subst hn
  clear hx hy hz h1 h2 h3 hxy 
  go_enter Try.func9, Try.ntmps9
  go_wp2_with (first
    | go_skip
    | (refine atd 3 (by rfl) ?_; refine wl (by rfl) (s_bx (l := verC x) HS.out (by rfl) (by rfl) ?_); intro b3 Wn hS; clear HS; have HS := Lib.hid hS; clear hS)
    | (refine atd 4 (by rfl) ?_; refine wl (by rfl) (s_bx (l := verC y) HS.out (by rfl) (by rfl) ?_); intro b4 Wn hS; clear HS; have HS := Lib.hid hS; clear hS)
    | (refine atd 5 (by rfl) ?_; refine wl (by rfl) (s_bx (l := verC z) HS.out (by rfl) (by rfl) ?_); intro b5 Wn hS; clear HS; have HS := Lib.hid hS; clear hS)
    | (go_at_call 37; refine (alive37 _).mono ?_; rintro e Wn ⟨rfl, hb⟩; have hS := HS.out.call hb; clear hb; clear HS; have HS := Lib.hid hS; clear hS))
  refine wp_region_pi [(0, true), (1, true), (3, true), (4, true), (6, true), (7, true), (2, false), (5, false), (8, false), (9, true), (10, true), (11, true)] (by kernel_rfl) (by kernel_rfl) rfl (by kernel_rfl) (fun _ _ _ _ _ h => h) (fun w' => St w w' [Blk b5 (verC z) 46, Blk b4 (verC y) 46, Blk b3 (verC x) 46] []) HS.out.drew ?_
  intro OPS hops
  have hS := HS.out.drew
  clear HS; have HS := Lib.hid hS; clear hS
  iterate 6
    first | (refine wpPi_yield _ (by rw [hops.out]; simp only [List.getElem?_toArray, List.getElem?_cons_succ, List.getElem?_cons_zero]; rfl) (by first | rfl | (rw [hops.out]; rfl)) (fun w' hS => by first | exact run_lda (n := 70) (cs := verC x) ag46 (by rfl) (by rfl) (hS.range (i := 2) rfl (by rw [verC_length Hx.out]; exact verC_all Hx.out)) (verC_length Hx.out) | exact run_lda (n := 70) (cs := verC y) ag46 (by rfl) (by rfl) (hS.range (i := 1) rfl (by rw [verC_length Hy.out]; exact verC_all Hy.out)) (verC_length Hy.out) | exact run_lda (n := 70) (cs := verC z) ag46 (by rfl) (by rfl) (hS.range (i := 0) rfl (by rw [verC_length Hz.out]; exact verC_all Hz.out)) (verC_length Hz.out) | (go_simp; rfl)) ?_; simp only [Act.put, List.setIfInBounds_toArray, List.set_cons_succ, List.set_cons_zero]) | (refine wpPi_skip (by rw [hops.out]; simp only [List.getElem?_toArray, List.getElem?_cons_succ, List.getElem?_cons_zero]; rfl) (by first | rfl | (rw [hops.out]; rfl)) ?_; simp only [Act.put, List.setIfInBounds_toArray, List.set_cons_succ, List.set_cons_zero])
  refine wpPi_act (by rw [hops.out]; simp only [List.getElem?_toArray, List.getElem?_cons_succ, List.getElem?_cons_zero]; rfl) (by first | rfl | (rw [hops.out]; rfl)) ?_
  go_simp
  refine (cmp24 x y _ Hx.out Hy.out (R := 0) H1.out).mono ?_
  rintro e Wn ⟨rfl, hb⟩
  have hS := HS.out.call hb
  clear HS; have HS := Lib.hid hS; clear hS
  clear hb
  refine ⟨HS.out, ?_⟩
  try simp only [Act.put, List.setIfInBounds_toArray, List.set_cons_succ, List.set_cons_zero]
  refine wpPi_act (by rw [hops.out]; simp only [List.getElem?_toArray, List.getElem?_cons_succ, List.getElem?_cons_zero]; rfl) (by first | rfl | (rw [hops.out]; rfl)) ?_
  go_simp
  refine (cmp24 y z _ Hy.out Hz.out (R := 1) H2.out).mono ?_
  rintro e Wn ⟨rfl, hb⟩
  have hS := HS.out.call hb
  clear HS; have HS := Lib.hid hS; clear hS
  clear hb
  refine ⟨HS.out, ?_⟩
  try simp only [Act.put, List.setIfInBounds_toArray, List.set_cons_succ, List.set_cons_zero]
  refine wpPi_act (by rw [hops.out]; simp only [List.getElem?_toArray, List.getElem?_cons_succ, List.getElem?_cons_zero]; rfl) (by first | rfl | (rw [hops.out]; rfl)) ?_
  go_simp
  refine (cmp24 x z _ Hx.out Hz.out (R := 1) H3.out).mono ?_
  rintro e Wn ⟨rfl, hb⟩
  have hS := HS.out.call hb
  clear HS; have HS := Lib.hid hS; clear hS
  clear hb
  refine ⟨HS.out, ?_⟩
  try simp only [Act.put, List.setIfInBounds_toArray, List.set_cons_succ, List.set_cons_zero]
  iterate 3
    first | (refine wpPi_yield _ (by rw [hops.out]; simp only [List.getElem?_toArray, List.getElem?_cons_succ, List.getElem?_cons_zero]; rfl) (by first | rfl | (rw [hops.out]; rfl)) (fun w' hS => by first | exact run_lda (n := 70) (cs := verC x) ag46 (by rfl) (by rfl) (hS.range (i := 2) rfl (by rw [verC_length Hx.out]; exact verC_all Hx.out)) (verC_length Hx.out) | exact run_lda (n := 70) (cs := verC y) ag46 (by rfl) (by rfl) (hS.range (i := 1) rfl (by rw [verC_length Hy.out]; exact verC_all Hy.out)) (verC_length Hy.out) | exact run_lda (n := 70) (cs := verC z) ag46 (by rfl) (by rfl) (hS.range (i := 0) rfl (by rw [verC_length Hz.out]; exact verC_all Hz.out)) (verC_length Hz.out) | (go_simp; rfl)) ?_; simp only [Act.put, List.setIfInBounds_toArray, List.set_cons_succ, List.set_cons_zero]) | (refine wpPi_skip (by rw [hops.out]; simp only [List.getElem?_toArray, List.getElem?_cons_succ, List.getElem?_cons_zero]; rfl) (by first | rfl | (rw [hops.out]; rfl)) ?_; simp only [Act.put, List.setIfInBounds_toArray, List.set_cons_succ, List.set_cons_zero])
  simp only [wpPi]
  clear OPS hops
  go_wp2_with (first
    | go_skip
    | (refine atd 54 (by rfl) ?_; refine wl (by rfl) (s_lda (cs := verC y) HS.out 1 70 (by rfl) (by rfl) (by rfl) ag46 (by exact verC_all Hy.out) (verC_length Hy.out) ?_))
    | (refine atd 55 (by rfl) ?_; refine wl (by rfl) (s_lda (cs := verC x) HS.out 2 70 (by rfl) (by rfl) (by rfl) ag46 (by exact verC_all Hx.out) (verC_length Hx.out) ?_))
    | (refine atd 65 (by rfl) ?_; refine wl (by rfl) (s_lda (cs := bs x.2.h ++ [Value.int .u32 (x.2.n : Int)]) HS.out 2 33 (by rfl) (by rfl) (by rfl) ag44 (by exact verC_pt Hx.out) (verC_pt33 Hx.out) ?_))
    | (refine atd 67 (by rfl) ?_; refine wl (by rfl) (s_lda (cs := bs y.2.h ++ [Value.int .u32 (y.2.n : Int)]) HS.out 1 33 (by rfl) (by rfl) (by rfl) ag44 (by exact verC_pt Hy.out) (verC_pt33 Hy.out) ?_))
    | (refine atd 71 (by rfl) ?_; refine wl (by rfl) (s_ld HS.out 2 (by rfl) (by rfl) (by rfl) (by kernel_rfl) (by exact cx) ?_))
    | (refine atd 73 (by rfl) ?_; refine wl (by rfl) (s_ld HS.out 1 (by rfl) (by rfl) (by rfl) (by kernel_rfl) (by exact cy) ?_))
    | (go_at_call 24; refine (cmp24 y x _ Hy.out Hx.out (R := 0) H4.out).mono ?_; rintro e Wn ⟨rfl, hb⟩; have hS := HS.out.call hb; clear hb; clear HS; have HS := Lib.hid hS; clear hS))
  go_ret
  exact ⟨rfl, HS.out.below⟩
end
section
open Go Go.RowKit Go.Proofs
attribute [local go_sem] Oper.semAt_some
attribute [local irreducible] Calls
attribute [local irreducible] verC O2 vP
set_option maxHeartbeats 1000000 in
set_option maxRecDepth 100000 in
theorem csorted_ppps (x y z : Value × TVer) (mx my : Int) (w : World) (hx : x.2.ok) (hy : y.2.ok) (hz : z.2.ok) (h1 : O2 (vP x.2) (vP y.2) = 1) (h2 : O2 (vP y.2) (vP z.2) = 1) (h3 : O2 (vP x.2) (vP z.2) = 1) (cx : (verC x)[33]? = some (.int .i64 mx)) (cy : (verC y)[33]? = some (.int .i64 my)) (hxy : x.2.h = y.2.h ∧ (x.2.n : Int) = (y.2.n : Int)) (hn : ¬ mx = my) :
    Calls Try.prog 9 #[.agg (verC x).toArray, .agg (verC y).toArray, .agg (verC z).toArray] w fun e w' => e = .returned (.bool true) ∧ Below w.heap.size w w' := by
  have HS := Lib.hid (St.start w)
  have Hx := Lib.hid hx; have Hy := Lib.hid hy; have Hz := Lib.hid hz
  have H1 := Lib.hid h1; have H2 := Lib.hid h2; have H3 := Lib.hid h3
  have H4 := Lib.hid (show O2 (vP y.2) (vP x.2) = -1 by have h := O2_neg (vP x.2) (vP y.2); omega)
  have hq : ∀ W, (Op.equalIn 10000 44 (.agg (bs x.2.h ++ [Value.int .u32 (x.2.n : Int)]).toArray) (.agg (bs y.2.h ++ [Value.int .u32 (y.2.n : Int)]).toArray)).run Try.prog W = .ok true W := fun W => by
    have := eqPt 9997 x.2.h y.2.h (x.2.n : Int) (y.2.n : Int) hx.h hy.h W
    rwa [decide_eq_true hxy] at this
  have k2 : (mx == my) = false := by rw [beq_eq_false_iff_ne]; exact hn
  clear hx hy hz h1 h2 h3 hxy hn
  go_enter Try.func9, Try.ntmps9
  go_wp2_with (first
    | go_skip
    | (refine atd 3 (by rfl) ?_; refine wl (by rfl) (s_bx (l := verC x) HS.out (by rfl) (by rfl) ?_); intro b3 Wn hS; clear HS; have HS := Lib.hid hS; clear hS)
    | (refine atd 4 (by rfl) ?_; refine wl (by rfl) (s_bx (l := verC y) HS.out (by rfl) (by rfl) ?_); intro b4 Wn hS; clear HS; have HS := Lib.hid hS; clear hS)
    | (refine atd 5 (by rfl) ?_; refine wl (by rfl) (s_bx (l := verC z) HS.out (by rfl) (by rfl) ?_); intro b5 Wn hS; clear HS; have HS := Lib.hid hS; clear hS)
    | (go_at_call 37; refine (alive37 _).mono ?_; rintro e Wn ⟨rfl, hb⟩; have hS := HS.out.call hb; clear hb; clear HS; have HS := Lib.hid hS; clear hS))
  refine wp_region_pi [(0, true), (1, true), (3, true), (4, true), (6, true), (7, true), (2, false), (5, false), (8, false), (9, true), (10, true), (11, true)] (by kernel_rfl) (by kernel_rfl) rfl (by kernel_rfl) (fun _ _ _ _ _ h => h) (fun w' => St w w' [Blk b5 (verC z) 46, Blk b4 (verC y) 46, Blk b3 (verC x) 46] []) HS.out.drew ?_
  intro OPS hops
  have hS := HS.out.drew
  clear HS; have HS := Lib.hid hS; clear hS
  iterate 6
    first | (refine wpPi_yield _ (by rw [hops.out]; simp only [List.getElem?_toArray, List.getElem?_cons_succ, List.getElem?_cons_zero]; rfl) (by first | rfl | (rw [hops.out]; rfl)) (fun w' hS => by first | exact run_lda (n := 70) (cs := verC x) ag46 (by rfl) (by rfl) (hS.range (i := 2) rfl (by rw [verC_length Hx.out]; exact verC_all Hx.out)) (verC_length Hx.out) | exact run_lda (n := 70) (cs := verC y) ag46 (by rfl) (by rfl) (hS.range (i := 1) rfl (by rw [verC_length Hy.out]; exact verC_all Hy.out)) (verC_length Hy.out) | exact run_lda (n := 70) (cs := verC z) ag46 (by rfl) (by rfl) (hS.range (i := 0) rfl (by rw [verC_length Hz.out]; exact verC_all Hz.out)) (verC_length Hz.out) | (go_simp; rfl)) ?_; simp only [Act.put, List.setIfInBounds_toArray, List.set_cons_succ, List.set_cons_zero]) | (refine wpPi_skip (by rw [hops.out]; simp only [List.getElem?_toArray, List.getElem?_cons_succ, List.getElem?_cons_zero]; rfl) (by first | rfl | (rw [hops.out]; rfl)) ?_; simp only [Act.put, List.setIfInBounds_toArray, List.set_cons_succ, List.set_cons_zero])
  refine wpPi_act (by rw [hops.out]; simp only [List.getElem?_toArray, List.getElem?_cons_succ, List.getElem?_cons_zero]; rfl) (by first | rfl | (rw [hops.out]; rfl)) ?_
  go_simp
  refine (cmp24 x y _ Hx.out Hy.out (R := 1) H1.out).mono ?_
  rintro e Wn ⟨rfl, hb⟩
  have hS := HS.out.call hb
  clear HS; have HS := Lib.hid hS; clear hS
  clear hb
  refine ⟨HS.out, ?_⟩
  try simp only [Act.put, List.setIfInBounds_toArray, List.set_cons_succ, List.set_cons_zero]
  refine wpPi_act (by rw [hops.out]; simp only [List.getElem?_toArray, List.getElem?_cons_succ, List.getElem?_cons_zero]; rfl) (by first | rfl | (rw [hops.out]; rfl)) ?_
  go_simp
  refine (cmp24 y z _ Hy.out Hz.out (R := 1) H2.out).mono ?_
  rintro e Wn ⟨rfl, hb⟩
  have hS := HS.out.call hb
  clear HS; have HS := Lib.hid hS; clear hS
  clear hb
  refine ⟨HS.out, ?_⟩
  try simp only [Act.put, List.setIfInBounds_toArray, List.set_cons_succ, List.set_cons_zero]
  refine wpPi_act (by rw [hops.out]; simp only [List.getElem?_toArray, List.getElem?_cons_succ, List.getElem?_cons_zero]; rfl) (by first | rfl | (rw [hops.out]; rfl)) ?_
  go_simp
  refine (cmp24 x z _ Hx.out Hz.out (R := 1) H3.out).mono ?_
  rintro e Wn ⟨rfl, hb⟩
  have hS := HS.out.call hb
  clear HS; have HS := Lib.hid hS; clear hS
  clear hb
  refine ⟨HS.out, ?_⟩
  try simp only [Act.put, List.setIfInBounds_toArray, List.set_cons_succ, List.set_cons_zero]
  iterate 3
    first | (refine wpPi_yield _ (by rw [hops.out]; simp only [List.getElem?_toArray, List.getElem?_cons_succ, List.getElem?_cons_zero]; rfl) (by first | rfl | (rw [hops.out]; rfl)) (fun w' hS => by first | exact run_lda (n := 70) (cs := verC x) ag46 (by rfl) (by rfl) (hS.range (i := 2) rfl (by rw [verC_length Hx.out]; exact verC_all Hx.out)) (verC_length Hx.out) | exact run_lda (n := 70) (cs := verC y) ag46 (by rfl) (by rfl) (hS.range (i := 1) rfl (by rw [verC_length Hy.out]; exact verC_all Hy.out)) (verC_length Hy.out) | exact run_lda (n := 70) (cs := verC z) ag46 (by rfl) (by rfl) (hS.range (i := 0) rfl (by rw [verC_length Hz.out]; exact verC_all Hz.out)) (verC_length Hz.out) | (go_simp; rfl)) ?_; simp only [Act.put, List.setIfInBounds_toArray, List.set_cons_succ, List.set_cons_zero]) | (refine wpPi_skip (by rw [hops.out]; simp only [List.getElem?_toArray, List.getElem?_cons_succ, List.getElem?_cons_zero]; rfl) (by first | rfl | (rw [hops.out]; rfl)) ?_; simp only [Act.put, List.setIfInBounds_toArray, List.set_cons_succ, List.set_cons_zero])
  simp only [wpPi]
  clear OPS hops
  go_wp2_with (first
    | go_skip
    | (refine atd 54 (by rfl) ?_; refine wl (by rfl) (s_lda (cs := verC y) HS.out 1 70 (by rfl) (by rfl) (by rfl) ag46 (by exact verC_all Hy.out) (verC_length Hy.out) ?_))
    | (refine atd 55 (by rfl) ?_; refine wl (by rfl) (s_lda (cs := verC x) HS.out 2 70 (by rfl) (by rfl) (by rfl) ag46 (by exact verC_all Hx.out) (verC_length Hx.out) ?_))
    | (refine atd 65 (by rfl) ?_; refine wl (by rfl) (s_lda (cs := bs x.2.h ++ [Value.int .u32 (x.2.n : Int)]) HS.out 2 33 (by rfl) (by rfl) (by rfl) ag44 (by exact verC_pt Hx.out) (verC_pt33 Hx.out) ?_))
    | (refine atd 67 (by rfl) ?_; refine wl (by rfl) (s_lda (cs := bs y.2.h ++ [Value.int .u32 (y.2.n : Int)]) HS.out 1 33 (by rfl) (by rfl) (by rfl) ag44 (by exact verC_pt Hy.out) (verC_pt33 Hy.out) ?_))
    | (refine atd 71 (by rfl) ?_; refine wl (by rfl) (s_ld HS.out 2 (by rfl) (by rfl) (by rfl) (by kernel_rfl) (by exact cx) ?_))
    | (refine atd 73 (by rfl) ?_; refine wl (by rfl) (s_ld HS.out 1 (by rfl) (by rfl) (by rfl) (by kernel_rfl) (by exact cy) ?_))
    | (go_at_call 24; refine (cmp24 y x _ Hy.out Hx.out (R := -1) H4.out).mono ?_; rintro e Wn ⟨rfl, hb⟩; have hS := HS.out.call hb; clear hb; clear HS; have HS := Lib.hid hS; clear hS))
  go_ret
  exact ⟨rfl, HS.out.below⟩
set_option maxHeartbeats 1000000 in
set_option maxRecDepth 100000 in
theorem csorted_pppd (x y z : Value × TVer) (mx my : Int) (w : World) (hx : x.2.ok) (hy : y.2.ok) (hz : z.2.ok) (h1 : O2 (vP x.2) (vP y.2) = 1) (h2 : O2 (vP y.2) (vP z.2) = 1) (h3 : O2 (vP x.2) (vP z.2) = 1) (cx : (verC x)[33]? = some (.int .i64 mx)) (cy : (verC y)[33]? = some (.int .i64 my)) (hxy : ¬ (x.2.h = y.2.h ∧ (x.2.n : Int) = (y.2.n : Int))) :
    Calls Try.prog 9 #[.agg (verC x).toArray, .agg (verC y).toArray, .agg (verC z).toArray] w fun e w' => e = .returned (.bool true) ∧ Below w.heap.size w w' := by
  have HS := Lib.hid (St.start w)
  have Hx := Lib.hid hx; have Hy := Lib.hid hy; have Hz := Lib.hid hz
  have H1 := Lib.hid h1; have H2 := Lib.hid h2; have H3 := Lib.hid h3
  have H4 := Lib.hid (show O2 (vP y.2) (vP x.2) = -1 by have h := O2_neg (vP x.2) (vP y.2); omega)
  have hq : ∀ W, (Op.equalIn 10000 44 (.agg (bs x.2.h ++ [Value.int .u32 (x.2.n : Int)]).toArray) (.agg (bs y.2.h ++ [Value.int .u32 (y.2.n : Int)]).toArray)).run Try.prog W = .ok false W := fun W => by
    have := eqPt 9997 x.2.h y.2.h (x.2.n : Int) (y.2.n : Int) hx.h hy.h W
    rwa [decide_eq_false hxy] at this
  clear hx hy hz h1 h2 h3 hxy 
  go_enter Try.func9, Try.ntmps9
  go_wp2_with (first
    | go_skip
    | (refine atd 3 (by rfl) ?_; refine wl (by rfl) (s_bx (l := verC x) HS.out (by rfl) (by rfl) ?_); intro b3 Wn hS; clear HS; have HS := Lib.hid hS; clear hS)
    | (refine atd 4 (by rfl) ?_; refine wl (by rfl) (s_bx (l := verC y) HS.out (by rfl) (by rfl) ?_); intro b4 Wn hS; clear HS; have HS := Lib.hid hS; clear hS)
    | (refine atd 5 (by rfl) ?_; refine wl (by rfl) (s_bx (l := verC z) HS.out (by rfl) (by rfl) ?_); intro b5 Wn hS; clear HS; have HS := Lib.hid hS; clear hS)
    | (go_at_call 37; refine (alive37 _).mono ?_; rintro e Wn ⟨rfl, hb⟩; have hS := HS.out.call hb; clear hb; clear HS; have HS := Lib.hid hS; clear hS))
  refine wp_region_pi [(0, true), (1, true), (3, true), (4, true), (6, true), (7, true), (2, false), (5, false), (8, false), (9, true), (10, true), (11, true)] (by kernel_rfl) (by kernel_rfl) rfl (by kernel_rfl) (fun _ _ _ _ _ h => h) (fun w' => St w w' [Blk b5 (verC z) 46, Blk b4 (verC y) 46, Blk b3 (verC x) 46] []) HS.out.drew ?_
  intro OPS hops
  have hS := HS.out.drew
  clear HS; have HS := Lib.hid hS; clear hS
  iterate 6
    first | (refine wpPi_yield _ (by rw [hops.out]; simp only [List.getElem?_toArray, List.getElem?_cons_succ, List.getElem?_cons_zero]; rfl) (by first | rfl | (rw [hops.out]; rfl)) (fun w' hS => by first | exact run_lda (n := 70) (cs := verC x) ag46 (by rfl) (by rfl) (hS.range (i := 2) rfl (by rw [verC_length Hx.out]; exact verC_all Hx.out)) (verC_length Hx.out) | exact run_lda (n := 70) (cs := verC y) ag46 (by rfl) (by rfl) (hS.range (i := 1) rfl (by rw [verC_length Hy.out]; exact verC_all Hy.out)) (verC_length Hy.out) | exact run_lda (n := 70) (cs := verC z) ag46 (by rfl) (by rfl) (hS.range (i := 0) rfl (by rw [verC_length Hz.out]; exact verC_all Hz.out)) (verC_length Hz.out) | (go_simp; rfl)) ?_; simp only [Act.put, List.setIfInBounds_toArray, List.set_cons_succ, List.set_cons_zero]) | (refine wpPi_skip (by rw [hops.out]; simp only [List.getElem?_toArray, List.getElem?_cons_succ, List.getElem?_cons_zero]; rfl) (by first | rfl | (rw [hops.out]; rfl)) ?_; simp only [Act.put, List.setIfInBounds_toArray, List.set_cons_succ, List.set_cons_zero])
  refine wpPi_act (by rw [hops.out]; simp only [List.getElem?_toArray, List.getElem?_cons_succ, List.getElem?_cons_zero]; rfl) (by first | rfl | (rw [hops.out]; rfl)) ?_
  go_simp
  refine (cmp24 x y _ Hx.out Hy.out (R := 1) H1.out).mono ?_
  rintro e Wn ⟨rfl, hb⟩
  have hS := HS.out.call hb
  clear HS; have HS := Lib.hid hS; clear hS
  clear hb
  refine ⟨HS.out, ?_⟩
  try simp only [Act.put, List.setIfInBounds_toArray, List.set_cons_succ, List.set_cons_zero]
  refine wpPi_act (by rw [hops.out]; simp only [List.getElem?_toArray, List.getElem?_cons_succ, List.getElem?_cons_zero]; rfl) (by first | rfl | (rw [hops.out]; rfl)) ?_
  go_simp
  refine (cmp24 y z _ Hy.out Hz.out (R := 1) H2.out).mono ?_
  rintro e Wn ⟨rfl, hb⟩
  have hS := HS.out.call hb
  clear HS; have HS := Lib.hid hS; clear hS
  clear hb
  refine ⟨HS.out, ?_⟩
  try simp only [Act.put, List.setIfInBounds_toArray, List.set_cons_succ, List.set_cons_zero]
  refine wpPi_act (by rw [hops.out]; simp only [List.getElem?_toArray, List.getElem?_cons_succ, List.getElem?_cons_zero]; rfl) (by first | rfl | (rw [hops.out]; rfl)) ?_
  go_simp
  refine (cmp24 x z _ Hx.out Hz.out (R := 1) H3.out).mono ?_
  rintro e Wn ⟨rfl, hb⟩
  have hS := HS.out.call hb
  clear HS; have HS := Lib.hid hS; clear hS
  clear hb
  refine ⟨HS.out, ?_⟩
  try simp only [Act.put, List.setIfInBounds_toArray, List.set_cons_succ, List.set_cons_zero]
  iterate 3
    first | (refine wpPi_yield _ (by rw [hops.out]; simp only [List.getElem?_toArray, List.getElem?_cons_succ, List.getElem?_cons_zero]; rfl) (by first | rfl | (rw [hops.out]; rfl)) (fun w' hS => by first | exact run_lda (n := 70) (cs := verC x) ag46 (by rfl) (by rfl) (hS.range (i := 2) rfl (by rw [verC_length Hx.out]; exact verC_all Hx.out)) (verC_length Hx.out) | exact run_lda (n := 70) (cs := verC y) ag46 (by rfl) (by rfl) (hS.range (i := 1) rfl (by rw [verC_length Hy.out]; exact verC_all Hy.out)) (verC_length Hy.out) | exact run_lda (n := 70) (cs := verC z) ag46 (by rfl) (by rfl) (hS.range (i := 0) rfl (by rw [verC_length Hz.out]; exact verC_all Hz.out)) (verC_length Hz.out) | (go_simp; rfl)) ?_; simp only [Act.put, List.setIfInBounds_toArray, List.set_cons_succ, List.set_cons_zero]) | (refine wpPi_skip (by rw [hops.out]; simp only [List.getElem?_toArray, List.getElem?_cons_succ, List.getElem?_cons_zero]; rfl) (by first | rfl | (rw [hops.out]; rfl)) ?_; simp only [Act.put, List.setIfInBounds_toArray, List.set_cons_succ, List.set_cons_zero])
  simp only [wpPi]
  clear OPS hops
  go_wp2_with (first
    | go_skip
    | (refine atd 54 (by rfl) ?_; refine wl (by rfl) (s_lda (cs := verC y) HS.out 1 70 (by rfl) (by rfl) (by rfl) ag46 (by exact verC_all Hy.out) (verC_length Hy.out) ?_))
    | (refine atd 55 (by rfl) ?_; refine wl (by rfl) (s_lda (cs := verC x) HS.out 2 70 (by rfl) (by rfl) (by rfl) ag46 (by exact verC_all Hx.out) (verC_length Hx.out) ?_))
    | (refine atd 65 (by rfl) ?_; refine wl (by rfl) (s_lda (cs := bs x.2.h ++ [Value.int .u32 (x.2.n : Int)]) HS.out 2 33 (by rfl) (by rfl) (by rfl) ag44 (by exact verC_pt Hx.out) (verC_pt33 Hx.out) ?_))
    | (refine atd 67 (by rfl) ?_; refine wl (by rfl) (s_lda (cs := bs y.2.h ++ [Value.int .u32 (y.2.n : Int)]) HS.out 1 33 (by rfl) (by rfl) (by rfl) ag44 (by exact verC_pt Hy.out) (verC_pt33 Hy.out) ?_))
    | (refine atd 71 (by rfl) ?_; refine wl (by rfl) (s_ld HS.out 2 (by rfl) (by rfl) (by rfl) (by kernel_rfl) (by exact cx) ?_))
    | (refine atd 73 (by rfl) ?_; refine wl (by rfl) (s_ld HS.out 1 (by rfl) (by rfl) (by rfl) (by kernel_rfl) (by exact cy) ?_))
    | (go_at_call 24; refine (cmp24 y x _ Hy.out Hx.out (R := -1) H4.out).mono ?_; rintro e Wn ⟨rfl, hb⟩; have hS := HS.out.call hb; clear hb; clear HS; have HS := Lib.hid hS; clear hS))
  go_ret
  exact ⟨rfl, HS.out.below⟩
set_option maxHeartbeats 1000000 in
set_option maxRecDepth 100000 in
theorem csorted_pzps (x y z : Value × TVer) (mx my : Int) (w : World) (hx : x.2.ok) (hy : y.2.ok) (hz : z.2.ok) (h1 : O2 (vP x.2) (vP y.2) = 1) (h2 : O2 (vP y.2) (vP z.2) = 0) (h3 : O2 (vP x.2) (vP z.2) = 1) (cx : (verC x)[33]? = some (.int .i64 mx)) (cy : (verC y)[33]? = some (.int .i64 my)) (hxy : x.2.h = y.2.h ∧ (x.2.n : Int) = (y.2.n : Int)) (hn : ¬ mx = my) :
    Calls Try.prog 9 #[.agg (verC x).toArray, .agg (verC y).toArray, .agg (verC z).toArray] w fun e w' => e = .returned (.bool true) ∧ Below w.heap.size w w' := by
  have HS := Lib.hid (St.start w)
  have Hx := Lib.hid hx; have Hy := Lib.hid hy; have Hz := Lib.hid hz
  have H1 := Lib.hid h1; have H2 := Lib.hid h2; have H3 := Lib.hid h3
  have H4 := Lib.hid (show O2 (vP y.2) (vP x.2) = -1 by have h := O2_neg (vP x.2) (vP y.2); omega)
  have hq : ∀ W, (Op.equalIn 10000 44 (.agg (bs x.2.h ++ [Value.int .u32 (x.2.n : Int)]).toArray) (.agg (bs y.2.h ++ [Value.int .u32 (y.2.n : Int)]).toArray)).run Try.prog W = .ok true W := fun W => by
    have := eqPt 9997 x.2.h y.2.h (x.2.n : Int) (y.2.n : Int) hx.h hy.h W
    rwa [decide_eq_true hxy] at this
  have k2 : (mx == my) = false := by rw [beq_eq_false_iff_ne]; exact hn
  clear hx hy hz h1 h2 h3 hxy hn
  go_enter Try.func9, Try.ntmps9
  go_wp2_with (first
    | go_skip
    | (refine atd 3 (by rfl) ?_; refine wl (by rfl) (s_bx (l := verC x) HS.out (by rfl) (by rfl) ?_); intro b3 Wn hS; clear HS; have HS := Lib.hid hS; clear hS)
    | (refine atd 4 (by rfl) ?_; refine wl (by rfl) (s_bx (l := verC y) HS.out (by rfl) (by rfl) ?_); intro b4 Wn hS; clear HS; have HS := Lib.hid hS; clear hS)
    | (refine atd 5 (by rfl) ?_; refine wl (by rfl) (s_bx (l := verC z) HS.out (by rfl) (by rfl) ?_); intro b5 Wn hS; clear HS; have HS := Lib.hid hS; clear hS)
    | (go_at_call 37; refine (alive37 _).mono ?_; rintro e Wn ⟨rfl, hb⟩; have hS := HS.out.call hb; clear hb; clear HS; have HS := Lib.hid hS; clear hS))
  refine wp_region_pi [(0, true), (1, true), (3, true), (4, true), (6, true), (7, true), (2, false), (5, false), (8, false), (9, true), (10, true), (11, true)] (by kernel_rfl) (by kernel_rfl) rfl (by kernel_rfl) (fun _ _ _ _ _ h => h) (fun w' => St w w' [Blk b5 (verC z) 46, Blk b4 (verC y) 46, Blk b3 (verC x) 46] []) HS.out.drew ?_
  intro OPS hops
  have hS := HS.out.drew
  clear HS; have HS := Lib.hid hS; clear hS
  iterate 6
    first | (refine wpPi_yield _ (by rw [hops.out]; simp only [List.getElem?_toArray, List.getElem?_cons_succ, List.getElem?_cons_zero]; rfl) (by first | rfl | (rw [hops.out]; rfl)) (fun w' hS => by first | exact run_lda (n := 70) (cs := verC x) ag46 (by rfl) (by rfl) (hS.range (i := 2) rfl (by rw [verC_length Hx.out]; exact verC_all Hx.out)) (verC_length Hx.out) | exact run_lda (n := 70) (cs := verC y) ag46 (by rfl) (by rfl) (hS.range (i := 1) rfl (by rw [verC_length Hy.out]; exact verC_all Hy.out)) (verC_length Hy.out) | exact run_lda (n := 70) (cs := verC z) ag46 (by rfl) (by rfl) (hS.range (i := 0) rfl (by rw [verC_length Hz.out]; exact verC_all Hz.out)) (verC_length Hz.out) | (go_simp; rfl)) ?_; simp only [Act.put, List.setIfInBounds_toArray, List.set_cons_succ, List.set_cons_zero]) | (refine wpPi_skip (by rw [hops.out]; simp only [List.getElem?_toArray, List.getElem?_cons_succ, List.getElem?_cons_zero]; rfl) (by first | rfl | (rw [hops.out]; rfl)) ?_; simp only [Act.put, List.setIfInBounds_toArray, List.set_cons_succ, List.set_cons_zero])
  refine wpPi_act (by rw [hops.out]; simp only [List.getElem?_toArray, List.getElem?_cons_succ, List.getElem?_cons_zero]; rfl) (by first | rfl | (rw [hops.out]; rfl)) ?_
  go_simp
  refine (cmp24 x y _ Hx.out Hy.out (R := 1) H1.out).mono ?_
  rintro e Wn ⟨rfl, hb⟩
  have hS := HS.out.call hb
  clear HS; have HS := Lib.hid hS; clear hS
  clear hb
  refine ⟨HS.out, ?_⟩
  try simp only [Act.put, List.setIfInBounds_toArray, List.set_cons_succ, List.set_cons_zero]
  refine wpPi_act (by rw [hops.out]; simp only [List.getElem?_toArray, List.getElem?_cons_succ, List.getElem?_cons_zero]; rfl) (by first | rfl | (rw [hops.out]; rfl)) ?_
  go_simp
  refine (cmp24 y z _ Hy.out Hz.out (R := 0) H2.out).mono ?_
  rintro e Wn ⟨rfl, hb⟩
  have hS := HS.out.call hb
  clear HS; have HS := Lib.hid hS; clear hS
  clear hb
  refine ⟨HS.out, ?_⟩
  try simp only [Act.put, List.setIfInBounds_toArray, List.set_cons_succ, List.set_cons_zero]
  refine wpPi_act (by rw [hops.out]; simp only [List.getElem?_toArray, List.getElem?_cons_succ, List.getElem?_cons_zero]; rfl) (by first | rfl | (rw [hops.out]; rfl)) ?_
  go_simp
  refine (cmp24 x z _ Hx.out Hz.out (R := 1) H3.out).mono ?_
  rintro e Wn ⟨rfl, hb⟩
  have hS := HS.out.call hb
  clear HS; have HS := Lib.hid hS; clear hS
  clear hb
  refine ⟨HS.out, ?_⟩
  try simp only [Act.put, List.setIfInBounds_toArray, List.set_cons_succ, List.set_cons_zero]
  iterate 3
    first | (refine wpPi_yield _ (by rw [hops.out]; simp only [List.getElem?_toArray, List.getElem?_cons_succ, List.getElem?_cons_zero]; rfl) (by first | rfl | (rw [hops.out]; rfl)) (fun w' hS => by first | exact run_lda (n := 70) (cs := verC x) ag46 (by rfl) (by rfl) (hS.range (i := 2) rfl (by rw [verC_length Hx.out]; exact verC_all Hx.out)) (verC_length Hx.out) | exact run_lda (n := 70) (cs := verC y) ag46 (by rfl) (by rfl) (hS.range (i := 1) rfl (by rw [verC_length Hy.out]; exact verC_all Hy.out)) (verC_length Hy.out) | exact run_lda (n := 70) (cs := verC z) ag46 (by rfl) (by rfl) (hS.range (i := 0) rfl (by rw [verC_length Hz.out]; exact verC_all Hz.out)) (verC_length Hz.out) | (go_simp; rfl)) ?_; simp only [Act.put, List.setIfInBounds_toArray, List.set_cons_succ, List.set_cons_zero]) | (refine wpPi_skip (by rw [hops.out]; simp only [List.getElem?_toArray, List.getElem?_cons_succ, List.getElem?_cons_zero]; rfl) (by first | rfl | (rw [hops.out]; rfl)) ?_; simp only [Act.put, List.setIfInBounds_toArray, List.set_cons_succ, List.set_cons_zero])
  simp only [wpPi]
  clear OPS hops
  go_wp2_with (first
    | go_skip
    | (refine atd 54 (by rfl) ?_; refine wl (by rfl) (s_lda (cs := verC y) HS.out 1 70 (by rfl) (by rfl) (by rfl) ag46 (by exact verC_all Hy.out) (verC_length Hy.out) ?_))
    | (refine atd 55 (by rfl) ?_; refine wl (by rfl) (s_lda (cs := verC x) HS.out 2 70 (by rfl) (by rfl) (by rfl) ag46 (by exact verC_all Hx.out) (verC_length Hx.out) ?_))
    | (refine atd 65 (by rfl) ?_; refine wl (by rfl) (s_lda (cs := bs x.2.h ++ [Value.int .u32 (x.2.n : Int)]) HS.out 2 33 (by rfl) (by rfl) (by rfl) ag44 (by exact verC_pt Hx.out) (verC_pt33 Hx.out) ?_))
    | (refine atd 67 (by rfl) ?_; refine wl (by rfl) (s_lda (cs := bs y.2.h ++ [Value.int .u32 (y.2.n : Int)]) HS.out 1 33 (by rfl) (by rfl) (by rfl) ag44 (by exact verC_pt Hy.out) (verC_pt33 Hy.out) ?_))
    | (refine atd 71 (by rfl) ?_; refine wl (by rfl) (s_ld HS.out 2 (by rfl) (by rfl) (by rfl) (by kernel_rfl) (by exact cx) ?_))
    | (refine atd 73 (by rfl) ?_; refine wl (by rfl) (s_ld HS.out 1 (by rfl) (by rfl) (by rfl) (by kernel_rfl) (by exact cy) ?_))
    | (go_at_call 24; refine (cmp24 y x _ Hy.out Hx.out (R := -1) H4.out).mono ?_; rintro e Wn ⟨rfl, hb⟩; have hS := HS.out.call hb; clear hb; clear HS; have HS := Lib.hid hS; clear hS))
  go_ret
  exact ⟨rfl, HS.out.below⟩
set_option maxHeartbeats 1000000 in
set_option maxRecDepth 100000 in
theorem csorted_pzpd (x y z : Value × TVer) (mx my : Int) (w : World) (hx : x.2.ok) (hy : y.2.ok) (hz : z.2.ok) (h1 : O2 (vP x.2) (vP y.2) = 1) (h2 : O2 (vP y.2) (vP z.2) = 0) (h3 : O2 (vP x.2) (vP z.2) = 1) (cx : (verC x)[33]? = some (.int .i64 mx)) (cy : (verC y)[33]? = some (.int .i64 my)) (hxy : ¬ (x.2.h = y.2.h ∧ (x.2.n : Int) = (y.2.n : Int))) :
    Calls Try.prog 9 #[.agg (verC x).toArray, .agg (verC y).toArray, .agg (verC z).toArray] w fun e w' => e = .returned (.bool true) ∧ Below w.heap.size w w' := by
  have HS := Lib.hid (St.start w)
  have Hx := Lib.hid hx; have Hy := Lib.hid hy; have Hz := Lib.hid hz
  have H1 := Lib.hid h1; have H2 := Lib.hid h2; have H3 := Lib.hid h3
  have H4 := Lib.hid (show O2 (vP y.2) (vP x.2) = -1 by have h := O2_neg (vP x.2) (vP y.2); omega)
  have hq : ∀ W, (Op.equalIn 10000 44 (.agg (bs x.2.h ++ [Value.int .u32 (x.2.n : Int)]).toArray) (.agg (bs y.2.h ++ [Value.int .u32 (y.2.n : Int)]).toArray)).run Try.prog W = .ok false W := fun W => by
    have := eqPt 9997 x.2.h y.2.h (x.2.n : Int) (y.2.n : Int) hx.h hy.h W
    rwa [decide_eq_false hxy] at this
  clear hx hy hz h1 h2 h3 hxy 
  go_enter Try.func9, Try.ntmps9
  go_wp2_with (first
    | go_skip
    | (refine atd 3 (by rfl) ?_; refine wl (by rfl) (s_bx (l := verC x) HS.out (by rfl) (by rfl) ?_); intro b3 Wn hS; clear HS; have HS := Lib.hid hS; clear hS)
    | (refine atd 4 (by rfl) ?_; refine wl (by rfl) (s_bx (l := verC y) HS.out (by rfl) (by rfl) ?_); intro b4 Wn hS; clear HS; have HS := Lib.hid hS; clear hS)
    | (refine atd 5 (by rfl) ?_; refine wl (by rfl) (s_bx (l := verC z) HS.out (by rfl) (by rfl) ?_); intro b5 Wn hS; clear HS; have HS := Lib.hid hS; clear hS)
    | (go_at_call 37; refine (alive37 _).mono ?_; rintro e Wn ⟨rfl, hb⟩; have hS := HS.out.call hb; clear hb; clear HS; have HS := Lib.hid hS; clear hS))
  refine wp_region_pi [(0, true), (1, true), (3, true), (4, true), (6, true), (7, true), (2, false), (5, false), (8, false), (9, true), (10, true), (11, true)] (by kernel_rfl) (by kernel_rfl) rfl (by kernel_rfl) (fun _ _ _ _ _ h => h) (fun w' => St w w' [Blk b5 (verC z) 46, Blk b4 (verC y) 46, Blk b3 (verC x) 46] []) HS.out.drew ?_
  intro OPS hops
  have hS := HS.out.drew
  clear HS; have HS := Lib.hid hS; clear hS
  iterate 6
    first | (refine wpPi_yield _ (by rw [hops.out]; simp only [List.getElem?_toArray, List.getElem?_cons_succ, List.getElem?_cons_zero]; rfl) (by first | rfl | (rw [hops.out]; rfl)) (fun w' hS => by first | exact run_lda (n := 70) (cs := verC x) ag46 (by rfl) (by rfl) (hS.range (i := 2) rfl (by rw [verC_length Hx.out]; exact verC_all Hx.out)) (verC_length Hx.out) | exact run_lda (n := 70) (cs := verC y) ag46 (by rfl) (by rfl) (hS.range (i := 1) rfl (by rw [verC_length Hy.out]; exact verC_all Hy.out)) (verC_length Hy.out) | exact run_lda (n := 70) (cs := verC z) ag46 (by rfl) (by rfl) (hS.range (i := 0) rfl (by rw [verC_length Hz.out]; exact verC_all Hz.out)) (verC_length Hz.out) | (go_simp; rfl)) ?_; simp only [Act.put, List.setIfInBounds_toArray, List.set_cons_succ, List.set_cons_zero]) | (refine wpPi_skip (by rw [hops.out]; simp only [List.getElem?_toArray, List.getElem?_cons_succ, List.getElem?_cons_zero]; rfl) (by first | rfl | (rw [hops.out]; rfl)) ?_; simp only [Act.put, List.setIfInBounds_toArray, List.set_cons_succ, List.set_cons_zero])
  refine wpPi_act (by rw [hops.out]; simp only [List.getElem?_toArray, List.getElem?_cons_succ, List.getElem?_cons_zero]; rfl) (by first | rfl | (rw [hops.out]; rfl)) ?_
  go_simp
  refine (cmp24 x y _ Hx.out Hy.out (R := 1) H1.out).mono ?_
  rintro e Wn ⟨rfl, hb⟩
  have hS := HS.out.call hb
  clear HS; have HS := Lib.hid hS; clear hS
  clear hb
  refine ⟨HS.out, ?_⟩
  try simp only [Act.put, List.setIfInBounds_toArray, List.set_cons_succ, List.set_cons_zero]
  refine wpPi_act (by rw [hops.out]; simp only [List.getElem?_toArray, List.getElem?_cons_succ, List.getElem?_cons_zero]; rfl) (by first | rfl | (rw [hops.out]; rfl)) ?_
  go_simp
  refine (cmp24 y z _ Hy.out Hz.out (R := 0) H2.out).mono ?_
  rintro e Wn ⟨rfl, hb⟩
  have hS := HS.out.call hb
  clear HS; have HS := Lib.hid hS; clear hS
  clear hb
  refine ⟨HS.out, ?_⟩
  try simp only [Act.put, List.setIfInBounds_toArray, List.set_cons_succ, List.set_cons_zero]
  refine wpPi_act (by rw [hops.out]; simp only [List.getElem?_toArray, List.getElem?_cons_succ, List.getElem?_cons_zero]; rfl) (by first | rfl | (rw [hops.out]; rfl)) ?_
  go_simp
  refine (cmp24 x z _ Hx.out Hz.out (R := 1) H3.out).mono ?_
  rintro e Wn ⟨rfl, hb⟩
  have hS := HS.out.call hb
  clear HS; have HS := Lib.hid hS; clear hS
  clear hb
  refine ⟨HS.out, ?_⟩
  try simp only [Act.put, List.setIfInBounds_toArray, List.set_cons_succ, List.set_cons_zero]
  iterate 3
    first | (refine wpPi_yield _ (by rw [hops.out]; simp only [List.getElem?_toArray, List.getElem?_cons_succ, List.getElem?_cons_zero]; rfl) (by first | rfl | (rw [hops.out]; rfl)) (fun w' hS => by first | exact run_lda (n := 70) (cs := verC x) ag46 (by rfl) (by rfl) (hS.range (i := 2) rfl (by rw [verC_length Hx.out]; exact verC_all Hx.out)) (verC_length Hx.out) | exact run_lda (n := 70) (cs := verC y) ag46 (by rfl) (by rfl) (hS.range (i := 1) rfl (by rw [verC_length Hy.out]; exact verC_all Hy.out)) (verC_length Hy.out) | exact run_lda (n := 70) (cs := verC z) ag46 (by rfl) (by rfl) (hS.range (i := 0) rfl (by rw [verC_length Hz.out]; exact verC_all Hz.out)) (verC_length Hz.out) | (go_simp; rfl)) ?_; simp only [Act.put, List.setIfInBounds_toArray, List.set_cons_succ, List.set_cons_zero]) | (refine wpPi_skip (by rw [hops.out]; simp only [List.getElem?_toArray, List.getElem?_cons_succ, List.getElem?_cons_zero]; rfl) (by first | rfl | (rw [hops.out]; rfl)) ?_; simp only [Act.put, List.setIfInBounds_toArray, List.set_cons_succ, List.set_cons_zero])
  simp only [wpPi]
  clear OPS hops
  go_wp2_with (first
    | go_skip
    | (refine atd 54 (by rfl) ?_; refine wl (by rfl) (s_lda (cs := verC y) HS.out 1 70 (by rfl) (by rfl) (by rfl) ag46 (by exact verC_all Hy.out) (verC_length Hy.out) ?_))
    | (refine atd 55 (by rfl) ?_; refine wl (by rfl) (s_lda (cs := verC x) HS.out 2 70 (by rfl) (by rfl) (by rfl) ag46 (by exact verC_all Hx.out) (verC_length Hx.out) ?_))
    | (refine atd 65 (by rfl) ?_; refine wl (by rfl) (s_lda (cs := bs x.2.h ++ [Value.int .u32 (x.2.n : Int)]) HS.out 2 33 (by rfl) (by rfl) (by rfl) ag44 (by exact verC_pt Hx.out) (verC_pt33 Hx.out) ?_))
    | (refine atd 67 (by rfl) ?_; refine wl (by rfl) (s_lda (cs := bs y.2.h ++ [Value.int .u32 (y.2.n : Int)]) HS.out 1 33 (by rfl) (by rfl) (by rfl) ag44 (by exact verC_pt Hy.out) (verC_pt33 Hy.out) ?_))
    | (refine atd 71 (by rfl) ?_; refine wl (by rfl) (s_ld HS.out 2 (by rfl) (by rfl) (by rfl) (by kernel_rfl) (by exact cx) ?_))
    | (refine atd 73 (by rfl) ?_; refine wl (by rfl) (s_ld HS.out 1 (by rfl) (by rfl) (by rfl) (by kernel_rfl) (by exact cy) ?_))
    | (go_at_call 24; refine (cmp24 y x _ Hy.out Hx.out (R := -1) H4.out).mono ?_; rintro e Wn ⟨rfl, hb⟩; have hS := HS.out.call hb; clear hb; clear HS; have HS := Lib.hid hS; clear hS))
  go_ret
  exact ⟨rfl, HS.out.below⟩
set_option maxHeartbeats 1000000 in
set_option maxRecDepth 100000 in
theorem csorted_pmms (x y z : Value × TVer) (mx my : Int) (w : World) (hx : x.2.ok) (hy : y.2.ok) (hz : z.2.ok) (h1 : O2 (vP x.2) (vP y.2) = 1) (h2 : O2 (vP y.2) (vP z.2) = -1) (h3 : O2 (vP x.2) (vP z.2) = -1) (cx : (verC x)[33]? = some (.int .i64 mx)) (cy : (verC y)[33]? = some (.int .i64 my)) (hxy : x.2.h = y.2.h ∧ (x.2.n : Int) = (y.2.n : Int)) (hn : ¬ mx = my) :
    Calls Try.prog 9 #[.agg (verC x).toArray, .agg (verC y).toArray, .agg (verC z).toArray] w fun e w' => e = .returned (.bool true) ∧ Below w.heap.size w w' := by
  have HS := Lib.hid (St.start w)
  have Hx := Lib.hid hx; have Hy := Lib.hid hy; have Hz := Lib.hid hz
  have H1 := Lib.hid h1; have H2 := Lib.hid h2; have H3 := Lib.hid h3
  have H4 := Lib.hid (show O2 (vP y.2) (vP x.2) = -1 by have h := O2_neg (vP x.2) (vP y.2); omega)
  have hq : ∀ W, (Op.equalIn 10000 44 (.agg (bs x.2.h ++ [Value.int .u32 (x.2.n : Int)]).toArray) (.agg (bs y.2.h ++ [Value.int .u32 (y.2.n : Int)]).toArray)).run Try.prog W = .ok true W := fun W => by
    have := eqPt 9997 x.2.h y.2.h (x.2.n : Int) (y.2.n : Int) hx.h hy.h W
    rwa [decide_eq_true hxy] at this
  have k2 : (mx == my) = false := by rw [beq_eq_false_iff_ne]; exact hn
  clear hx hy hz h1 h2 h3 hxy hn
  go_enter Try.func9, Try.ntmps9
  go_wp2_with (first
    | go_skip
    | (refine atd 3 (by rfl) ?_; refine wl (by rfl) (s_bx (l := verC x) HS.out (by rfl) (by rfl) ?_); intro b3 Wn hS; clear HS; have HS := Lib.hid hS; clear hS)
    | (refine atd 4 (by rfl) ?_; refine wl (by rfl) (s_bx (l := verC y) HS.out (by rfl) (by rfl) ?_); intro b4 Wn hS; clear HS; have HS := Lib.hid hS; clear hS)
    | (refine atd 5 (by rfl) ?_; refine wl (by rfl) (s_bx (l := verC z) HS.out (by rfl) (by rfl) ?_); intro b5 Wn hS; clear HS; have HS := Lib.hid hS; clear hS)
    | (go_at_call 37; refine (alive37 _).mono ?_; rintro e Wn ⟨rfl, hb⟩; have hS := HS.out.call hb; clear hb; clear HS; have HS := Lib.hid hS; clear hS))
  refine wp_region_pi [(0, true), (1, true), (3, true), (4, true), (6, true), (7, true), (2, false), (5, false), (8, false), (9, true), (10, true), (11, true)] (by kernel_rfl) (by kernel_rfl) rfl (by kernel_rfl) (fun _ _ _ _ _ h => h) (fun w' => St w w' [Blk b5 (verC z) 46, Blk b4 (verC y) 46, Blk b3 (verC x) 46] []) HS.out.drew ?_
  intro OPS hops
  have hS := HS.out.drew
  clear HS; have HS := Lib.hid hS; clear hS
  iterate 6
    first | (refine wpPi_yield _ (by rw [hops.out]; simp only [List.getElem?_toArray, List.getElem?_cons_succ, List.getElem?_cons_zero]; rfl) (by first | rfl | (rw [hops.out]; rfl)) (fun w' hS => by first | exact run_lda (n := 70) (cs := verC x) ag46 (by rfl) (by rfl) (hS.range (i := 2) rfl (by rw [verC_length Hx.out]; exact verC_all Hx.out)) (verC_length Hx.out) | exact run_lda (n := 70) (cs := verC y) ag46 (by rfl) (by rfl) (hS.range (i := 1) rfl (by rw [verC_length Hy.out]; exact verC_all Hy.out)) (verC_length Hy.out) | exact run_lda (n := 70) (cs := verC z) ag46 (by rfl) (by rfl) (hS.range (i := 0) rfl (by rw [verC_length Hz.out]; exact verC_all Hz.out)) (verC_length Hz.out) | (go_simp; rfl)) ?_; simp only [Act.put, List.setIfInBounds_toArray, List.set_cons_succ, List.set_cons_zero]) | (refine wpPi_skip (by rw [hops.out]; simp only [List.getElem?_toArray, List.getElem?_cons_succ, List.getElem?_cons_zero]; rfl) (by first | rfl | (rw [hops.out]; rfl)) ?_; simp only [Act.put, List.setIfInBounds_toArray, List.set_cons_succ, List.set_cons_zero])
  refine wpPi_act (by rw [hops.out]; simp only [List.getElem?_toArray, List.getElem?_cons_succ, List.getElem?_cons_zero]; rfl) (by first | rfl | (rw [hops.out]; rfl)) ?_
  go_simp
  refine (cmp24 x y _ Hx.out Hy.out (R := 1) H1.out).mono ?_
  rintro e Wn ⟨rfl, hb⟩
  have hS := HS.out.call hb
  clear HS; have HS := Lib.hid hS; clear hS
  clear hb
  refine ⟨HS.out, ?_⟩
  try simp only [Act.put, List.setIfInBounds_toArray, List.set_cons_succ, List.set_cons_zero]
  refine wpPi_act (by rw [hops.out]; simp only [List.getElem?_toArray, List.getElem?_cons_succ, List.getElem?_cons_zero]; rfl) (by first | rfl | (rw [hops.out]; rfl)) ?_
  go_simp
  refine (cmp24 y z _ Hy.out Hz.out (R := -1) H2.out).mono ?_
  rintro e Wn ⟨rfl, hb⟩
  have hS := HS.out.call hb
  clear HS; have HS := Lib.hid hS; clear hS
  clear hb
  refine ⟨HS.out, ?_⟩
  try simp only [Act.put, List.setIfInBounds_toArray, List.set_cons_succ, List.set_cons_zero]
  refine wpPi_act (by rw [hops.out]; simp only [List.getElem?_toArray, List.getElem?_cons_succ, List.getElem?_cons_zero]; rfl) (by first | rfl | (rw [hops.out]; rfl)) ?_
  go_simp
  refine (cmp24 x z _ Hx.out Hz.out (R := -1) H3.out).mono ?_
  rintro e Wn ⟨rfl, hb⟩
  have hS := HS.out.call hb
  clear HS; have HS := Lib.hid hS; clear hS
  clear hb
  refine ⟨HS.out, ?_⟩
  try simp only [Act.put, List.setIfInBounds_toArray, List.set_cons_succ, List.set_cons_zero]
  iterate 3
    first | (refine wpPi_yield _ (by rw [hops.out]; simp only [List.getElem?_toArray, List.getElem?_cons_succ, List.getElem?_cons_zero]; rfl) (by first | rfl | (rw [hops.out]; rfl)) (fun w' hS => by first | exact run_lda (n := 70) (cs := verC x) ag46 (by rfl) (by rfl) (hS.range (i := 2) rfl (by rw [verC_length Hx.out]; exact verC_all Hx.out)) (verC_length Hx.out) | exact run_lda (n := 70) (cs := verC y) ag46 (by rfl) (by rfl) (hS.range (i := 1) rfl (by rw [verC_length Hy.out]; exact verC_all Hy.out)) (verC_length Hy.out) | exact run_lda (n := 70) (cs := verC z) ag46 (by rfl) (by rfl) (hS.range (i := 0) rfl (by rw [verC_length Hz.out]; exact verC_all Hz.out)) (verC_length Hz.out) | (go_simp; rfl)) ?_; simp only [Act.put, List.setIfInBounds_toArray, List.set_cons_succ, List.set_cons_zero]) | (refine wpPi_skip (by rw [hops.out]; simp only [List.getElem?_toArray, List.getElem?_cons_succ, List.getElem?_cons_zero]; rfl) (by first | rfl | (rw [hops.out]; rfl)) ?_; simp only [Act.put, List.setIfInBounds_toArray, List.set_cons_succ, List.set_cons_zero])
  simp only [wpPi]
  clear OPS hops
  go_wp2_with (first
    | go_skip
    | (refine atd 54 (by rfl) ?_; refine wl (by rfl) (s_lda (cs := verC y) HS.out 1 70 (by rfl) (by rfl) (by rfl) ag46 (by exact verC_all Hy.out) (verC_length Hy.out) ?_))
    | (refine atd 55 (by rfl) ?_; refine wl (by rfl) (s_lda (cs := verC x) HS.out 2 70 (by rfl) (by rfl) (by rfl) ag46 (by exact verC_all Hx.out) (verC_length Hx.out) ?_))
    | (refine atd 65 (by rfl) ?_; refine wl (by rfl) (s_lda (cs := bs x.2.h ++ [Value.int .u32 (x.2.n : Int)]) HS.out 2 33 (by rfl) (by rfl) (by rfl) ag44 (by exact verC_pt Hx.out) (verC_pt33 Hx.out) ?_))
    | (refine atd 67 (by rfl) ?_; refine wl (by rfl) (s_lda (cs := bs y.2.h ++ [Value.int .u32 (y.2.n : Int)]) HS.out 1 33 (by rfl) (by rfl) (by rfl) ag44 (by exact verC_pt Hy.out) (verC_pt33 Hy.out) ?_))
    | (refine atd 71 (by rfl) ?_; refine wl (by rfl) (s_ld HS.out 2 (by rfl) (by rfl) (by rfl) (by kernel_rfl) (by exact cx) ?_))
    | (refine atd 73 (by rfl) ?_; refine wl (by rfl) (s_ld HS.out 1 (by rfl) (by rfl) (by rfl) (by kernel_rfl) (by exact cy) ?_))
    | (go_at_call 24; refine (cmp24 y x _ Hy.out Hx.out (R := -1) H4.out).mono ?_; rintro e Wn ⟨rfl, hb⟩; have hS := HS.out.call hb; clear hb; clear HS; have HS := Lib.hid hS; clear hS))
  go_ret
  exact ⟨rfl, HS.out.below⟩
set_option maxHeartbeats 1000000 in
set_option maxRecDepth 100000 in
theorem csorted_pmmd (x y z : Value × TVer) (mx my : Int) (w : World) (hx : x.2.ok) (hy : y.2.ok) (hz : z.2.ok) (h1 : O2 (vP x.2) (vP y.2) = 1) (h2 : O2 (vP y.2) (vP z.2) = -1) (h3 : O2 (vP x.2) (vP z.2) = -1) (cx : (verC x)[33]? = some (.int .i64 mx)) (cy : (verC y)[33]? = some (.int .i64 my)) (hxy : ¬ (x.2.h = y.2.h ∧ (x.2.n : Int) = (y.2.n : Int))) :
    Calls Try.prog 9 #[.agg (verC x).toArray, .agg (verC y).toArray, .agg (verC z).toArray] w fun e w' => e = .returned (.bool true) ∧ Below w.heap.size w w' := by
  have HS := Lib.hid (St.start w)
  have Hx := Lib.hid hx; have Hy := Lib.hid hy; have Hz := Lib.hid hz
  have H1 := Lib.hid h1; have H2 := Lib.hid h2; have H3 := Lib.hid h3
  have H4 := Lib.hid (show O2 (vP y.2) (vP x.2) = -1 by have h := O2_neg (vP x.2) (vP y.2); omega)
  have hq : ∀ W, (Op.equalIn 10000 44 (.agg (bs x.2.h ++ [Value.int .u32 (x.2.n : Int)]).toArray) (.agg (bs y.2.h ++ [Value.int .u32 (y.2.n : Int)]).toArray)).run Try.prog W = .ok false W := fun W => by
    have := eqPt 9997 x.2.h y.2.h (x.2.n : Int) (y.2.n : Int) hx.h hy.h W
    rwa [decide_eq_false hxy] at this
  clear hx hy hz h1 h2 h3 hxy 
  go_enter Try.func9, Try.ntmps9
  go_wp2_with (first
    | go_skip
    | (refine atd 3 (by rfl) ?_; refine wl (by rfl) (s_bx (l := verC x) HS.out (by rfl) (by rfl) ?_); intro b3 Wn hS; clear HS; have HS := Lib.hid hS; clear hS)
    | (refine atd 4 (by rfl) ?_; refine wl (by rfl) (s_bx (l := verC y) HS.out (by rfl) (by rfl) ?_); intro b4 Wn hS; clear HS; have HS := Lib.hid hS; clear hS)
    | (refine atd 5 (by rfl) ?_; refine wl (by rfl) (s_bx (l := verC z) HS.out (by rfl) (by rfl) ?_); intro b5 Wn hS; clear HS; have HS := Lib.hid hS; clear hS)
    | (go_at_call 37; refine (alive37 _).mono ?_; rintro e Wn ⟨rfl, hb⟩; have hS := HS.out.call hb; clear hb; clear HS; have HS := Lib.hid hS; clear hS))
  refine wp_region_pi [(0, true), (1, true), (3, true), (4, true), (6, true), (7, true), (2, false), (5, false), (8, false), (9, true), (10, true), (11, true)] (by kernel_rfl) (by kernel_rfl) rfl (by kernel_rfl) (fun _ _ _ _ _ h => h) (fun w' => St w w' [Blk b5 (verC z) 46, Blk b4 (verC y) 46, Blk b3 (verC x) 46] []) HS.out.drew ?_
  intro OPS hops
  have hS := HS.out.drew
  clear HS; have HS := Lib.hid hS; clear hS
  iterate 6
    first | (refine wpPi_yield _ (by rw [hops.out]; simp only [List.getElem?_toArray, List.getElem?_cons_succ, List.getElem?_cons_zero]; rfl) (by first | rfl | (rw [hops.out]; rfl)) (fun w' hS => by first | exact run_lda (n := 70) (cs := verC x) ag46 (by rfl) (by rfl) (hS.range (i := 2) rfl (by rw [verC_length Hx.out]; exact verC_all Hx.out)) (verC_length Hx.out) | exact run_lda (n := 70) (cs := verC y) ag46 (by rfl) (by rfl) (hS.range (i := 1) rfl (by rw [verC_length Hy.out]; exact verC_all Hy.out)) (verC_length Hy.out) | exact run_lda (n := 70) (cs := verC z) ag46 (by rfl) (by rfl) (hS.range (i := 0) rfl (by rw [verC_length Hz.out]; exact verC_all Hz.out)) (verC_length Hz.out) | (go_simp; rfl)) ?_; simp only [Act.put, List.setIfInBounds_toArray, List.set_cons_succ, List.set_cons_zero]) | (refine wpPi_skip (by rw [hops.out]; simp only [List.getElem?_toArray, List.getElem?_cons_succ, List.getElem?_cons_zero]; rfl) (by first | rfl | (rw [hops.out]; rfl)) ?_; simp only [Act.put, List.setIfInBounds_toArray, List.set_cons_succ, List.set_cons_zero])
  refine wpPi_act (by rw [hops.out]; simp only [List.getElem?_toArray, List.getElem?_cons_succ, List.getElem?_cons_zero]; rfl) (by first | rfl | (rw [hops.out]; rfl)) ?_
  go_simp
  refine (cmp24 x y _ Hx.out Hy.out (R := 1) H1.out).mono ?_
  rintro e Wn ⟨rfl, hb⟩
  have hS := HS.out.call hb
  clear HS; have HS := Lib.hid hS; clear hS
  clear hb
  refine ⟨HS.out, ?_⟩
  try simp only [Act.put, List.setIfInBounds_toArray, List.set_cons_succ, List.set_cons_zero]
  refine wpPi_act (by rw [hops.out]; simp only [List.getElem?_toArray, List.getElem?_cons_succ, List.getElem?_cons_zero]; rfl) (by first | rfl | (rw [hops.out]; rfl)) ?_
  go_simp
  refine (cmp24 y z _ Hy.out Hz.out (R := -1) H2.out).mono ?_
  rintro e Wn ⟨rfl, hb⟩
  have hS := HS.out.call hb
  clear HS; have HS := Lib.hid hS; clear hS
  clear hb
  refine ⟨HS.out, ?_⟩
  try simp only [Act.put, List.setIfInBounds_toArray, List.set_cons_succ, List.set_cons_zero]
  refine wpPi_act (by rw [hops.out]; simp only [List.getElem?_toArray, List.getElem?_cons_succ, List.getElem?_cons_zero]; rfl) (by first | rfl | (rw [hops.out]; rfl)) ?_
  go_simp
  refine (cmp24 x z _ Hx.out Hz.out (R := -1) H3.out).mono ?_
  rintro e Wn ⟨rfl, hb⟩
  have hS := HS.out.call hb
  clear HS; have HS := Lib.hid hS; clear hS
  clear hb
  refine ⟨HS.out, ?_⟩
  try simp only [Act.put, List.setIfInBounds_toArray, List.set_cons_succ, List.set_cons_zero]
  iterate 3
    first | (refine wpPi_yield _ (by rw [hops.out]; simp only [List.getElem?_toArray, List.getElem?_cons_succ, List.getElem?_cons_zero]; rfl) (by first | rfl | (rw [hops.out]; rfl)) (fun w' hS => by first | exact run_lda (n := 70) (cs := verC x) ag46 (by rfl) (by rfl) (hS.range (i := 2) rfl (by rw [verC_length Hx.out]; exact verC_all Hx.out)) (verC_length Hx.out) | exact run_lda (n := 70) (cs := verC y) ag46 (by rfl) (by rfl) (hS.range (i := 1) rfl (by rw [verC_length Hy.out]; exact verC_all Hy.out)) (verC_length Hy.out) | exact run_lda (n := 70) (cs := verC z) ag46 (by rfl) (by rfl) (hS.range (i := 0) rfl (by rw [verC_length Hz.out]; exact verC_all Hz.out)) (verC_length Hz.out) | (go_simp; rfl)) ?_; simp only [Act.put, List.setIfInBounds_toArray, List.set_cons_succ, List.set_cons_zero]) | (refine wpPi_skip (by rw [hops.out]; simp only [List.getElem?_toArray, List.getElem?_cons_succ, List.getElem?_cons_zero]; rfl) (by first | rfl | (rw [hops.out]; rfl)) ?_; simp only [Act.put, List.setIfInBounds_toArray, List.set_cons_succ, List.set_cons_zero])
  simp only [wpPi]
  clear OPS hops
  go_wp2_with (first
    | go_skip
    | (refine atd 54 (by rfl) ?_; refine wl (by rfl) (s_lda (cs := verC y) HS.out 1 70 (by rfl) (by rfl) (by rfl) ag46 (by exact verC_all Hy.out) (verC_length Hy.out) ?_))
    | (refine atd 55 (by rfl) ?_; refine wl (by rfl) (s_lda (cs := verC x) HS.out 2 70 (by rfl) (by rfl) (by rfl) ag46 (by exact verC_all Hx.out) (verC_length Hx.out) ?_))
    | (refine atd 65 (by rfl) ?_; refine wl (by rfl) (s_lda (cs := bs x.2.h ++ [Value.int .u32 (x.2.n : Int)]) HS.out 2 33 (by rfl) (by rfl) (by rfl) ag44 (by exact verC_pt Hx.out) (verC_pt33 Hx.out) ?_))
    | (refine atd 67 (by rfl) ?_; refine wl (by rfl) (s_lda (cs := bs y.2.h ++ [Value.int .u32 (y.2.n : Int)]) HS.out 1 33 (by rfl) (by rfl) (by rfl) ag44 (by exact verC_pt Hy.out) (verC_pt33 Hy.out) ?_))
    | (refine atd 71 (by rfl) ?_; refine wl (by rfl) (s_ld HS.out 2 (by rfl) (by rfl) (by rfl) (by kernel_rfl) (by exact cx) ?_))
    | (refine atd 73 (by rfl) ?_; refine wl (by rfl) (s_ld HS.out 1 (by rfl) (by rfl) (by rfl) (by kernel_rfl) (by exact cy) ?_))
    | (go_at_call 24; refine (cmp24 y x _ Hy.out Hx.out (R := -1) H4.out).mono ?_; rintro e Wn ⟨rfl, hb⟩; have hS := HS.out.call hb; clear hb; clear HS; have HS := Lib.hid hS; clear hS))
  go_ret
  exact ⟨rfl, HS.out.below⟩
set_option maxHeartbeats 1000000 in
set_option maxRecDepth 100000 in
theorem csorted_pmzs (x y z : Value × TVer) (mx my : Int) (w : World) (hx : x.2.ok) (hy : y.2.ok) (hz : z.2.ok) (h1 : O2 (vP x.2) (vP y.2) = 1) (h2 : O2 (vP y.2) (vP z.2) = -1) (h3 : O2 (vP x.2) (vP z.2) = 0) (cx : (verC x)[33]? = some (.int .i64 mx)) (cy : (verC y)[33]? = some (.int .i64 my)) (hxy : x.2.h = y.2.h ∧ (x.2.n : Int) = (y.2.n : Int)) (hn : ¬ mx = my) :
    Calls Try.prog 9 #[.agg (verC x).toArray, .agg (verC y).toArray, .agg (verC z).toArray] w fun e w' => e = .returned (.bool true) ∧ Below w.heap.size w w' := by
  have HS := Lib.hid (St.start w)
  have Hx := Lib.hid hx; have Hy := Lib.hid hy; have Hz := Lib.hid hz
  have H1 := Lib.hid h1; have H2 := Lib.hid h2; have H3 := Lib.hid h3
  have H4 := Lib.hid (show O2 (vP y.2) (vP x.2) = -1 by have h := O2_neg (vP x.2) (vP y.2); omega)
  have hq : ∀ W, (Op.equalIn 10000 44 (.agg (bs x.2.h ++ [Value.int .u32 (x.2.n : Int)]).toArray) (.agg (bs y.2.h ++ [Value.int .u32 (y.2.n : Int)]).toArray)).run Try.prog W = .ok true W := fun W => by
    have := eqPt 9997 x.2.h y.2.h (x.2.n : Int) (y.2.n : Int) hx.h hy.h W
    rwa [decide_eq_true hxy] at this
  have k2 : (mx == my) = false := by rw [beq_eq_false_iff_ne]; exact hn
  clear hx hy hz h1 h2 h3 hxy hn
  go_enter Try.func9, Try.ntmps9
  go_wp2_with (first
    | go_skip
    | (refine atd 3 (by rfl) ?_; refine wl (by rfl) (s_bx (l := verC x) HS.out (by rfl) (by rfl) ?_); intro b3 Wn hS; clear HS; have HS := Lib.hid hS; clear hS)
    | (refine atd 4 (by rfl) ?_; refine wl (by rfl) (s_bx (l := verC y) HS.out (by rfl) (by rfl) ?_); intro b4 Wn hS; clear HS; have HS := Lib.hid hS; clear hS)
    | (refine atd 5 (by rfl) ?_; refine wl (by rfl) (s_bx (l := verC z) HS.out (by rfl) (by rfl) ?_); intro b5 Wn hS; clear HS; have HS := Lib.hid hS; clear hS)
    | (go_at_call 37; refine (alive37 _).mono ?_; rintro e Wn ⟨rfl, hb⟩; have hS := HS.out.call hb; clear hb; clear HS; have HS := Lib.hid hS; clear hS))
  refine wp_region_pi [(0, true), (1, true), (3, true), (4, true), (6, true), (7, true), (2, false), (5, false), (8, false), (9, true), (10, true), (11, true)] (by kernel_rfl) (by kernel_rfl) rfl (by kernel_rfl) (fun _ _ _ _ _ h => h) (fun w' => St w w' [Blk b5 (verC z) 46, Blk b4 (verC y) 46, Blk b3 (verC x) 46] []) HS.out.drew ?_
  intro OPS hops
  have hS := HS.out.drew
  clear HS; have HS := Lib.hid hS; clear hS
  iterate 6
    first | (refine wpPi_yield _ (by rw [hops.out]; simp only [List.getElem?_toArray, List.getElem?_cons_succ, List.getElem?_cons_zero]; rfl) (by first | rfl | (rw [hops.out]; rfl)) (fun w' hS => by first | exact run_lda (n := 70) (cs := verC x) ag46 (by rfl) (by rfl) (hS.range (i := 2) rfl (by rw [verC_length Hx.out]; exact verC_all Hx.out)) (verC_length Hx.out) | exact run_lda (n := 70) (cs := verC y) ag46 (by rfl) (by rfl) (hS.range (i := 1) rfl (by rw [verC_length Hy.out]; exact verC_all Hy.out)) (verC_length Hy.out) | exact run_lda (n := 70) (cs := verC z) ag46 (by rfl) (by rfl) (hS.range (i := 0) rfl (by rw [verC_length Hz.out]; exact verC_all Hz.out)) (verC_length Hz.out) | (go_simp; rfl)) ?_; simp only [Act.put, List.setIfInBounds_toArray, List.set_cons_succ, List.set_cons_zero]) | (refine wpPi_skip (by rw [hops.out]; simp only [List.getElem?_toArray, List.getElem?_cons_succ, List.getElem?_cons_zero]; rfl) (by first | rfl | (rw [hops.out]; rfl)) ?_; simp only [Act.put, List.setIfInBounds_toArray, List.set_cons_succ, List.set_cons_zero])
  refine wpPi_act (by rw [hops.out]; simp only [List.getElem?_toArray, List.getElem?_cons_succ, List.getElem?_cons_zero]; rfl) (by first | rfl | (rw [hops.out]; rfl)) ?_
  go_simp
  refine (cmp24 x y _ Hx.out Hy.out (R := 1) H1.out).mono ?_
  rintro e Wn ⟨rfl, hb⟩
  have hS := HS.out.call hb
  clear HS; have HS := Lib.hid hS; clear hS
  clear hb
  refine ⟨HS.out, ?_⟩
  try simp only [Act.put, List.setIfInBounds_toArray, List.set_cons_succ, List.set_cons_zero]
  refine wpPi_act (by rw [hops.out]; simp only [List.getElem?_toArray, List.getElem?_cons_succ, List.getElem?_cons_zero]; rfl) (by first | rfl | (rw [hops.out]; rfl)) ?_
  go_simp
  refine (cmp24 y z _ Hy.out Hz.out (R := -1) H2.out).mono ?_
  rintro e Wn ⟨rfl, hb⟩
  have hS := HS.out.call hb
  clear HS; have HS := Lib.hid hS; clear hS
  clear hb
  refine ⟨HS.out, ?_⟩
  try simp only [Act.put, List.setIfInBounds_toArray, List.set_cons_succ, List.set_cons_zero]
  refine wpPi_act (by rw [hops.out]; simp only [List.getElem?_toArray, List.getElem?_cons_succ, List.getElem?_cons_zero]; rfl) (by first | rfl | (rw [hops.out]; rfl)) ?_
  go_simp
  refine (cmp24 x z _ Hx.out Hz.out (R := 0) H3.out).mono ?_
  rintro e Wn ⟨rfl, hb⟩
  have hS := HS.out.call hb
  clear HS; have HS := Lib.hid hS; clear hS
  clear hb
  refine ⟨HS.out, ?_⟩
  try simp only [Act.put, List.setIfInBounds_toArray, List.set_cons_succ, List.set_cons_zero]
  iterate 3
    first | (refine wpPi_yield _ (by rw [hops.out]; simp only [List.getElem?_toArray, List.getElem?_cons_succ, List.getElem?_cons_zero]; rfl) (by first | rfl | (rw [hops.out]; rfl)) (fun w' hS => by first | exact run_lda (n := 70) (cs := verC x) ag46 (by rfl) (by rfl) (hS.range (i := 2) rfl (by rw [verC_length Hx.out]; exact verC_all Hx.out)) (verC_length Hx.out) | exact run_lda (n := 70) (cs := verC y) ag46 (by rfl) (by rfl) (hS.range (i := 1) rfl (by rw [verC_length Hy.out]; exact verC_all Hy.out)) (verC_length Hy.out) | exact run_lda (n := 70) (cs := verC z) ag46 (by rfl) (by rfl) (hS.range (i := 0) rfl (by rw [verC_length Hz.out]; exact verC_all Hz.out)) (verC_length Hz.out) | (go_simp; rfl)) ?_; simp only [Act.put, List.setIfInBounds_toArray, List.set_cons_succ, List.set_cons_zero]) | (refine wpPi_skip (by rw [hops.out]; simp only [List.getElem?_toArray, List.getElem?_cons_succ, List.getElem?_cons_zero]; rfl) (by first | rfl | (rw [hops.out]; rfl)) ?_; simp only [Act.put, List.setIfInBounds_toArray, List.set_cons_succ, List.set_cons_zero])
  simp only [wpPi]
  clear OPS hops
  go_wp2_with (first
    | go_skip
    | (refine atd 54 (by rfl) ?_; refine wl (by rfl) (s_lda (cs := verC y) HS.out 1 70 (by rfl) (by rfl) (by rfl) ag46 (by exact verC_all Hy.out) (verC_length Hy.out) ?_))
    | (refine atd 55 (by rfl) ?_; refine wl (by rfl) (s_lda (cs := verC x) HS.out 2 70 (by rfl) (by rfl) (by rfl) ag46 (by exact verC_all Hx.out) (verC_length Hx.out) ?_))
    | (refine atd 65 (by rfl) ?_; refine wl (by rfl) (s_lda (cs := bs x.2.h ++ [Value.int .u32 (x.2.n : Int)]) HS.out 2 33 (by rfl) (by rfl) (by rfl) ag44 (by exact verC_pt Hx.out) (verC_pt33 Hx.out) ?_))
    | (refine atd 67 (by rfl) ?_; refine wl (by rfl) (s_lda (cs := bs y.2.h ++ [Value.int .u32 (y.2.n : Int)]) HS.out 1 33 (by rfl) (by rfl) (by rfl) ag44 (by exact verC_pt Hy.out) (verC_pt33 Hy.out) ?_))
    | (refine atd 71 (by rfl) ?_; refine wl (by rfl) (s_ld HS.out 2 (by rfl) (by rfl) (by rfl) (by kernel_rfl) (by exact cx) ?_))
    | (refine atd 73 (by rfl) ?_; refine wl (by rfl) (s_ld HS.out 1 (by rfl) (by rfl) (by rfl) (by kernel_rfl) (by exact cy) ?_))
    | (go_at_call 24; refine (cmp24 y x _ Hy.out Hx.out (R := -1) H4.out).mono ?_; rintro e Wn ⟨rfl, hb⟩; have hS := HS.out.call hb; clear hb; clear HS; have HS := Lib.hid hS; clear hS))
  go_ret
  exact ⟨rfl, HS.out.below⟩
set_option maxHeartbeats 1000000 in
set_option maxRecDepth 100000 in
theorem csorted_pmzd (x y z : Value × TVer) (mx my : Int) (w : World) (hx : x.2.ok) (hy : y.2.ok) (hz : z.2.ok) (h1 : O2 (vP x.2) (vP y.2) = 1) (h2 : O2 (vP y.2) (vP z.2) = -1) (h3 : O2 (vP x.2) (vP z.2) = 0) (cx : (verC x)[33]? = some (.int .i64 mx)) (cy : (verC y)[33]? = some (.int .i64 my)) (hxy : ¬ (x.2.h = y.2.h ∧ (x.2.n : Int) = (y.2.n : Int))) :
    Calls Try.prog 9 #[.agg (verC x).toArray, .agg (verC y).toArray, .agg (verC z).toArray] w fun e w' => e = .returned (.bool true) ∧ Below w.heap.size w w' := by
  have HS := Lib.hid (St.start w)
  have Hx := Lib.hid hx; have Hy := Lib.hid hy; have Hz := Lib.hid hz
  have H1 := Lib.hid h1; have H2 := Lib.hid h2; have H3 := Lib.hid h3
  have H4 := Lib.hid (show O2 (vP y.2) (vP x.2) = -1 by have h := O2_neg (vP x.2) (vP y.2); omega)
  have hq : ∀ W, (Op.equalIn 10000 44 (.agg (bs x.2.h ++ [Value.int .u32 (x.2.n : Int)]).toArray) (.agg (bs y.2.h ++ [Value.int .u32 (y.2.n : Int)]).toArray)).run Try.prog W = .ok false W := fun W => by
    have := eqPt 9997 x.2.h y.2.h (x.2.n : Int) (y.2.n : Int) hx.h hy.h W
    rwa [decide_eq_false hxy] at this
  clear hx hy hz h1 h2 h3 hxy 
  go_enter Try.func9, Try.ntmps9
  go_wp2_with (first
    | go_skip
    | (refine atd 3 (by rfl) ?_; refine wl (by rfl) (s_bx (l := verC x) HS.out (by rfl) (by rfl) ?_); intro b3 Wn hS; clear HS; have HS := Lib.hid hS; clear hS)
    | (refine atd 4 (by rfl) ?_; refine wl (by rfl) (s_bx (l := verC y) HS.out (by rfl) (by rfl) ?_); intro b4 Wn hS; clear HS; have HS := Lib.hid hS; clear hS)
    | (refine atd 5 (by rfl) ?_; refine wl (by rfl) (s_bx (l := verC z) HS.out (by rfl) (by rfl) ?_); intro b5 Wn hS; clear HS; have HS := Lib.hid hS; clear hS)
    | (go_at_call 37; refine (alive37 _).mono ?_; rintro e Wn ⟨rfl, hb⟩; have hS := HS.out.call hb; clear hb; clear HS; have HS := Lib.hid hS; clear hS))
  refine wp_region_pi [(0, true), (1, true), (3, true), (4, true), (6, true), (7, true), (2, false), (5, false), (8, false), (9, true), (10, true), (11, true)] (by kernel_rfl) (by kernel_rfl) rfl (by kernel_rfl) (fun _ _ _ _ _ h => h) (fun w' => St w w' [Blk b5 (verC z) 46, Blk b4 (verC y) 46, Blk b3 (verC x) 46] []) HS.out.drew ?_
  intro OPS hops
  have hS := HS.out.drew
  clear HS; have HS := Lib.hid hS; clear hS
  iterate 6
    first | (refine wpPi_yield _ (by rw [hops.out]; simp only [List.getElem?_toArray, List.getElem?_cons_succ, List.getElem?_cons_zero]; rfl) (by first | rfl | (rw [hops.out]; rfl)) (fun w' hS => by first | exact run_lda (n := 70) (cs := verC x) ag46 (by rfl) (by rfl) (hS.range (i := 2) rfl (by rw [verC_length Hx.out]; exact verC_all Hx.out)) (verC_length Hx.out) | exact run_lda (n := 70) (cs := verC y) ag46 (by rfl) (by rfl) (hS.range (i := 1) rfl (by rw [verC_length Hy.out]; exact verC_all Hy.out)) (verC_length Hy.out) | exact run_lda (n := 70) (cs := verC z) ag46 (by rfl) (by rfl) (hS.range (i := 0) rfl (by rw [verC_length Hz.out]; exact verC_all Hz.out)) (verC_length Hz.out) | (go_simp; rfl)) ?_; simp only [Act.put, List.setIfInBounds_toArray, List.set_cons_succ, List.set_cons_zero]) | (refine wpPi_skip (by rw [hops.out]; simp only [List.getElem?_toArray, List.getElem?_cons_succ, List.getElem?_cons_zero]; rfl) (by first | rfl | (rw [hops.out]; rfl)) ?_; simp only [Act.put, List.setIfInBounds_toArray, List.set_cons_succ, List.set_cons_zero])
  refine wpPi_act (by rw [hops.out]; simp only [List.getElem?_toArray, List.getElem?_cons_succ, List.getElem?_cons_zero]; rfl) (by first | rfl | (rw [hops.out]; rfl)) ?_
  go_simp
  refine (cmp24 x y _ Hx.out Hy.out (R := 1) H1.out).mono ?_
  rintro e Wn ⟨rfl, hb⟩
  have hS := HS.out.call hb
  clear HS; have HS := Lib.hid hS; clear hS
  clear hb
  refine ⟨HS.out, ?_⟩
  try simp only [Act.put, List.setIfInBounds_toArray, List.set_cons_succ, List.set_cons_zero]
  refine wpPi_act (by rw [hops.out]; simp only [List.getElem?_toArray, List.getElem?_cons_succ, List.getElem?_cons_zero]; rfl) (by first | rfl | (rw [hops.out]; rfl)) ?_
  go_simp
  refine (cmp24 y z _ Hy.out Hz.out (R := -1) H2.out).mono ?_
  rintro e Wn ⟨rfl, hb⟩
  have hS := HS.out.call hb
  clear HS; have HS := Lib.hid hS; clear hS
  clear hb
  refine ⟨HS.out, ?_⟩
  try simp only [Act.put, List.setIfInBounds_toArray, List.set_cons_succ, List.set_cons_zero]
  refine wpPi_act (by rw [hops.out]; simp only [List.getElem?_toArray, List.getElem?_cons_succ, List.getElem?_cons_zero]; rfl) (by first | rfl | (rw [hops.out]; rfl)) ?_
  go_simp
  refine (cmp24 x z _ Hx.out Hz.out (R := 0) H3.out).mono ?_
  rintro e Wn ⟨rfl, hb⟩
  have hS := HS.out.call hb
  clear HS; have HS := Lib.hid hS; clear hS
  clear hb
  refine ⟨HS.out, ?_⟩
  try simp only [Act.put, List.setIfInBounds_toArray, List.set_cons_succ, List.set_cons_zero]
  iterate 3
    first | (refine wpPi_yield _ (by rw [hops.out]; simp only [List.getElem?_toArray, List.getElem?_cons_succ, List.getElem?_cons_zero]; rfl) (by first | rfl | (rw [hops.out]; rfl)) (fun w' hS => by first | exact run_lda (n := 70) (cs := verC x) ag46 (by rfl) (by rfl) (hS.range (i := 2) rfl (by rw [verC_length Hx.out]; exact verC_all Hx.out)) (verC_length Hx.out) | exact run_lda (n := 70) (cs := verC y) ag46 (by rfl) (by rfl) (hS.range (i := 1) rfl (by rw [verC_length Hy.out]; exact verC_all Hy.out)) (verC_length Hy.out) | exact run_lda (n := 70) (cs := verC z) ag46 (by rfl) (by rfl) (hS.range (i := 0) rfl (by rw [verC_length Hz.out]; exact verC_all Hz.out)) (verC_length Hz.out) | (go_simp; rfl)) ?_; simp only [Act.put, List.setIfInBounds_toArray, List.set_cons_succ, List.set_cons_zero]) | (refine wpPi_skip (by rw [hops.out]; simp only [List.getElem?_toArray, List.getElem?_cons_succ, List.getElem?_cons_zero]; rfl) (by first | rfl | (rw [hops.out]; rfl)) ?_; simp only [Act.put, List.setIfInBounds_toArray, List.set_cons_succ, List.set_cons_zero])
  simp only [wpPi]
  clear OPS hops
  go_wp2_with (first
    | go_skip
    | (refine atd 54 (by rfl) ?_; refine wl (by rfl) (s_lda (cs := verC y) HS.out 1 70 (by rfl) (by rfl) (by rfl) ag46 (by exact verC_all Hy.out) (verC_length Hy.out) ?_))
    | (refine atd 55 (by rfl) ?_; refine wl (by rfl) (s_lda (cs := verC x) HS.out 2 70 (by rfl) (by rfl) (by rfl) ag46 (by exact verC_all Hx.out) (verC_length Hx.out) ?_))
    | (refine atd 65 (by rfl) ?_; refine wl (by rfl) (s_lda (cs := bs x.2.h ++ [Value.int .u32 (x.2.n : Int)]) HS.out 2 33 (by rfl) (by rfl) (by rfl) ag44 (by exact verC_pt Hx.out) (verC_pt33 Hx.out) ?_))
    | (refine atd 67 (by rfl) ?_; refine wl (by rfl) (s_lda (cs := bs y.2.h ++ [Value.int .u32 (y.2.n : Int)]) HS.out 1 33 (by rfl) (by rfl) (by rfl) ag44 (by exact verC_pt Hy.out) (verC_pt33 Hy.out) ?_))
    | (refine atd 71 (by rfl) ?_; refine wl (by rfl) (s_ld HS.out 2 (by rfl) (by rfl) (by rfl) (by kernel_rfl) (by exact cx) ?_))
    | (refine atd 73 (by rfl) ?_; refine wl (by rfl) (s_ld HS.out 1 (by rfl) (by rfl) (by rfl) (by kernel_rfl) (by exact cy) ?_))
    | (go_at_call 24; refine (cmp24 y x _ Hy.out Hx.out (R := -1) H4.out).mono ?_; rintro e Wn ⟨rfl, hb⟩; have hS := HS.out.call hb; clear hb; clear HS; have HS := Lib.hid hS; clear hS))
  go_ret
  exact ⟨rfl, HS.out.below⟩
set_option maxHeartbeats 1000000 in
set_option maxRecDepth 100000 in
theorem csorted_pmps (x y z : Value × TVer) (mx my : Int) (w : World) (hx : x.2.ok) (hy : y.2.ok) (hz : z.2.ok) (h1 : O2 (vP x.2) (vP y.2) = 1) (h2 : O2 (vP y.2) (vP z.2) = -1) (h3 : O2 (vP x.2) (vP z.2) = 1) (cx : (verC x)[33]? = some (.int .i64 mx)) (cy : (verC y)[33]? = some (.int .i64 my)) (hxy : x.2.h = y.2.h ∧ (x.2.n : Int) = (y.2.n : Int)) (hn : ¬ mx = my) :
    Calls Try.prog 9 #[.agg (verC x).toArray, .agg (verC y).toArray, .agg (verC z).toArray] w fun e w' => e = .returned (.bool true) ∧ Below w.heap.size w w' := by
  have HS := Lib.hid (St.start w)
  have Hx := Lib.hid hx; have Hy := Lib.hid hy; have Hz := Lib.hid hz
  have H1 := Lib.hid h1; have H2 := Lib.hid h2; have H3 := Lib.hid h3
  have H4 := Lib.hid (show O2 (vP y.2) (vP x.2) = -1 by have h := O2_neg (vP x.2) (vP y.2); omega)
  have hq : ∀ W, (Op.equalIn 10000 44 (.agg (bs x.2.h ++ [Value.int .u32 (x.2.n : Int)]).toArray) (.agg (bs y.2.h ++ [Value.int .u32 (y.2.n : Int)]).toArray)).run Try.prog W = .ok true W := fun W => by
    have := eqPt 9997 x.2.h y.2.h (x.2.n : Int) (y.2.n : Int) hx.h hy.h W
    rwa [decide_eq_true hxy] at this
  have k2 : (mx == my) = false := by rw [beq_eq_false_iff_ne]; exact hn
  clear hx hy hz h1 h2 h3 hxy hn
  go_enter Try.func9, Try.ntmps9
  go_wp2_with (first
    | go_skip
    | (refine atd 3 (by rfl) ?_; refine wl (by rfl) (s_bx (l := verC x) HS.out (by rfl) (by rfl) ?_); intro b3 Wn hS; clear HS; have HS := Lib.hid hS; clear hS)
    | (refine atd 4 (by rfl) ?_; refine wl (by rfl) (s_bx (l := verC y) HS.out (by rfl) (by rfl) ?_); intro b4 Wn hS; clear HS; have HS := Lib.hid hS; clear hS)
    | (refine atd 5 (by rfl) ?_; refine wl (by rfl) (s_bx (l := verC z) HS.out (by rfl) (by rfl) ?_); intro b5 Wn hS; clear HS; have HS := Lib.hid hS; clear hS)
    | (go_at_call 37; refine (alive37 _).mono ?_; rintro e Wn ⟨rfl, hb⟩; have hS := HS.out.call hb; clear hb; clear HS; have HS := Lib.hid hS; clear hS))
  refine wp_region_pi [(0, true), (1, true), (3, true), (4, true), (6, true), (7, true), (2, false), (5, false), (8, false), (9, true), (10, true), (11, true)] (by kernel_rfl) (by kernel_rfl) rfl (by kernel_rfl) (fun _ _ _ _ _ h => h) (fun w' => St w w' [Blk b5 (verC z) 46, Blk b4 (verC y) 46, Blk b3 (verC x) 46] []) HS.out.drew ?_
  intro OPS hops
  have hS := HS.out.drew
  clear HS; have HS := Lib.hid hS; clear hS
  iterate 6
    first | (refine wpPi_yield _ (by rw [hops.out]; simp only [List.getElem?_toArray, List.getElem?_cons_succ, List.getElem?_cons_zero]; rfl) (by first | rfl | (rw [hops.out]; rfl)) (fun w' hS => by first | exact run_lda (n := 70) (cs := verC x) ag46 (by rfl) (by rfl) (hS.range (i := 2) rfl (by rw [verC_length Hx.out]; exact verC_all Hx.out)) (verC_length Hx.out) | exact run_lda (n := 70) (cs := verC y) ag46 (by rfl) (by rfl) (hS.range (i := 1) rfl (by rw [verC_length Hy.out]; exact verC_all Hy.out)) (verC_length Hy.out) | exact run_lda (n := 70) (cs := verC z) ag46 (by rfl) (by rfl) (hS.range (i := 0) rfl (by rw [verC_length Hz.out]; exact verC_all Hz.out)) (verC_length Hz.out) | (go_simp; rfl)) ?_; simp only [Act.put, List.setIfInBounds_toArray, List.set_cons_succ, List.set_cons_zero]) | (refine wpPi_skip (by rw [hops.out]; simp only [List.getElem?_toArray, List.getElem?_cons_succ, List.getElem?_cons_zero]; rfl) (by first | rfl | (rw [hops.out]; rfl)) ?_; simp only [Act.put, List.setIfInBounds_toArray, List.set_cons_succ, List.set_cons_zero])
  refine wpPi_act (by rw [hops.out]; simp only [List.getElem?_toArray, List.getElem?_cons_succ, List.getElem?_cons_zero]; rfl) (by first | rfl | (rw [hops.out]; rfl)) ?_
  go_simp
  refine (cmp24 x y _ Hx.out Hy.out (R := 1) H1.out).mono ?_
  rintro e Wn ⟨rfl, hb⟩
  have hS := HS.out.call hb
  clear HS; have HS := Lib.hid hS; clear hS
  clear hb
  refine ⟨HS.out, ?_⟩
  try simp only [Act.put, List.setIfInBounds_toArray, List.set_cons_succ, List.set_cons_zero]
  refine wpPi_act (by rw [hops.out]; simp only [List.getElem?_toArray, List.getElem?_cons_succ, List.getElem?_cons_zero]; rfl) (by first | rfl | (rw [hops.out]; rfl)) ?_
  go_simp
  refine (cmp24 y z _ Hy.out Hz.out (R := -1) H2.out).mono ?_
  rintro e Wn ⟨rfl, hb⟩
  have hS := HS.out.call hb
  clear HS; have HS := Lib.hid hS; clear hS
  clear hb
  refine ⟨HS.out, ?_⟩
  try simp only [Act.put, List.setIfInBounds_toArray, List.set_cons_succ, List.set_cons_zero]
  refine wpPi_act (by rw [hops.out]; simp only [List.getElem?_toArray, List.getElem?_cons_succ, List.getElem?_cons_zero]; rfl) (by first | rfl | (rw [hops.out]; rfl)) ?_
  go_simp
  refine (cmp24 x z _ Hx.out Hz.out (R := 1) H3.out).mono ?_
  rintro e Wn ⟨rfl, hb⟩
  have hS := HS.out.call hb
  clear HS; have HS := Lib.hid hS; clear hS
  clear hb
  refine ⟨HS.out, ?_⟩
  try simp only [Act.put, List.setIfInBounds_toArray, List.set_cons_succ, List.set_cons_zero]
  iterate 3
    first | (refine wpPi_yield _ (by rw [hops.out]; simp only [List.getElem?_toArray, List.getElem?_cons_succ, List.getElem?_cons_zero]; rfl) (by first | rfl | (rw [hops.out]; rfl)) (fun w' hS => by first | exact run_lda (n := 70) (cs := verC x) ag46 (by rfl) (by rfl) (hS.range (i := 2) rfl (by rw [verC_length Hx.out]; exact verC_all Hx.out)) (verC_length Hx.out) | exact run_lda (n := 70) (cs := verC y) ag46 (by rfl) (by rfl) (hS.range (i := 1) rfl (by rw [verC_length Hy.out]; exact verC_all Hy.out)) (verC_length Hy.out) | exact run_lda (n := 70) (cs := verC z) ag46 (by rfl) (by rfl) (hS.range (i := 0) rfl (by rw [verC_length Hz.out]; exact verC_all Hz.out)) (verC_length Hz.out) | (go_simp; rfl)) ?_; simp only [Act.put, List.setIfInBounds_toArray, List.set_cons_succ, List.set_cons_zero]) | (refine wpPi_skip (by rw [hops.out]; simp only [List.getElem?_toArray, List.getElem?_cons_succ, List.getElem?_cons_zero]; rfl) (by first | rfl | (rw [hops.out]; rfl)) ?_; simp only [Act.put, List.setIfInBounds_toArray, List.set_cons_succ, List.set_cons_zero])
  simp only [wpPi]
  clear OPS hops
  go_wp2_with (first
    | go_skip
    | (refine atd 54 (by rfl) ?_; refine wl (by rfl) (s_lda (cs := verC y) HS.out 1 70 (by rfl) (by rfl) (by rfl) ag46 (by exact verC_all Hy.out) (verC_length Hy.out) ?_))
    | (refine atd 55 (by rfl) ?_; refine wl (by rfl) (s_lda (cs := verC x) HS.out 2 70 (by rfl) (by rfl) (by rfl) ag46 (by exact verC_all Hx.out) (verC_length Hx.out) ?_))
    | (refine atd 65 (by rfl) ?_; refine wl (by rfl) (s_lda (cs := bs x.2.h ++ [Value.int .u32 (x.2.n : Int)]) HS.out 2 33 (by rfl) (by rfl) (by rfl) ag44 (by exact verC_pt Hx.out) (verC_pt33 Hx.out) ?_))
    | (refine atd 67 (by rfl) ?_; refine wl (by rfl) (s_lda (cs := bs y.2.h ++ [Value.int .u32 (y.2.n : Int)]) HS.out 1 33 (by rfl) (by rfl) (by rfl) ag44 (by exact verC_pt Hy.out) (verC_pt33 Hy.out) ?_))
    | (refine atd 71 (by rfl) ?_; refine wl (by rfl) (s_ld HS.out 2 (by rfl) (by rfl) (by rfl) (by kernel_rfl) (by exact cx) ?_))
    | (refine atd 73 (by rfl) ?_; refine wl (by rfl) (s_ld HS.out 1 (by rfl) (by rfl) (by rfl) (by kernel_rfl) (by exact cy) ?_))
    | (go_at_call 24; refine (cmp24 y x _ Hy.out Hx.out (R := -1) H4.out).mono ?_; rintro e Wn ⟨rfl, hb⟩; have hS := HS.out.call hb; clear hb; clear HS; have HS := Lib.hid hS; clear hS))
  go_ret
  exact ⟨rfl, HS.out.below⟩
set_option maxHeartbeats 1000000 in
set_option maxRecDepth 100000 in
theorem csorted_pmpd (x y z : Value × TVer) (mx my : Int) (w : World) (hx : x.2.ok) (hy : y.2.ok) (hz : z.2.ok) (h1 : O2 (vP x.2) (vP y.2) = 1) (h2 : O2 (vP y.2) (vP z.2) = -1) (h3 : O2 (vP x.2) (vP z.2) = 1) (cx : (verC x)[33]? = some (.int .i64 mx)) (cy : (verC y)[33]? = some (.int .i64 my)) (hxy : ¬ (x.2.h = y.2.h ∧ (x.2.n : Int) = (y.2.n : Int))) :
    Calls Try.prog 9 #[.agg (verC x).toArray, .agg (verC y).toArray, .agg (verC z).toArray] w fun e w' => e = .returned (.bool true) ∧ Below w.heap.size w w' := by
  have HS := Lib.hid (St.start w)
  have Hx := Lib.hid hx; have Hy := Lib.hid hy; have Hz := Lib.hid hz
  have H1 := Lib.hid h1; have H2 := Lib.hid h2; have H3 := Lib.hid h3
  have H4 := Lib.hid (show O2 (vP y.2) (vP x.2) = -1 by have h := O2_neg (vP x.2) (vP y.2); omega)
  have hq : ∀ W, (Op.equalIn 10000 44 (.agg (bs x.2.h ++ [Value.int .u32 (x.2.n : Int)]).toArray) (.agg (bs y.2.h ++ [Value.int .u32 (y.2.n : Int)]).toArray)).run Try.prog W = .ok false W := fun W => by
    have := eqPt 9997 x.2.h y.2.h (x.2.n : Int) (y.2.n : Int) hx.h hy.h W
    rwa [decide_eq_false hxy] at this
  clear hx hy hz h1 h2 h3 hxy 
  go_enter Try.func9, Try.ntmps9
  go_wp2_with (first
    | go_skip
    | (refine atd 3 (by rfl) ?_; refine wl (by rfl) (s_bx (l := verC x) HS.out (by rfl) (by rfl) ?_); intro b3 Wn hS; clear HS; have HS := Lib.hid hS; clear hS)
    | (refine atd 4 (by rfl) ?_; refine wl (by rfl) (s_bx (l := verC y) HS.out (by rfl) (by rfl) ?_); intro b4 Wn hS; clear HS; have HS := Lib.hid hS; clear hS)
    | (refine atd 5 (by rfl) ?_; refine wl (by rfl) (s_bx (l := verC z) HS.out (by rfl) (by rfl) ?_); intro b5 Wn hS; clear HS; have HS := Lib.hid hS; clear hS)
    | (go_at_call 37; refine (alive37 _).mono ?_; rintro e Wn ⟨rfl, hb⟩; have hS := HS.out.call hb; clear hb; clear HS; have HS := Lib.hid hS; clear hS))
  refine wp_region_pi [(0, true), (1, true), (3, true), (4, true), (6, true), (7, true), (2, false), (5, false), (8, false), (9, true), (10, true), (11, true)] (by kernel_rfl) (by kernel_rfl) rfl (by kernel_rfl) (fun _ _ _ _ _ h => h) (fun w' => St w w' [Blk b5 (verC z) 46, Blk b4 (verC y) 46, Blk b3 (verC x) 46] []) HS.out.drew ?_
  intro OPS hops
  have hS := HS.out.drew
  clear HS; have HS := Lib.hid hS; clear hS
  iterate 6
    first | (refine wpPi_yield _ (by rw [hops.out]; simp only [List.getElem?_toArray, List.getElem?_cons_succ, List.getElem?_cons_zero]; rfl) (by first | rfl | (rw [hops.out]; rfl)) (fun w' hS => by first | exact run_lda (n := 70) (cs := verC x) ag46 (by rfl) (by rfl) (hS.range (i := 2) rfl (by rw [verC_length Hx.out]; exact verC_all Hx.out)) (verC_length Hx.out) | exact run_lda (n := 70) (cs := verC y) ag46 (by rfl) (by rfl) (hS.range (i := 1) rfl (by rw [verC_length Hy.out]; exact verC_all Hy.out)) (verC_length Hy.out) | exact run_lda (n := 70) (cs := verC z) ag46 (by rfl) (by rfl) (hS.range (i := 0) rfl (by rw [verC_length Hz.out]; exact verC_all Hz.out)) (verC_length Hz.out) | (go_simp; rfl)) ?_; simp only [Act.put, List.setIfInBounds_toArray, List.set_cons_succ, List.set_cons_zero]) | (refine wpPi_skip (by rw [hops.out]; simp only [List.getElem?_toArray, List.getElem?_cons_succ, List.getElem?_cons_zero]; rfl) (by first | rfl | (rw [hops.out]; rfl)) ?_; simp only [Act.put, List.setIfInBounds_toArray, List.set_cons_succ, List.set_cons_zero])
  refine wpPi_act (by rw [hops.out]; simp only [List.getElem?_toArray, List.getElem?_cons_succ, List.getElem?_cons_zero]; rfl) (by first | rfl | (rw [hops.out]; rfl)) ?_
  go_simp
  refine (cmp24 x y _ Hx.out Hy.out (R := 1) H1.out).mono ?_
  rintro e Wn ⟨rfl, hb⟩
  have hS := HS.out.call hb
  clear HS; have HS := Lib.hid hS; clear hS
  clear hb
  refine ⟨HS.out, ?_⟩
  try simp only [Act.put, List.setIfInBounds_toArray, List.set_cons_succ, List.set_cons_zero]
  refine wpPi_act (by rw [hops.out]; simp only [List.getElem?_toArray, List.getElem?_cons_succ, List.getElem?_cons_zero]; rfl) (by first | rfl | (rw [hops.out]; rfl)) ?_
  go_simp
  refine (cmp24 y z _ Hy.out Hz.out (R := -1) H2.out).mono ?_
  rintro e Wn ⟨rfl, hb⟩
  have hS := HS.out.call hb
  clear HS; have HS := Lib.hid hS; clear hS
  clear hb
  refine ⟨HS.out, ?_⟩
  try simp only [Act.put, List.setIfInBounds_toArray, List.set_cons_succ, List.set_cons_zero]
  refine wpPi_act (by rw [hops.out]; simp only [List.getElem?_toArray, List.getElem?_cons_succ, List.getElem?_cons_zero]; rfl) (by first | rfl | (rw [hops.out]; rfl)) ?_
  go_simp
  refine (cmp24 x z _ Hx.out Hz.out (R := 1) H3.out).mono ?_
  rintro e Wn ⟨rfl, hb⟩
  have hS := HS.out.call hb
  clear HS; have HS := Lib.hid hS; clear hS
  clear hb
  refine ⟨HS.out, ?_⟩
  try simp only [Act.put, List.setIfInBounds_toArray, List.set_cons_succ, List.set_cons_zero]
  iterate 3
    first | (refine wpPi_yield _ (by rw [hops.out]; simp only [List.getElem?_toArray, List.getElem?_cons_succ, List.getElem?_cons_zero]; rfl) (by first | rfl | (rw [hops.out]; rfl)) (fun w' hS => by first | exact run_lda (n := 70) (cs := verC x) ag46 (by rfl) (by rfl) (hS.range (i := 2) rfl (by rw [verC_length Hx.out]; exact verC_all Hx.out)) (verC_length Hx.out) | exact run_lda (n := 70) (cs := verC y) ag46 (by rfl) (by rfl) (hS.range (i := 1) rfl (by rw [verC_length Hy.out]; exact verC_all Hy.out)) (verC_length Hy.out) | exact run_lda (n := 70) (cs := verC z) ag46 (by rfl) (by rfl) (hS.range (i := 0) rfl (by rw [verC_length Hz.out]; exact verC_all Hz.out)) (verC_length Hz.out) | (go_simp; rfl)) ?_; simp only [Act.put, List.setIfInBounds_toArray, List.set_cons_succ, List.set_cons_zero]) | (refine wpPi_skip (by rw [hops.out]; simp only [List.getElem?_toArray, List.getElem?_cons_succ, List.getElem?_cons_zero]; rfl) (by first | rfl | (rw [hops.out]; rfl)) ?_; simp only [Act.put, List.setIfInBounds_toArray, List.set_cons_succ, List.set_cons_zero])
  simp only [wpPi]
  clear OPS hops
  go_wp2_with (first
    | go_skip
    | (refine atd 54 (by rfl) ?_; refine wl (by rfl) (s_lda (cs := verC y) HS.out 1 70 (by rfl) (by rfl) (by rfl) ag46 (by exact verC_all Hy.out) (verC_length Hy.out) ?_))
    | (refine atd 55 (by rfl) ?_; refine wl (by rfl) (s_lda (cs := verC x) HS.out 2 70 (by rfl) (by rfl) (by rfl) ag46 (by exact verC_all Hx.out) (verC_length Hx.out) ?_))
    | (refine atd 65 (by rfl) ?_; refine wl (by rfl) (s_lda (cs := bs x.2.h ++ [Value.int .u32 (x.2.n : Int)]) HS.out 2 33 (by rfl) (by rfl) (by rfl) ag44 (by exact verC_pt Hx.out) (verC_pt33 Hx.out) ?_))
    | (refine atd 67 (by rfl) ?_; refine wl (by rfl) (s_lda (cs := bs y.2.h ++ [Value.int .u32 (y.2.n : Int)]) HS.out 1 33 (by rfl) (by rfl) (by rfl) ag44 (by exact verC_pt Hy.out) (verC_pt33 Hy.out) ?_))
    | (refine atd 71 (by rfl) ?_; refine wl (by rfl) (s_ld HS.out 2 (by rfl) (by rfl) (by rfl) (by kernel_rfl) (by exact cx) ?_))
    | (refine atd 73 (by rfl) ?_; refine wl (by rfl) (s_ld HS.out 1 (by rfl) (by rfl) (by rfl) (by kernel_rfl) (by exact cy) ?_))
    | (go_at_call 24; refine (cmp24 y x _ Hy.out Hx.out (R := -1) H4.out).mono ?_; rintro e Wn ⟨rfl, hb⟩; have hS := HS.out.call hb; clear hb; clear HS; have HS := Lib.hid hS; clear hS))
  go_ret
  exact ⟨rfl, HS.out.below⟩
end
section
open Go Go.RowKit Go.Proofs
attribute [local irreducible] Calls
theorem csorted (x y z : Value × TVer) (w : World) (hx : x.2.ok) (hy : y.2.ok) (hz : z.2.ok) :
    Calls Try.prog 9 #[.agg (verC x).toArray, .agg (verC y).toArray, .agg (verC z).toArray] w fun e w' => e = .returned (.bool true) ∧ Below w.heap.size w w' := by
  obtain ⟨t1, t2, t3, t4⟩ := O2_tri (vP x.2) (vP y.2) (vP z.2)
  rcases O2_cases (vP x.2) (vP y.2) with h1 | h1 | h1
  · rcases O2_cases (vP y.2) (vP z.2) with h2 | h2 | h2
    · have h3 : O2 (vP x.2) (vP z.2) = -1 := by first | exact t1 ⟨h1, h2⟩ | exact t2 ⟨h1, h2⟩ | (rw [t3 h1]; exact h2) | (rw [t4 h2]; exact h1)
      by_cases hxy : x.2.h = y.2.h ∧ (x.2.n : Int) = (y.2.n : Int)
      · have hn : ¬ x.2.made = y.2.made := by
          intro hm
          have e : vP x.2 = vP y.2 := by simp only [vP, Prod.mk.injEq]; exact ⟨hxy, hm⟩
          rw [e] at h1
          have := O2_neg (vP y.2) (vP y.2); omega
        exact csorted_mmms x y z _ _ w hx hy hz h1 h2 h3 (verC_33 hx) (verC_33 hy) hxy hn
      · exact csorted_mmmd x y z _ _ w hx hy hz h1 h2 h3 (verC_33 hx) (verC_33 hy) hxy
    · have h3 : O2 (vP x.2) (vP z.2) = -1 := by first | exact t1 ⟨h1, h2⟩ | exact t2 ⟨h1, h2⟩ | (rw [t3 h1]; exact h2) | (rw [t4 h2]; exact h1)
      by_cases hxy : x.2.h = y.2.h ∧ (x.2.n : Int) = (y.2.n : Int)
      · have hn : ¬ x.2.made = y.2.made := by
          intro hm
          have e : vP x.2 = vP y.2 := by simp only [vP, Prod.mk.injEq]; exact ⟨hxy, hm⟩
          rw [e] at h1
          have := O2_neg (vP y.2) (vP y.2); omega
        exact csorted_mzms x y z _ _ w hx hy hz h1 h2 h3 (verC_33 hx) (verC_33 hy) hxy hn
      · exact csorted_mzmd x y z _ _ w hx hy hz h1 h2 h3 (verC_33 hx) (verC_33 hy) hxy
    · rcases O2_cases (vP x.2) (vP z.2) with h3 | h3 | h3
      · skip
        by_cases hxy : x.2.h = y.2.h ∧ (x.2.n : Int) = (y.2.n : Int)
        · have hn : ¬ x.2.made = y.2.made := by
            intro hm
            have e : vP x.2 = vP y.2 := by simp only [vP, Prod.mk.injEq]; exact ⟨hxy, hm⟩
            rw [e] at h1
            have := O2_neg (vP y.2) (vP y.2); omega
          exact csorted_mpms x y z _ _ w hx hy hz h1 h2 h3 (verC_33 hx) (verC_33 hy) hxy hn
        · exact csorted_mpmd x y z _ _ w hx hy hz h1 h2 h3 (verC_33 hx) (verC_33 hy) hxy
      · skip
        by_cases hxy : x.2.h = y.2.h ∧ (x.2.n : Int) = (y.2.n : Int)
        · have hn : ¬ x.2.made = y.2.made := by
            intro hm
            have e : vP x.2 = vP y.2 := by simp only [vP, Prod.mk.injEq]; exact ⟨hxy, hm⟩
            rw [e] at h1
            have := O2_neg (vP y.2) (vP y.2); omega
          exact csorted_mpzs x y z _ _ w hx hy hz h1 h2 h3 (verC_33 hx) (verC_33 hy) hxy hn
        · exact csorted_mpzd x y z _ _ w hx hy hz h1 h2 h3 (verC_33 hx) (verC_33 hy) hxy
      · skip
        by_cases hxy : x.2.h = y.2.h ∧ (x.2.n : Int) = (y.2.n : Int)
        · have hn : ¬ x.2.made = y.2.made := by
            intro hm
            have e : vP x.2 = vP y.2 := by simp only [vP, Prod.mk.injEq]; exact ⟨hxy, hm⟩
            rw [e] at h1
            have := O2_neg (vP y.2) (vP y.2); omega
          exact csorted_mpps x y z _ _ w hx hy hz h1 h2 h3 (verC_33 hx) (verC_33 hy) hxy hn
        · exact csorted_mppd x y z _ _ w hx hy hz h1 h2 h3 (verC_33 hx) (verC_33 hy) hxy
  · rcases O2_cases (vP y.2) (vP z.2) with h2 | h2 | h2
    · have h3 : O2 (vP x.2) (vP z.2) = -1 := by first | exact t1 ⟨h1, h2⟩ | exact t2 ⟨h1, h2⟩ | (rw [t3 h1]; exact h2) | (rw [t4 h2]; exact h1)
      have e := O2_zero h1
      simp only [vP, Prod.mk.injEq] at e
      exact csorted_zmme x y z _ _ w hx hy hz h1 h2 h3 (verC_33 hx) (verC_33 hy) e.1 e.2
    · have h3 : O2 (vP x.2) (vP z.2) = 0 := by first | exact t1 ⟨h1, h2⟩ | exact t2 ⟨h1, h2⟩ | (rw [t3 h1]; exact h2) | (rw [t4 h2]; exact h1)
      have e := O2_zero h1
      simp only [vP, Prod.mk.injEq] at e
      exact csorted_zzze x y z _ _ w hx hy hz h1 h2 h3 (verC_33 hx) (verC_33 hy) e.1 e.2
    · have h3 : O2 (vP x.2) (vP z.2) = 1 := by first | exact t1 ⟨h1, h2⟩ | exact t2 ⟨h1, h2⟩ | (rw [t3 h1]; exact h2) | (rw [t4 h2]; exact h1)
      have e := O2_zero h1
      simp only [vP, Prod.mk.injEq] at e
      exact csorted_zppe x y z _ _ w hx hy hz h1 h2 h3 (verC_33 hx) (verC_33 hy) e.1 e.2
  · rcases O2_cases (vP y.2) (vP z.2) with h2 | h2 | h2
    · rcases O2_cases (vP x.2) (vP z.2) with h3 | h3 | h3
      · skip
        by_cases hxy : x.2.h = y.2.h ∧ (x.2.n : Int) = (y.2.n : Int)
        · have hn : ¬ x.2.made = y.2.made := by
            intro hm
            have e : vP x.2 = vP y.2 := by simp only [vP, Prod.mk.injEq]; exact ⟨hxy, hm⟩
            rw [e] at h1
            have := O2_neg (vP y.2) (vP y.2); omega
          exact csorted_pmms x y z _ _ w hx hy hz h1 h2 h3 (verC_33 hx) (verC_33 hy) hxy hn
        · exact csorted_pmmd x y z _ _ w hx hy hz h1 h2 h3 (verC_33 hx) (verC_33 hy) hxy
      · skip
        by_cases hxy : x.2.h = y.2.h ∧ (x.2.n : Int) = (y.2.n : Int)
        · have hn : ¬ x.2.made = y.2.made := by
            intro hm
            have e : vP x.2 = vP y.2 := by simp only [vP, Prod.mk.injEq]; exact ⟨hxy, hm⟩
            rw [e] at h1
            have := O2_neg (vP y.2) (vP y.2); omega
          exact csorted_pmzs x y z _ _ w hx hy hz h1 h2 h3 (verC_33 hx) (verC_33 hy) hxy hn
        · exact csorted_pmzd x y z _ _ w hx hy hz h1 h2 h3 (verC_33 hx) (verC_33 hy) hxy
      · skip
        by_cases hxy : x.2.h = y.2.h ∧ (x.2.n : Int) = (y.2.n : Int)
        · have hn : ¬ x.2.made = y.2.made := by
            intro hm
            have e : vP x.2 = vP y.2 := by simp only [vP, Prod.mk.injEq]; exact ⟨hxy, hm⟩
            rw [e] at h1
            have := O2_neg (vP y.2) (vP y.2); omega
          exact csorted_pmps x y z _ _ w hx hy hz h1 h2 h3 (verC_33 hx) (verC_33 hy) hxy hn
        · exact csorted_pmpd x y z _ _ w hx hy hz h1 h2 h3 (verC_33 hx) (verC_33 hy) hxy
    · have h3 : O2 (vP x.2) (vP z.2) = 1 := by first | exact t1 ⟨h1, h2⟩ | exact t2 ⟨h1, h2⟩ | (rw [t3 h1]; exact h2) | (rw [t4 h2]; exact h1)
      by_cases hxy : x.2.h = y.2.h ∧ (x.2.n : Int) = (y.2.n : Int)
      · have hn : ¬ x.2.made = y.2.made := by
          intro hm
          have e : vP x.2 = vP y.2 := by simp only [vP, Prod.mk.injEq]; exact ⟨hxy, hm⟩
          rw [e] at h1
          have := O2_neg (vP y.2) (vP y.2); omega
        exact csorted_pzps x y z _ _ w hx hy hz h1 h2 h3 (verC_33 hx) (verC_33 hy) hxy hn
      · exact csorted_pzpd x y z _ _ w hx hy hz h1 h2 h3 (verC_33 hx) (verC_33 hy) hxy
    · have h3 : O2 (vP x.2) (vP z.2) = 1 := by first | exact t1 ⟨h1, h2⟩ | exact t2 ⟨h1, h2⟩ | (rw [t3 h1]; exact h2) | (rw [t4 h2]; exact h1)
      by_cases hxy : x.2.h = y.2.h ∧ (x.2.n : Int) = (y.2.n : Int)
      · have hn : ¬ x.2.made = y.2.made := by
          intro hm
          have e : vP x.2 = vP y.2 := by simp only [vP, Prod.mk.injEq]; exact ⟨hxy, hm⟩
          rw [e] at h1
          have := O2_neg (vP y.2) (vP y.2); omega
        exact csorted_ppps x y z _ _ w hx hy hz h1 h2 h3 (verC_33 hx) (verC_33 hy) hxy hn
      · exact csorted_pppd x y z _ _ w hx hy hz h1 h2 h3 (verC_33 hx) (verC_33 hy) hxy
theorem coinSorted_walk (c0 c1 c2 : List Value) (w : World) (g0 : Rd Try.prog w 46 c0) (g1 : Rd Try.prog w 46 c1) (g2 : Rd Try.prog w 46 c2) : Calls Try.prog 9 #[.agg c0.toArray, .agg c1.toArray, .agg c2.toArray] w fun e w' => e = .returned (.bool true) ∧ Below w.heap.size w w' := by
  obtain ⟨x, rfl, hx, _⟩ := ver_of g0
  obtain ⟨y, rfl, hy, _⟩ := ver_of g1
  obtain ⟨z, rfl, hz, _⟩ := ver_of g2
  exact csorted x y z w hx hy hz
end
end Go.Proofs.Yteljmpoaggfliaa
