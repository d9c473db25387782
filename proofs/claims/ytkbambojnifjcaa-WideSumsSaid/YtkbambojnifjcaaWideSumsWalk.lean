/- Contracts and words that the laws stand on (WideSumsWalk). -/
import Derived.Test.YtkbambojnifjcaaDown
import Derived.Test.YtkbambojnifjcaaRefC
import Derived.Test.YtkbambojnifjcaaWid
import Derived.Test.YtkbambojnifjcaaRefA
import Derived.Test.YtkbambojnifjcaaRefB
import Derived.Test.YtkbambojnifjcaaLaw
set_option linter.unusedVariables false
set_option linter.unusedSimpArgs false
namespace Go.Proofs.Ytkbambojnifjcaa
section
open Go Go.RowKit Go.Proofs
attribute [local irreducible] wc pw bl bitN fl shlW shrW Calls cmpW dfold
set_option maxHeartbeats 4000000 in
set_option maxRecDepth 100000 in
theorem wideSums_walk (a b : Nat) (n : Int) (ha : a < M4) (hb : b < M4) (hn : n ≤ 9223372036854775807) (w : World) : Calls Try.prog 6 #[.agg (wc a), .agg (wc b), .int .i64 n] w fun e w' => e = .returned (.bool true) ∧ Below w.heap.size w w' := by
  have HS := Lib.hid (St.start w)
  have h1 := fun w => add11 a b ha hb w
  have h2 := fun w => radd18 a b ha hb w
  have h3 := fun w => sub13 a b ha hb w
  have h4 := fun w => rsub19 a b ha hb w
  have h5 := fun w => mul10 a b ha hb w
  have h6 := fun w => rmul20 a b ha hb w
  have h7 := fun w => left21 a n ha hn w
  have h8 := fun w => rleft22 a n ha hn w
  have h9 := fun w => right23 a n ha hn w
  have h10 := fun w => rright24 a n ha hn w
  have h11 := fun w => not14 a ha w
  have h12 := fun w => rnot25 a ha w
  generalize (a + b) % M4 = s at *
  generalize decide (M4 ≤ a + b) = ov at *
  generalize (a + M4 - b) % M4 = d at *
  generalize decide (a < b) = un at *
  generalize a * b % M4 = lo at *
  generalize a * b / M4 = hi at *
  generalize shlW a n = sl at *
  generalize shrW a n = sr at *
  generalize M4 - 1 - a = nt at *
  have H1 := Lib.hid h1
  have H2 := Lib.hid h2
  have H3 := Lib.hid h3
  have H4 := Lib.hid h4
  have H5 := Lib.hid h5
  have H6 := Lib.hid h6
  have H7 := Lib.hid h7
  have H8 := Lib.hid h8
  have H9 := Lib.hid h9
  have H10 := Lib.hid h10
  have H11 := Lib.hid h11
  have H12 := Lib.hid h12
  clear h1 h2 h3 h4 h5 h6 h7 h8 h9 h10 h11 h12 ha hb hn
  have hg := guard24; have he := eq_self
  go_enter Try.func6, Try.ntmps6
  go_wp2_with (first
    | (refine atd 3 (by rfl) ?_; refine wl (by rfl) (bx24 HS.out a (by rfl) (by rfl) ?_); intro b3 Wn hS; clear HS; have HS := Lib.hid hS; clear hS)
    | (refine atd 4 (by rfl) ?_; refine wl (by rfl) (bx24 HS.out b (by rfl) (by rfl) ?_); intro b4 Wn hS; clear HS; have HS := Lib.hid hS; clear hS)
    | (refine atd 20 (by rfl) ?_; refine wl (by rfl) (ld24 HS.out 1 (by rfl) (by rfl) (by rfl) ?_))
    | (refine atd 21 (by rfl) ?_; refine wl (by rfl) (ld24 HS.out 0 (by rfl) (by rfl) (by rfl) ?_))
    | (go_at_call 11; (first | refine (H1.out _).mono ?_); rintro e Wn ⟨rfl, hb⟩; have hS := HS.out.call hb; clear hb; clear HS; have HS := Lib.hid hS; clear hS)
    | (refine atd 7 (by rfl) ?_; refine wl (by rfl) (s_al HS.out (by rfl) z24 (by rfl) ?_); intro b7 Wn hS; replace hS := al24 hS; clear HS; have HS := Lib.hid hS; clear hS)
    | (refine sto 7 (by rfl) ?_; refine wl (by rfl) (st24 HS.out 0 s (by rfl) (by rfl) (by rfl) (by rfl) ?_); intro Wn hS; clear HS; have HS := Lib.hid hS; clear hS)
    | (refine atd 26 (by rfl) ?_; refine wl (by rfl) (ld24 HS.out 2 (by rfl) (by rfl) (by rfl) ?_))
    | (refine atd 27 (by rfl) ?_; refine wl (by rfl) (ld24 HS.out 1 (by rfl) (by rfl) (by rfl) ?_))
    | (go_at_call 18; (first | refine (H2.out _).mono ?_); rintro e Wn ⟨rfl, hb⟩; have hS := HS.out.call hb; clear hb; clear HS; have HS := Lib.hid hS; clear hS)
    | (refine atd 9 (by rfl) ?_; refine wl (by rfl) (s_al HS.out (by rfl) z24 (by rfl) ?_); intro b9 Wn hS; replace hS := al24 hS; clear HS; have HS := Lib.hid hS; clear hS)
    | (refine sto 9 (by rfl) ?_; refine wl (by rfl) (st24 HS.out 0 s (by rfl) (by rfl) (by rfl) (by rfl) ?_); intro Wn hS; clear HS; have HS := Lib.hid hS; clear hS)
    | (refine atd 32 (by rfl) ?_; refine wl (by rfl) (ld24 HS.out 3 (by rfl) (by rfl) (by rfl) ?_))
    | (refine atd 33 (by rfl) ?_; refine wl (by rfl) (ld24 HS.out 2 (by rfl) (by rfl) (by rfl) ?_))
    | (go_at_call 13; (first | refine (H3.out _).mono ?_); rintro e Wn ⟨rfl, hb⟩; have hS := HS.out.call hb; clear hb; clear HS; have HS := Lib.hid hS; clear hS)
    | (refine atd 11 (by rfl) ?_; refine wl (by rfl) (s_al HS.out (by rfl) z24 (by rfl) ?_); intro b11 Wn hS; replace hS := al24 hS; clear HS; have HS := Lib.hid hS; clear hS)
    | (refine sto 11 (by rfl) ?_; refine wl (by rfl) (st24 HS.out 0 d (by rfl) (by rfl) (by rfl) (by rfl) ?_); intro Wn hS; clear HS; have HS := Lib.hid hS; clear hS)
    | (refine atd 38 (by rfl) ?_; refine wl (by rfl) (ld24 HS.out 4 (by rfl) (by rfl) (by rfl) ?_))
    | (refine atd 39 (by rfl) ?_; refine wl (by rfl) (ld24 HS.out 3 (by rfl) (by rfl) (by rfl) ?_))
    | (go_at_call 19; (first | refine (H4.out _).mono ?_); rintro e Wn ⟨rfl, hb⟩; have hS := HS.out.call hb; clear hb; clear HS; have HS := Lib.hid hS; clear hS)
    | (refine atd 13 (by rfl) ?_; refine wl (by rfl) (s_al HS.out (by rfl) z24 (by rfl) ?_); intro b13 Wn hS; replace hS := al24 hS; clear HS; have HS := Lib.hid hS; clear hS)
    | (refine sto 13 (by rfl) ?_; refine wl (by rfl) (st24 HS.out 0 d (by rfl) (by rfl) (by rfl) (by rfl) ?_); intro Wn hS; clear HS; have HS := Lib.hid hS; clear hS)
    | (refine atd 44 (by rfl) ?_; refine wl (by rfl) (ld24 HS.out 5 (by rfl) (by rfl) (by rfl) ?_))
    | (refine atd 45 (by rfl) ?_; refine wl (by rfl) (ld24 HS.out 4 (by rfl) (by rfl) (by rfl) ?_))
    | (go_at_call 10; (first | refine (H5.out _).mono ?_); rintro e Wn ⟨rfl, hb⟩; have hS := HS.out.call hb; clear hb; clear HS; have HS := Lib.hid hS; clear hS)
    | (refine atd 15 (by rfl) ?_; refine wl (by rfl) (s_al HS.out (by rfl) z24 (by rfl) ?_); intro b15 Wn hS; replace hS := al24 hS; clear HS; have HS := Lib.hid hS; clear hS)
    | (refine atd 16 (by rfl) ?_; refine wl (by rfl) (s_al HS.out (by rfl) z24 (by rfl) ?_); intro b16 Wn hS; replace hS := al24 hS; clear HS; have HS := Lib.hid hS; clear hS)
    | (refine sto 15 (by rfl) ?_; refine wl (by rfl) (st24 HS.out 1 lo (by rfl) (by rfl) (by rfl) (by rfl) ?_); intro Wn hS; clear HS; have HS := Lib.hid hS; clear hS)
    | (refine sto 16 (by rfl) ?_; refine wl (by rfl) (st24 HS.out 0 hi (by rfl) (by rfl) (by rfl) (by rfl) ?_); intro Wn hS; clear HS; have HS := Lib.hid hS; clear hS)
    | (refine atd 50 (by rfl) ?_; refine wl (by rfl) (ld24 HS.out 7 (by rfl) (by rfl) (by rfl) ?_))
    | (refine atd 51 (by rfl) ?_; refine wl (by rfl) (ld24 HS.out 6 (by rfl) (by rfl) (by rfl) ?_))
    | (go_at_call 20; (first | refine (H6.out _).mono ?_); rintro e Wn ⟨rfl, hb⟩; have hS := HS.out.call hb; clear hb; clear HS; have HS := Lib.hid hS; clear hS)
    | (refine atd 17 (by rfl) ?_; refine wl (by rfl) (s_al HS.out (by rfl) z24 (by rfl) ?_); intro b17 Wn hS; replace hS := al24 hS; clear HS; have HS := Lib.hid hS; clear hS)
    | (refine atd 18 (by rfl) ?_; refine wl (by rfl) (s_al HS.out (by rfl) z24 (by rfl) ?_); intro b18 Wn hS; replace hS := al24 hS; clear HS; have HS := Lib.hid hS; clear hS)
    | (refine sto 17 (by rfl) ?_; refine wl (by rfl) (st24 HS.out 1 lo (by rfl) (by rfl) (by rfl) (by rfl) ?_); intro Wn hS; clear HS; have HS := Lib.hid hS; clear hS)
    | (refine sto 18 (by rfl) ?_; refine wl (by rfl) (st24 HS.out 0 hi (by rfl) (by rfl) (by rfl) (by rfl) ?_); intro Wn hS; clear HS; have HS := Lib.hid hS; clear hS))
  as_aux_lemma =>
    refine wp_region_pi [(0, true), (1, true), (2, true), (3, true), (4, true), (5, true), (6, true), (7, true), (8, true), (9, true), (10, true), (11, true), (12, true), (13, true), (14, true), (15, true), (16, true), (17, true), (18, true), (19, true), (20, true), (21, true), (22, true), (23, true), (24, true), (25, true), (26, true), (27, true), (28, true), (29, true), (30, true), (32, true), (33, true), (31, false), (34, false), (35, true), (36, true), (37, true), (38, true), (39, true), (41, true), (42, true), (40, false), (43, false), (44, true), (45, true), (46, true), (47, true), (49, true), (48, false), (50, false), (51, true), (52, true), (53, true)] (by kernel_rfl) (by kernel_rfl) rfl (by kernel_rfl) (fun _ _ _ _ _ h => h) (fun w' => St w w' [Blk b18 (wc hi).toList 24, Blk b17 (wc lo).toList 24, Blk b16 (wc hi).toList 24, Blk b15 (wc lo).toList 24, Blk b13 (wc d).toList 24, Blk b11 (wc d).toList 24, Blk b9 (wc s).toList 24, Blk b7 (wc s).toList 24, Blk b4 (wc b).toList 24, Blk b3 (wc a).toList 24] []) HS.out.drew ?_
    intro OPS hops
    have hS := HS.out.drew
    clear HS; have HS := Lib.hid hS; clear hS
    iterate 33
      first | (refine wpPi_yield _ (by rw [hops.out]; simp only [List.getElem?_toArray, List.getElem?_cons_succ, List.getElem?_cons_zero]; rfl) (by first | rfl | (rw [hops.out]; rfl)) (fun w' hS => by first | exact ldw hS 0 (by rfl) (by rfl) (by rfl) | exact ldw hS 1 (by rfl) (by rfl) (by rfl) | exact ldw hS 2 (by rfl) (by rfl) (by rfl) | exact ldw hS 3 (by rfl) (by rfl) (by rfl) | exact ldw hS 4 (by rfl) (by rfl) (by rfl) | exact ldw hS 5 (by rfl) (by rfl) (by rfl) | exact ldw hS 6 (by rfl) (by rfl) (by rfl) | exact ldw hS 7 (by rfl) (by rfl) (by rfl) | exact ldw hS 8 (by rfl) (by rfl) (by rfl) | exact ldw hS 9 (by rfl) (by rfl) (by rfl) | (go_simp; rfl)) ?_; simp only [Act.put, List.setIfInBounds_toArray, List.set_cons_succ, List.set_cons_zero]) | (refine wpPi_skip (by rw [hops.out]; simp only [List.getElem?_toArray, List.getElem?_cons_succ, List.getElem?_cons_zero]; rfl) (by first | rfl | (rw [hops.out]; rfl)) ?_; simp only [Act.put, List.setIfInBounds_toArray, List.set_cons_succ, List.set_cons_zero])
    refine wpPi_act (by rw [hops.out]; simp only [List.getElem?_toArray, List.getElem?_cons_succ, List.getElem?_cons_zero]; rfl) (by first | rfl | (rw [hops.out]; rfl)) ?_
    go_simp
    refine (H7.out _).mono ?_
    rintro e Wn ⟨rfl, hb⟩
    have hS := HS.out.call hb
    clear HS; have HS := Lib.hid hS; clear hS
    clear hb
    refine ⟨HS.out, ?_⟩
    try simp only [Act.put, List.setIfInBounds_toArray, List.set_cons_succ, List.set_cons_zero]
    refine wpPi_act (by rw [hops.out]; simp only [List.getElem?_toArray, List.getElem?_cons_succ, List.getElem?_cons_zero]; rfl) (by first | rfl | (rw [hops.out]; rfl)) ?_
    go_simp
    refine (H8.out _).mono ?_
    rintro e Wn ⟨rfl, hb⟩
    have hS := HS.out.call hb
    clear HS; have HS := Lib.hid hS; clear hS
    clear hb
    refine ⟨HS.out, ?_⟩
    try simp only [Act.put, List.setIfInBounds_toArray, List.set_cons_succ, List.set_cons_zero]
    iterate 7
      first | (refine wpPi_yield _ (by rw [hops.out]; simp only [List.getElem?_toArray, List.getElem?_cons_succ, List.getElem?_cons_zero]; rfl) (by first | rfl | (rw [hops.out]; rfl)) (fun w' hS => by first | exact ldw hS 0 (by rfl) (by rfl) (by rfl) | exact ldw hS 1 (by rfl) (by rfl) (by rfl) | exact ldw hS 2 (by rfl) (by rfl) (by rfl) | exact ldw hS 3 (by rfl) (by rfl) (by rfl) | exact ldw hS 4 (by rfl) (by rfl) (by rfl) | exact ldw hS 5 (by rfl) (by rfl) (by rfl) | exact ldw hS 6 (by rfl) (by rfl) (by rfl) | exact ldw hS 7 (by rfl) (by rfl) (by rfl) | exact ldw hS 8 (by rfl) (by rfl) (by rfl) | exact ldw hS 9 (by rfl) (by rfl) (by rfl) | (go_simp; rfl)) ?_; simp only [Act.put, List.setIfInBounds_toArray, List.set_cons_succ, List.set_cons_zero]) | (refine wpPi_skip (by rw [hops.out]; simp only [List.getElem?_toArray, List.getElem?_cons_succ, List.getElem?_cons_zero]; rfl) (by first | rfl | (rw [hops.out]; rfl)) ?_; simp only [Act.put, List.setIfInBounds_toArray, List.set_cons_succ, List.set_cons_zero])
    refine wpPi_act (by rw [hops.out]; simp only [List.getElem?_toArray, List.getElem?_cons_succ, List.getElem?_cons_zero]; rfl) (by first | rfl | (rw [hops.out]; rfl)) ?_
    go_simp
    refine (H9.out _).mono ?_
    rintro e Wn ⟨rfl, hb⟩
    have hS := HS.out.call hb
    clear HS; have HS := Lib.hid hS; clear hS
    clear hb
    refine ⟨HS.out, ?_⟩
    try simp only [Act.put, List.setIfInBounds_toArray, List.set_cons_succ, List.set_cons_zero]
    refine wpPi_act (by rw [hops.out]; simp only [List.getElem?_toArray, List.getElem?_cons_succ, List.getElem?_cons_zero]; rfl) (by first | rfl | (rw [hops.out]; rfl)) ?_
    go_simp
    refine (H10.out _).mono ?_
    rintro e Wn ⟨rfl, hb⟩
    have hS := HS.out.call hb
    clear HS; have HS := Lib.hid hS; clear hS
    clear hb
    refine ⟨HS.out, ?_⟩
    try simp only [Act.put, List.setIfInBounds_toArray, List.set_cons_succ, List.set_cons_zero]
    iterate 5
      first | (refine wpPi_yield _ (by rw [hops.out]; simp only [List.getElem?_toArray, List.getElem?_cons_succ, List.getElem?_cons_zero]; rfl) (by first | rfl | (rw [hops.out]; rfl)) (fun w' hS => by first | exact ldw hS 0 (by rfl) (by rfl) (by rfl) | exact ldw hS 1 (by rfl) (by rfl) (by rfl) | exact ldw hS 2 (by rfl) (by rfl) (by rfl) | exact ldw hS 3 (by rfl) (by rfl) (by rfl) | exact ldw hS 4 (by rfl) (by rfl) (by rfl) | exact ldw hS 5 (by rfl) (by rfl) (by rfl) | exact ldw hS 6 (by rfl) (by rfl) (by rfl) | exact ldw hS 7 (by rfl) (by rfl) (by rfl) | exact ldw hS 8 (by rfl) (by rfl) (by rfl) | exact ldw hS 9 (by rfl) (by rfl) (by rfl) | (go_simp; rfl)) ?_; simp only [Act.put, List.setIfInBounds_toArray, List.set_cons_succ, List.set_cons_zero]) | (refine wpPi_skip (by rw [hops.out]; simp only [List.getElem?_toArray, List.getElem?_cons_succ, List.getElem?_cons_zero]; rfl) (by first | rfl | (rw [hops.out]; rfl)) ?_; simp only [Act.put, List.setIfInBounds_toArray, List.set_cons_succ, List.set_cons_zero])
    refine wpPi_act (by rw [hops.out]; simp only [List.getElem?_toArray, List.getElem?_cons_succ, List.getElem?_cons_zero]; rfl) (by first | rfl | (rw [hops.out]; rfl)) ?_
    go_simp
    refine (H11.out _).mono ?_
    rintro e Wn ⟨rfl, hb⟩
    have hS := HS.out.call hb
    clear HS; have HS := Lib.hid hS; clear hS
    clear hb
    refine ⟨HS.out, ?_⟩
    try simp only [Act.put, List.setIfInBounds_toArray, List.set_cons_succ, List.set_cons_zero]
    refine wpPi_act (by rw [hops.out]; simp only [List.getElem?_toArray, List.getElem?_cons_succ, List.getElem?_cons_zero]; rfl) (by first | rfl | (rw [hops.out]; rfl)) ?_
    go_simp
    refine (H12.out _).mono ?_
    rintro e Wn ⟨rfl, hb⟩
    have hS := HS.out.call hb
    clear HS; have HS := Lib.hid hS; clear hS
    clear hb
    refine ⟨HS.out, ?_⟩
    try simp only [Act.put, List.setIfInBounds_toArray, List.set_cons_succ, List.set_cons_zero]
    iterate 3
      first | (refine wpPi_yield _ (by rw [hops.out]; simp only [List.getElem?_toArray, List.getElem?_cons_succ, List.getElem?_cons_zero]; rfl) (by first | rfl | (rw [hops.out]; rfl)) (fun w' hS => by first | exact ldw hS 0 (by rfl) (by rfl) (by rfl) | exact ldw hS 1 (by rfl) (by rfl) (by rfl) | exact ldw hS 2 (by rfl) (by rfl) (by rfl) | exact ldw hS 3 (by rfl) (by rfl) (by rfl) | exact ldw hS 4 (by rfl) (by rfl) (by rfl) | exact ldw hS 5 (by rfl) (by rfl) (by rfl) | exact ldw hS 6 (by rfl) (by rfl) (by rfl) | exact ldw hS 7 (by rfl) (by rfl) (by rfl) | exact ldw hS 8 (by rfl) (by rfl) (by rfl) | exact ldw hS 9 (by rfl) (by rfl) (by rfl) | (go_simp; rfl)) ?_; simp only [Act.put, List.setIfInBounds_toArray, List.set_cons_succ, List.set_cons_zero]) | (refine wpPi_skip (by rw [hops.out]; simp only [List.getElem?_toArray, List.getElem?_cons_succ, List.getElem?_cons_zero]; rfl) (by first | rfl | (rw [hops.out]; rfl)) ?_; simp only [Act.put, List.setIfInBounds_toArray, List.set_cons_succ, List.set_cons_zero])
    simp only [wpPi]
    clear OPS hops
    go_wp2_with fail
    go_ret
    exact ⟨rfl, HS.out.below⟩
end
end Go.Proofs.Ytkbambojnifjcaa
