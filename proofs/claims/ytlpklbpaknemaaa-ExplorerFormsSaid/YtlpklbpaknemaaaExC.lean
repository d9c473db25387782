/- Contracts and words that the laws stand on (ExC). -/
import Derived.Test.YtlpklbpaknemaaaExB
set_option linter.unusedVariables false
set_option linter.unusedSimpArgs false
namespace Go.Proofs.Ytlpklbpaknemaaa
section
open Go Go.RowKit Go.Proofs
attribute [local irreducible] Calls
set_option maxHeartbeats 1000000 in
set_option maxRecDepth 100000 in
theorem dec29z (v : Value) (xs : List UInt8) (n : Nat) (ys : List UInt8) (w : World) (hv : HB w v xs) (hl : xs.length ≤ 70368744177664) (hn : numN 1 xs = n) (hm : numM 1 xs = ys) (hn2 : n < 256) (hf : fldK (n : Int) = -1) :
    Calls Try.prog 29 #[v] w fun e w' => e = .returned (.tuple #[.agg (rcs (zq 0) (.slice none 0 0) (.slice none 0 0)).toArray, .int .i64 290]) ∧ Below w.heap.size w w' := by
  have HS := Lib.hid ((St.start w).addF hv.away0)
  have HL := Lib.hid hl; have HN := Lib.hid hn; have HM := Lib.hid hm
  have hF : ∀ W, Calls Try.prog 48 #[.int .i64 (n : Int)] W fun e w' => e = .returned (.int .i64 (-1)) ∧ W = w' := fun W => by
    have := fields48 (n : Int) W
    rwa [hf] at this
  have HF := Lib.hid hF
  clear hv hl hn hm hF hf
  go_enter Try.func29, Try.ntmps29
  go_wp2_with (first
    | (refine atd 2 (by rfl) ?_; refine wl (by rfl) (s_al (l := rcs (zq 0) (.slice none 0 0) (.slice none 0 0)) HS.out (by rfl) z56 (by rfl) ?_); intro b2 Wn hS; clear HS; have HS := Lib.hid hS; clear hS)
    | (go_at_call 36; refine (look_new _ xs _ (HS.out.fact (i := 0) rfl) HL.out).mono ?_; rintro e Wn ⟨g, u0, rfl, hb⟩; have hS := HS.out.take hb; clear hb; clear HS; have HS := Lib.hid hS; clear hS)
    | (refine atd 4 (by rfl) ?_; refine wl (by rfl) (s_al (l := [.pointer none]) HS.out (by rfl) z69 (by rfl) ?_); intro b4 Wn hS; clear HS; have HS := Lib.hid hS; clear hS)
    | (refine sto 4 (by rfl) ?_; refine wl (by rfl) (s_st (v := .pointer (some ⟨g, 0, none⟩)) HS.out 0 (by rfl) (by rfl) (by rfl) (by kernel_rfl) (by rfl) (by rfl) (by exact Nat.zero_lt_one) ?_); intro Wn hS; clear HS; have HS := Lib.hid hS; clear hS)
    | (go_at_call 51; refine (HS.out.eyeNum1 1 rfl HN.out HM.out (j := 0) rfl).mono ?_; rintro e Wn ⟨u1, rfl, hS⟩; clear HS; have HS := Lib.hid hS; clear hS)
    | (refine atd 18 (by rfl) ?_; refine wl (by rfl) (wp_of_run (run_b56 (k := (n : Int)) (by rfl) (by rfl)) ?_))
    | (refine atd 7 (by rfl) ?_; refine wl (by rfl) (s_al (l := rcs (zq 0) (.slice none 0 0) (.slice none 0 0)) HS.out (by rfl) z56 (by rfl) ?_); intro b7 Wn hS; clear HS; have HS := Lib.hid hS; clear hS)
    | (refine sto 7 (by rfl) ?_; refine wl (by rfl) (s_sta (cs := rcs (zq (n : Int)) (.slice none 0 0) (.slice none 0 0)) HS.out 0 70 (by rfl) (by rfl) (by rfl) ag56 (by rfl) (by exact rcs_length (zq_ok _) _ _) (by exact cells_rq _ rfl rfl) (by exact Nat.le_of_eq (rcs_length (zq_ok _) _ _).symm) ?_); intro Wn hS; rw [splice_all ((rcs_length (zq_ok _) _ _).trans (rcs_length (zq_ok _) _ _).symm)] at hS; clear HS; have HS := Lib.hid hS; clear hS)
    | (refine atd 20 (by rfl) ?_; refine wl (by rfl) (s_ld (v := .int .i64 (n : Int)) HS.out 0 (by rfl) (by rfl) (by rfl) (by kernel_rfl) (by exact rcs_0 _ _) ?_))
    | (go_at_call 48; refine (HF.out _).mono ?_; rintro e Wn ⟨rfl, rfl⟩)
    | (refine atd 24 (by rfl) ?_; refine wl (by rfl) (wp_of_run (run_b56z (by rfl)) ?_))
    | (refine sto 2 (by rfl) ?_; refine wl (by rfl) (s_sta (cs := rcs (zq 0) (.slice none 0 0) (.slice none 0 0)) HS.out 3 70 (by rfl) (by rfl) (by rfl) ag56 (by rfl) (by exact rcs_length (zq_ok 0) _ _) (by exact cells_rq _ rfl rfl) (by exact Nat.le_of_eq (rcs_length (zq_ok _) _ _).symm) ?_); intro Wn hS; rw [splice_all ((rcs_length (zq_ok 0) _ _).trans (rcs_length (zq_ok _) _ _).symm)] at hS; clear HS; have HS := Lib.hid hS; clear hS))
  exact bodyPost_ret (ret_ct56 (p := 2) (u := 3) rfl _ b2 _ 56 (0, 0) _ (by rfl) (by rfl) (HS.out.blk (i := 3) rfl) (by rw [List.size_toArray]; exact rcs_length (zq_ok 0) _ _)) rfl ⟨rfl, HS.out.below⟩
end
section
open Go Go.RowKit Go.Proofs
attribute [local irreducible] Calls
set_option maxHeartbeats 2000000 in
set_option maxRecDepth 100000 in
theorem dec29a (v : Value) (kb : UInt8) (l : List UInt8) (w : World) (hv : HB w v (kb :: l)) (hl : (kb :: l).length ≤ 70368744177664) (hf : fldK (kb.toNat : Int) = 32) :
    Calls Try.prog 29 #[v] w fun e w' => ∃ r s b c, e = .returned (.tuple #[.agg (rcs r s b).toArray, .int .i64 c]) ∧ DecP (kb :: l) r c ∧ St w w' [Row s 5 1 r.sb.length (bs r.sb), Row b 5 1 r.bb.length (bs r.bb)] [] := by
  obtain ⟨Av, cv, rfl, _⟩ := hv.shape
  have HS := Lib.hid ((St.start w).addF hv.away0)
  have HL := Lib.hid hl; have HN := Lib.hid (numN1 kb l).1; have HM := Lib.hid (numN1 kb l).2
  have hkb := kb.toNat_lt
  have hl2 : l.length ≤ 70368744177664 := by simp at hl; omega
  have HL2 := Lib.hid hl2
  have hl3 : (numL l).length ≤ 70368744177664 := by
    unfold numL
    split
    · rw [List.length_drop]; omega
    · omega
  have HL3 := Lib.hid hl3
  have hF : ∀ W, Calls Try.prog 48 #[.int .i64 (kb.toNat : Int)] W fun e w' => e = .returned (.int .i64 32) ∧ W = w' := fun W => by
    have := fields48 (kb.toNat : Int) W
    rwa [hf] at this
  have HF := Lib.hid hF
  have hrq : rdF (fldK (kb.toNat : Int)) (kb.toNat : Int) l = ⟨(kb.toNat : Int), z32, 0, 0, 0, [], z32, l⟩ := by rw [hf]; rfl
  have HRQ := Lib.hid hrq
  have hno : (chkQ ⟨(kb.toNat : Int), z32, 0, 0, 0, [], z32, l⟩ = true → encQ ⟨(kb.toNat : Int), z32, 0, 0, 0, [], z32, l⟩ ≠ kb :: l) → DecP (kb :: l) (zq 0) 290 := fun h => DecP.no fun r e hc => by rw [HRQ.out] at e; subst e; exact h hc
  have HNO := Lib.hid hno
  clear hv hl hl2 hl3 hF hf hrq hno
  go_enter Try.func29, Try.ntmps29
  go_wp2_with (first
    | (refine atd 2 (by rfl) ?_; refine wl (by rfl) (s_al (l := rcs (zq 0) (.slice none 0 0) (.slice none 0 0)) HS.out (by rfl) z56 (by rfl) ?_); intro b2 Wn hS; clear HS; have HS := Lib.hid hS; clear hS)
    | (go_at_call 36; refine (look_new _ (kb :: l) _ (HS.out.fact (i := 0) rfl) HL.out).mono ?_; rintro e Wn ⟨g, u0, rfl, hb⟩; have hS := HS.out.take hb; clear hb; clear HS; have HS := Lib.hid hS; clear hS)
    | (refine atd 4 (by rfl) ?_; refine wl (by rfl) (s_al (l := [.pointer none]) HS.out (by rfl) z69 (by rfl) ?_); intro b4 Wn hS; clear HS; have HS := Lib.hid hS; clear hS)
    | (refine sto 4 (by rfl) ?_; refine wl (by rfl) (s_st (v := .pointer (some ⟨g, 0, none⟩)) HS.out 0 (by rfl) (by rfl) (by rfl) (by kernel_rfl) (by rfl) (by rfl) (by exact Nat.zero_lt_one) ?_); intro Wn hS; clear HS; have HS := Lib.hid hS; clear hS)
    | (go_at_call 51; refine (HS.out.eyeNum1 1 rfl HN.out HM.out (j := 0) rfl).mono ?_; rintro e Wn ⟨u1, rfl, hS⟩; clear HS; have HS := Lib.hid hS; clear hS)
    | (refine atd 18 (by rfl) ?_; refine wl (by rfl) (wp_of_run (run_b56 (k := (kb.toNat : Int)) (by rfl) (by rfl)) ?_))
    | (refine atd 7 (by rfl) ?_; refine wl (by rfl) (s_al (l := rcs (zq 0) (.slice none 0 0) (.slice none 0 0)) HS.out (by rfl) z56 (by rfl) ?_); intro b7 Wn hS; clear HS; have HS := Lib.hid hS; clear hS)
    | (refine sto 7 (by rfl) ?_; refine wl (by rfl) (s_sta (cs := rcs (zq (kb.toNat : Int)) (.slice none 0 0) (.slice none 0 0)) HS.out 0 70 (by rfl) (by rfl) (by rfl) ag56 (by rfl) (by exact rcs_length (zq_ok _) _ _) (by exact cells_rq _ rfl rfl) (by exact Nat.le_of_eq (rcs_length (zq_ok _) _ _).symm) ?_); intro Wn hS; rw [splice_all ((rcs_length (zq_ok _) _ _).trans (rcs_length (zq_ok _) _ _).symm)] at hS; have hS : St w Wn [Blk b7 (rcs ⟨(kb.toNat : Int), z32, 0, 0, 0, [], z32, []⟩ (.slice none 0 0) (.slice none 0 0)) 56, Blk b4 [.pointer (some ⟨g, 0, none⟩)] 69, EyeR g u1 l, Blk b2 _ 56] _ := hS; clear HS; have HS := Lib.hid hS; clear hS)
    | (refine atd 20 (by rfl) ?_; refine wl (by rfl) (s_ld (v := .int .i64 (kb.toNat : Int)) HS.out 0 (by rfl) (by rfl) (by rfl) (by kernel_rfl) (by exact rcs_0 _ _) ?_))
    | (go_at_call 48; refine (HF.out _).mono ?_; rintro e Wn ⟨rfl, rfl⟩))
  refine wp_region_pi [(0, true), (1, true), (2, false), (3, false), (4, true), (5, true), (6, true), (7, true), (8, false)] (by kernel_rfl) (by kernel_rfl) rfl (by kernel_rfl) (fun _ _ _ _ _ h => h) (fun w' => St w w' [Blk b4 [.pointer (some ⟨g, 0, none⟩)] 69] [fun W => HB W (.slice Av (kb :: l).length cv) (kb :: l)]) (((HS.out.drew.sub 0).sub 1).sub 1) ?_
  intro OPS hops
  have hS := HS.out.drew
  clear HS; have HS := Lib.hid hS; clear hS
  iterate 2
    first | (refine wpPi_yield _ (by rw [hops.out]; simp only [List.getElem?_toArray, List.getElem?_cons_succ, List.getElem?_cons_zero]; rfl) (by first | rfl | (rw [hops.out]; rfl)) (fun w' hS => by first | exact run_ld (by kernel_rfl) (by rfl) (by rfl) (hS.cell (i := 0) (k := 0) rfl rfl) | (go_simp; rfl)) ?_; simp only [Act.put, List.setIfInBounds_toArray, List.set_cons_succ, List.set_cons_zero]) | (refine wpPi_skip (by rw [hops.out]; simp only [List.getElem?_toArray, List.getElem?_cons_succ, List.getElem?_cons_zero]; rfl) (by first | rfl | (rw [hops.out]; rfl)) ?_; simp only [Act.put, List.setIfInBounds_toArray, List.set_cons_succ, List.set_cons_zero])
  refine wpPi_act (by rw [hops.out]; simp only [List.getElem?_toArray, List.getElem?_cons_succ, List.getElem?_cons_zero]; rfl) (by first | rfl | (rw [hops.out]; rfl)) ?_
  go_simp
  refine (left_any g _ l _ (HS.out.eyeAt (i := 2) rfl)).mono ?_
  rintro e Wn ⟨rfl, rfl⟩
  refine ⟨(((HS.out.sub 0).sub 1).sub 1), ?_⟩
  try simp only [Act.put, List.setIfInBounds_toArray, List.set_cons_succ, List.set_cons_zero]
  refine wpPi_act (by rw [hops.out]; simp only [List.getElem?_toArray, List.getElem?_cons_succ, List.getElem?_cons_zero]; rfl) (by first | rfl | (rw [hops.out]; rfl)) ?_
  go_simp
  refine (HS.out.eyeRawOk 2 rfl l.length (Nat.le_refl _) HL2.out).mono ?_
  rintro e Wn ⟨v6, u6, rfl, hS⟩
  rw [List.take_length, List.drop_length] at hS
  clear HS; have HS := Lib.hid hS; clear hS
  obtain ⟨A6, k6, rfl⟩ := Row.sl (HS.out.res (i := 0) rfl)
  refine ⟨((((HS.out.sub 0).sub 0).sub 1).sub 1), ?_⟩
  try simp only [Act.put, List.setIfInBounds_toArray, List.set_cons_succ, List.set_cons_zero]
  iterate 4
    first | (refine wpPi_yield _ (by rw [hops.out]; simp only [List.getElem?_toArray, List.getElem?_cons_succ, List.getElem?_cons_zero]; rfl) (by first | rfl | (rw [hops.out]; rfl)) (fun w' hS => by first | exact run_ld (by kernel_rfl) (by rfl) (by rfl) (hS.cell (i := 0) (k := 0) rfl rfl) | (go_simp; rfl)) ?_; simp only [Act.put, List.setIfInBounds_toArray, List.set_cons_succ, List.set_cons_zero]) | (refine wpPi_skip (by rw [hops.out]; simp only [List.getElem?_toArray, List.getElem?_cons_succ, List.getElem?_cons_zero]; rfl) (by first | rfl | (rw [hops.out]; rfl)) ?_; simp only [Act.put, List.setIfInBounds_toArray, List.set_cons_succ, List.set_cons_zero])
  refine wpPi_act (by rw [hops.out]; simp only [List.getElem?_toArray, List.getElem?_cons_succ, List.getElem?_cons_zero]; rfl) (by first | rfl | (rw [hops.out]; rfl)) ?_
  refine s_st (v := (.slice A6 l.length k6)) HS.out 1 (by rfl) (by rfl) (by rfl) (by kernel_rfl) (by rfl) (by rfl) (by rw [rcs_length (⟨rfl, rfl, (by decide : 0 < 4294967296), (by decide : 0 < 4294967296), (by decide : 0 < 4294967296)⟩ : Req.ok ⟨(kb.toNat : Int), z32, 0, 0, 0, [], z32, []⟩)]; decide) ?_
  intro Wn hS
  rw [rcs_setB (hx := rfl) (hh := rfl) (bb' := l)] at hS
  clear HS; have HS := Lib.hid hS; clear hS
  refine ⟨((((HS.out.sub 0).sub 0).sub 1).sub 1), ?_⟩
  try simp only [Act.put, List.setIfInBounds_toArray, List.set_cons_succ, List.set_cons_zero]
  simp only [wpPi]
  clear OPS hops
  go_wp2_with (first
    | (refine atd 78 (by rfl) ?_; refine wl (by rfl) (s_lda (cs := rcs ⟨(kb.toNat : Int), z32, 0, 0, 0, [], z32, l⟩ (.slice none 0 0) (.slice A6 l.length k6)) HS.out 1 70 (by rfl) (by rfl) (by rfl) ag56 (by exact rcs_all (⟨rfl, rfl, (by decide : 0 < 4294967296), (by decide : 0 < 4294967296), (by decide : 0 < 4294967296)⟩ : Req.ok ⟨(kb.toNat : Int), z32, 0, 0, 0, [], z32, l⟩) _ _) (by exact rcs_length (⟨rfl, rfl, (by decide : 0 < 4294967296), (by decide : 0 < 4294967296), (by decide : 0 < 4294967296)⟩ : Req.ok ⟨(kb.toNat : Int), z32, 0, 0, 0, [], z32, l⟩) _ _) ?_)))
  refine (enc27 ⟨(kb.toNat : Int), z32, 0, 0, 0, [], z32, l⟩ (.slice none 0 0) (.slice A6 l.length k6) _ (⟨rfl, rfl, (by decide : 0 < 4294967296), (by decide : 0 < 4294967296), (by decide : 0 < 4294967296)⟩ : Req.ok ⟨(kb.toNat : Int), z32, 0, 0, 0, [], z32, l⟩) (HB.nil _ _ _) (Row.hb (HS.out.res (i := 0) rfl))).mono ?_
  rintro e Wn ⟨ve, rfl, hb⟩
  have hS := HS.out.take hb
  clear hb HS
  have HS := Lib.hid hS
  clear hS
  unfold chkI encOQ at *
  cases hc : chkQ ⟨(kb.toNat : Int), z32, 0, 0, 0, [], z32, l⟩ with
  | false =>
    rw [hc] at HS
    have HD := Lib.hid (HNO.out (fun h => by rw [hc] at h; cases h))
    simp only [Bool.false_eq_true, ↓reduceIte] at HS ⊢
    go_wp2_with (first
      | (refine atd 90 (by rfl) ?_; refine wl (by rfl) (wp_of_run (run_b56z (by rfl)) ?_))
      | (refine sto 2 (by rfl) ?_; refine wl (by rfl) (s_sta (cs := rcs (zq 0) (.slice none 0 0) (.slice none 0 0)) HS.out 5 70 (by rfl) (by rfl) (by rfl) ag56 (by rfl) (by exact rcs_length (zq_ok 0) _ _) (by exact cells_rq _ rfl rfl) (by exact Nat.le_of_eq (rcs_length (zq_ok _) _ _).symm) ?_); intro Wn hS; rw [splice_all ((rcs_length (zq_ok 0) _ _).trans (rcs_length (zq_ok _) _ _).symm)] at hS; clear HS; have HS := Lib.hid hS; clear hS))
    exact bodyPost_ret (ret_ct56 (p := 2) (u := 3) rfl _ b2 _ 56 (0, 0) _ (by rfl) (by rfl) (HS.out.blk (i := 5) rfl) (by rw [List.size_toArray]; exact rcs_length (zq_ok 0) _ _)) rfl ⟨zq 0, (.slice none 0 0), (.slice none 0 0), 290, rfl, HD.out, (((((((HS.out.sub 0).sub 0).sub 0).sub 0).sub 0).sub 0).dropF (Gs := []) (fun G hG => by cases hG)).nilRow.nilRow⟩
  | true =>
    rw [hc] at HS
    simp only [↓reduceIte] at HS ⊢
    obtain ⟨Ae, ke, rfl⟩ := Row.sl (HS.out.res (i := 0) rfl)
    cases hd : decide (encQ ⟨(kb.toNat : Int), z32, 0, 0, 0, [], z32, l⟩ = kb :: l) with
    | true =>
      have HD := Lib.hid hd
      have HP : DecP (kb :: l) ⟨(kb.toNat : Int), z32, 0, 0, 0, [], z32, l⟩ 0 := ⟨(⟨rfl, rfl, (by decide : 0 < 4294967296), (by decide : 0 < 4294967296), (by decide : 0 < 4294967296)⟩ : Req.ok ⟨(kb.toNat : Int), z32, 0, 0, 0, [], z32, l⟩), .inl ⟨rfl, hc, of_decide_eq_true hd⟩⟩
      clear hd
      go_wp2_with (first
        | (go_at_call 47; refine (equal47b _ _ (encQ ⟨(kb.toNat : Int), z32, 0, 0, 0, [], z32, l⟩) (kb :: l) _ (Row.hb (HS.out.res (i := 0) rfl)) (HS.out.fact (i := 0) rfl) HD.out).mono ?_; rintro e Wn ⟨rfl, rfl⟩)
        | (refine atd 91 (by rfl) ?_; refine wl (by rfl) (s_lda (cs := rcs ⟨(kb.toNat : Int), z32, 0, 0, 0, [], z32, l⟩ (.slice none 0 0) (.slice A6 l.length k6)) HS.out 2 70 (by rfl) (by rfl) (by rfl) ag56 (by exact rcs_all (⟨rfl, rfl, (by decide : 0 < 4294967296), (by decide : 0 < 4294967296), (by decide : 0 < 4294967296)⟩ : Req.ok ⟨(kb.toNat : Int), z32, 0, 0, 0, [], z32, l⟩) _ _) (by exact rcs_length (⟨rfl, rfl, (by decide : 0 < 4294967296), (by decide : 0 < 4294967296), (by decide : 0 < 4294967296)⟩ : Req.ok ⟨(kb.toNat : Int), z32, 0, 0, 0, [], z32, l⟩) _ _) ?_))
        | (refine sto 2 (by rfl) ?_; refine wl (by rfl) (s_sta (cs := rcs ⟨(kb.toNat : Int), z32, 0, 0, 0, [], z32, l⟩ (.slice none 0 0) (.slice A6 l.length k6)) HS.out 5 70 (by rfl) (by rfl) (by rfl) ag56 (by rfl) (by exact rcs_length (⟨rfl, rfl, (by decide : 0 < 4294967296), (by decide : 0 < 4294967296), (by decide : 0 < 4294967296)⟩ : Req.ok ⟨(kb.toNat : Int), z32, 0, 0, 0, [], z32, l⟩) _ _) (by exact cells_rq _ rfl rfl) (by exact Nat.le_of_eq (rcs_length (zq_ok _) _ _).symm) ?_); intro Wn hS; rw [splice_all ((rcs_length (⟨rfl, rfl, (by decide : 0 < 4294967296), (by decide : 0 < 4294967296), (by decide : 0 < 4294967296)⟩ : Req.ok ⟨(kb.toNat : Int), z32, 0, 0, 0, [], z32, l⟩) _ _).trans (rcs_length (zq_ok _) _ _).symm)] at hS; clear HS; have HS := Lib.hid hS; clear hS))
      exact bodyPost_ret (ret_ct56 (p := 2) (u := 3) rfl _ b2 _ 56 (0, 0) _ (by rfl) (by rfl) (HS.out.blk (i := 5) rfl) (by rw [List.size_toArray]; exact rcs_length (⟨rfl, rfl, (by decide : 0 < 4294967296), (by decide : 0 < 4294967296), (by decide : 0 < 4294967296)⟩ : Req.ok ⟨(kb.toNat : Int), z32, 0, 0, 0, [], z32, l⟩) _ _)) rfl ⟨⟨(kb.toNat : Int), z32, 0, 0, 0, [], z32, l⟩, (.slice none 0 0), (.slice A6 l.length k6), 0, rfl, HP, ((((((HS.out.sub 0).sub 1).sub 1).sub 1).sub 1).dropF (Gs := []) (fun G hG => by cases hG)).nilRow⟩
    | false =>
      have HD := Lib.hid hd
      have HP := HNO.out (fun _ => of_decide_eq_false hd)
      clear hd
      go_wp2_with (first
        | (go_at_call 47; refine (equal47b _ _ (encQ ⟨(kb.toNat : Int), z32, 0, 0, 0, [], z32, l⟩) (kb :: l) _ (Row.hb (HS.out.res (i := 0) rfl)) (HS.out.fact (i := 0) rfl) HD.out).mono ?_; rintro e Wn ⟨rfl, rfl⟩)
        | (refine atd 90 (by rfl) ?_; refine wl (by rfl) (wp_of_run (run_b56z (by rfl)) ?_))
        | (refine sto 2 (by rfl) ?_; refine wl (by rfl) (s_sta (cs := rcs (zq 0) (.slice none 0 0) (.slice none 0 0)) HS.out 5 70 (by rfl) (by rfl) (by rfl) ag56 (by rfl) (by exact rcs_length (zq_ok 0) _ _) (by exact cells_rq _ rfl rfl) (by exact Nat.le_of_eq (rcs_length (zq_ok _) _ _).symm) ?_); intro Wn hS; rw [splice_all ((rcs_length (zq_ok 0) _ _).trans (rcs_length (zq_ok _) _ _).symm)] at hS; clear HS; have HS := Lib.hid hS; clear hS))
      exact bodyPost_ret (ret_ct56 (p := 2) (u := 3) rfl _ b2 _ 56 (0, 0) _ (by rfl) (by rfl) (HS.out.blk (i := 5) rfl) (by rw [List.size_toArray]; exact rcs_length (zq_ok 0) _ _)) rfl ⟨zq 0, (.slice none 0 0), (.slice none 0 0), 290, rfl, HP, (((((((HS.out.sub 0).sub 0).sub 0).sub 0).sub 0).sub 0).dropF (Gs := []) (fun G hG => by cases hG)).nilRow.nilRow⟩
end
section
open Go Go.RowKit Go.Proofs
attribute [local irreducible] Calls
set_option maxHeartbeats 2000000 in
set_option maxRecDepth 100000 in
theorem dec29b (v : Value) (kb : UInt8) (l : List UInt8) (w : World) (hv : HB w v (kb :: l)) (hl : (kb :: l).length ≤ 70368744177664) (hf : fldK (kb.toNat : Int) = 3) :
    Calls Try.prog 29 #[v] w fun e w' => ∃ r s b c, e = .returned (.tuple #[.agg (rcs r s b).toArray, .int .i64 c]) ∧ DecP (kb :: l) r c ∧ St w w' [Row s 5 1 r.sb.length (bs r.sb), Row b 5 1 r.bb.length (bs r.bb)] [] := by
  obtain ⟨Av, cv, rfl, _⟩ := hv.shape
  have HS := Lib.hid ((St.start w).addF hv.away0)
  have HL := Lib.hid hl; have HN := Lib.hid (numN1 kb l).1; have HM := Lib.hid (numN1 kb l).2
  have hkb := kb.toNat_lt
  have hl2 : l.length ≤ 70368744177664 := by simp at hl; omega
  have HL2 := Lib.hid hl2
  have hl3 : (numL l).length ≤ 70368744177664 := by
    unfold numL
    split
    · rw [List.length_drop]; omega
    · omega
  have HL3 := Lib.hid hl3
  have hF : ∀ W, Calls Try.prog 48 #[.int .i64 (kb.toNat : Int)] W fun e w' => e = .returned (.int .i64 3) ∧ W = w' := fun W => by
    have := fields48 (kb.toNat : Int) W
    rwa [hf] at this
  have HF := Lib.hid hF
  have hrq : rdF (fldK (kb.toNat : Int)) (kb.toNat : Int) l = ⟨(kb.toNat : Int), (hshV l), (numV (hshL l)), (numV (numL (hshL l))), 0, [], z32, []⟩ := by rw [hf]; rfl
  have HRQ := Lib.hid hrq
  have hno : (chkQ ⟨(kb.toNat : Int), (hshV l), (numV (hshL l)), (numV (numL (hshL l))), 0, [], z32, []⟩ = true → encQ ⟨(kb.toNat : Int), (hshV l), (numV (hshL l)), (numV (numL (hshL l))), 0, [], z32, []⟩ ≠ kb :: l) → DecP (kb :: l) (zq 0) 290 := fun h => DecP.no fun r e hc => by rw [HRQ.out] at e; subst e; exact h hc
  have HNO := Lib.hid hno
  have hb8 := numV_lt (hshL l)
  have hb15 := numV_lt (numL (hshL l))
  clear hv hl hl2 hl3 hF hf hrq hno
  go_enter Try.func29, Try.ntmps29
  go_wp2_with (first
    | (refine atd 2 (by rfl) ?_; refine wl (by rfl) (s_al (l := rcs (zq 0) (.slice none 0 0) (.slice none 0 0)) HS.out (by rfl) z56 (by rfl) ?_); intro b2 Wn hS; clear HS; have HS := Lib.hid hS; clear hS)
    | (go_at_call 36; refine (look_new _ (kb :: l) _ (HS.out.fact (i := 0) rfl) HL.out).mono ?_; rintro e Wn ⟨g, u0, rfl, hb⟩; have hS := HS.out.take hb; clear hb; clear HS; have HS := Lib.hid hS; clear hS)
    | (refine atd 4 (by rfl) ?_; refine wl (by rfl) (s_al (l := [.pointer none]) HS.out (by rfl) z69 (by rfl) ?_); intro b4 Wn hS; clear HS; have HS := Lib.hid hS; clear hS)
    | (refine sto 4 (by rfl) ?_; refine wl (by rfl) (s_st (v := .pointer (some ⟨g, 0, none⟩)) HS.out 0 (by rfl) (by rfl) (by rfl) (by kernel_rfl) (by rfl) (by rfl) (by exact Nat.zero_lt_one) ?_); intro Wn hS; clear HS; have HS := Lib.hid hS; clear hS)
    | (go_at_call 51; refine (HS.out.eyeNum1 1 rfl HN.out HM.out (j := 0) rfl).mono ?_; rintro e Wn ⟨u1, rfl, hS⟩; clear HS; have HS := Lib.hid hS; clear hS)
    | (refine atd 18 (by rfl) ?_; refine wl (by rfl) (wp_of_run (run_b56 (k := (kb.toNat : Int)) (by rfl) (by rfl)) ?_))
    | (refine atd 7 (by rfl) ?_; refine wl (by rfl) (s_al (l := rcs (zq 0) (.slice none 0 0) (.slice none 0 0)) HS.out (by rfl) z56 (by rfl) ?_); intro b7 Wn hS; clear HS; have HS := Lib.hid hS; clear hS)
    | (refine sto 7 (by rfl) ?_; refine wl (by rfl) (s_sta (cs := rcs (zq (kb.toNat : Int)) (.slice none 0 0) (.slice none 0 0)) HS.out 0 70 (by rfl) (by rfl) (by rfl) ag56 (by rfl) (by exact rcs_length (zq_ok _) _ _) (by exact cells_rq _ rfl rfl) (by exact Nat.le_of_eq (rcs_length (zq_ok _) _ _).symm) ?_); intro Wn hS; rw [splice_all ((rcs_length (zq_ok _) _ _).trans (rcs_length (zq_ok _) _ _).symm)] at hS; have hS : St w Wn [Blk b7 (rcs ⟨(kb.toNat : Int), z32, 0, 0, 0, [], z32, []⟩ (.slice none 0 0) (.slice none 0 0)) 56, Blk b4 [.pointer (some ⟨g, 0, none⟩)] 69, EyeR g u1 l, Blk b2 _ 56] _ := hS; clear HS; have HS := Lib.hid hS; clear hS)
    | (refine atd 20 (by rfl) ?_; refine wl (by rfl) (s_ld (v := .int .i64 (kb.toNat : Int)) HS.out 0 (by rfl) (by rfl) (by rfl) (by kernel_rfl) (by exact rcs_0 _ _) ?_))
    | (go_at_call 48; refine (HF.out _).mono ?_; rintro e Wn ⟨rfl, rfl⟩)
    | (go_at_call 52; refine (HS.out.hash52 2 rfl (j := 1) rfl HL2.out).mono ?_; rintro e Wn ⟨u2, rfl, hS⟩; clear HS; have HS := Lib.hid hS; clear hS)
    | (refine sto 31 (by rfl) ?_; refine wl (by rfl) (s_sta (cs := bs (hshV l)) HS.out 0 32 (by rfl) (by rfl) (by rfl) ag52 (by rfl) (by rw [bs_length]; exact hshV_len _) (by exact all_bs _) (by rw [rcs_length (⟨rfl, rfl, (by decide : 0 < 4294967296), (by decide : 0 < 4294967296), (by decide : 0 < 4294967296)⟩ : Req.ok ⟨(kb.toNat : Int), z32, 0, 0, 0, [], z32, []⟩)]; decide) ?_); intro Wn hS; rw [rcs_splTx (hx := hshV_len _) (ht := rfl)] at hS; clear HS; have HS := Lib.hid hS; clear hS)
    | (go_at_call 51; refine (HS.out.eyeNum4 2 rfl (j := 1) rfl).mono ?_; rintro e Wn ⟨u3, rfl, hS⟩; clear HS; have HS := Lib.hid hS; clear hS)
    | (refine sto 36 (by rfl) ?_; refine wl (by rfl) (s_st (v := .int .u32 ((numV (hshL l) : Nat) : Int)) HS.out 0 (by rfl) (by rfl) (by rfl) (by kernel_rfl) (by rfl) (by rfl) (by rw [rcs_length (⟨hshV_len _, rfl, (by decide : 0 < 4294967296), (by decide : 0 < 4294967296), (by decide : 0 < 4294967296)⟩ : Req.ok ⟨(kb.toNat : Int), (hshV l), 0, 0, 0, [], z32, []⟩)]; decide) ?_); intro Wn hS; rw [rcs_setN (hx := (hshV_len _))] at hS; clear HS; have HS := Lib.hid hS; clear hS)
    | (go_at_call 51; refine (HS.out.eyeNum4 2 rfl (j := 1) rfl).mono ?_; rintro e Wn ⟨u4, rfl, hS⟩; clear HS; have HS := Lib.hid hS; clear hS)
    | (refine sto 43 (by rfl) ?_; refine wl (by rfl) (s_st (v := .int .u32 ((numV (numL (hshL l)) : Nat) : Int)) HS.out 0 (by rfl) (by rfl) (by rfl) (by kernel_rfl) (by rfl) (by rfl) (by rw [rcs_length (⟨hshV_len _, rfl, numV_lt _, (by decide : 0 < 4294967296), (by decide : 0 < 4294967296)⟩ : Req.ok ⟨(kb.toNat : Int), (hshV l), (numV (hshL l)), 0, 0, [], z32, []⟩)]; decide) ?_); intro Wn hS; rw [rcs_setH (hx := (hshV_len _))] at hS; clear HS; have HS := Lib.hid hS; clear hS)
    | (refine atd 78 (by rfl) ?_; refine wl (by rfl) (s_lda (cs := rcs ⟨(kb.toNat : Int), (hshV l), (numV (hshL l)), (numV (numL (hshL l))), 0, [], z32, []⟩ (.slice none 0 0) (.slice none 0 0)) HS.out 0 70 (by rfl) (by rfl) (by rfl) ag56 (by exact rcs_all (⟨hshV_len _, rfl, numV_lt _, numV_lt _, (by decide : 0 < 4294967296)⟩ : Req.ok ⟨(kb.toNat : Int), (hshV l), (numV (hshL l)), (numV (numL (hshL l))), 0, [], z32, []⟩) _ _) (by exact rcs_length (⟨hshV_len _, rfl, numV_lt _, numV_lt _, (by decide : 0 < 4294967296)⟩ : Req.ok ⟨(kb.toNat : Int), (hshV l), (numV (hshL l)), (numV (numL (hshL l))), 0, [], z32, []⟩) _ _) ?_)))
  refine (enc27 ⟨(kb.toNat : Int), (hshV l), (numV (hshL l)), (numV (numL (hshL l))), 0, [], z32, []⟩ (.slice none 0 0) (.slice none 0 0) _ (⟨hshV_len _, rfl, numV_lt _, numV_lt _, (by decide : 0 < 4294967296)⟩ : Req.ok ⟨(kb.toNat : Int), (hshV l), (numV (hshL l)), (numV (numL (hshL l))), 0, [], z32, []⟩) (HB.nil _ _ _) (HB.nil _ _ _)).mono ?_
  rintro e Wn ⟨ve, rfl, hb⟩
  have hS := HS.out.take hb
  clear hb HS
  have HS := Lib.hid hS
  clear hS
  unfold chkI encOQ at *
  cases hc : chkQ ⟨(kb.toNat : Int), (hshV l), (numV (hshL l)), (numV (numL (hshL l))), 0, [], z32, []⟩ with
  | false =>
    rw [hc] at HS
    have HD := Lib.hid (HNO.out (fun h => by rw [hc] at h; cases h))
    simp only [Bool.false_eq_true, ↓reduceIte] at HS ⊢
    go_wp2_with (first
      | (refine atd 90 (by rfl) ?_; refine wl (by rfl) (wp_of_run (run_b56z (by rfl)) ?_))
      | (refine sto 2 (by rfl) ?_; refine wl (by rfl) (s_sta (cs := rcs (zq 0) (.slice none 0 0) (.slice none 0 0)) HS.out 4 70 (by rfl) (by rfl) (by rfl) ag56 (by rfl) (by exact rcs_length (zq_ok 0) _ _) (by exact cells_rq _ rfl rfl) (by exact Nat.le_of_eq (rcs_length (zq_ok _) _ _).symm) ?_); intro Wn hS; rw [splice_all ((rcs_length (zq_ok 0) _ _).trans (rcs_length (zq_ok _) _ _).symm)] at hS; clear HS; have HS := Lib.hid hS; clear hS))
    exact bodyPost_ret (ret_ct56 (p := 2) (u := 3) rfl _ b2 _ 56 (0, 0) _ (by rfl) (by rfl) (HS.out.blk (i := 4) rfl) (by rw [List.size_toArray]; exact rcs_length (zq_ok 0) _ _)) rfl ⟨zq 0, (.slice none 0 0), (.slice none 0 0), 290, rfl, HD.out, ((((((HS.out.sub 0).sub 0).sub 0).sub 0).sub 0).dropF (Gs := []) (fun G hG => by cases hG)).nilRow.nilRow⟩
  | true =>
    rw [hc] at HS
    simp only [↓reduceIte] at HS ⊢
    obtain ⟨Ae, ke, rfl⟩ := Row.sl (HS.out.res (i := 0) rfl)
    cases hd : decide (encQ ⟨(kb.toNat : Int), (hshV l), (numV (hshL l)), (numV (numL (hshL l))), 0, [], z32, []⟩ = kb :: l) with
    | true =>
      have HD := Lib.hid hd
      have HP : DecP (kb :: l) ⟨(kb.toNat : Int), (hshV l), (numV (hshL l)), (numV (numL (hshL l))), 0, [], z32, []⟩ 0 := ⟨(⟨hshV_len _, rfl, numV_lt _, numV_lt _, (by decide : 0 < 4294967296)⟩ : Req.ok ⟨(kb.toNat : Int), (hshV l), (numV (hshL l)), (numV (numL (hshL l))), 0, [], z32, []⟩), .inl ⟨rfl, hc, of_decide_eq_true hd⟩⟩
      clear hd
      go_wp2_with (first
        | (go_at_call 47; refine (equal47b _ _ (encQ ⟨(kb.toNat : Int), (hshV l), (numV (hshL l)), (numV (numL (hshL l))), 0, [], z32, []⟩) (kb :: l) _ (Row.hb (HS.out.res (i := 0) rfl)) (HS.out.fact (i := 0) rfl) HD.out).mono ?_; rintro e Wn ⟨rfl, rfl⟩)
        | (refine atd 91 (by rfl) ?_; refine wl (by rfl) (s_lda (cs := rcs ⟨(kb.toNat : Int), (hshV l), (numV (hshL l)), (numV (numL (hshL l))), 0, [], z32, []⟩ (.slice none 0 0) (.slice none 0 0)) HS.out 1 70 (by rfl) (by rfl) (by rfl) ag56 (by exact rcs_all (⟨hshV_len _, rfl, numV_lt _, numV_lt _, (by decide : 0 < 4294967296)⟩ : Req.ok ⟨(kb.toNat : Int), (hshV l), (numV (hshL l)), (numV (numL (hshL l))), 0, [], z32, []⟩) _ _) (by exact rcs_length (⟨hshV_len _, rfl, numV_lt _, numV_lt _, (by decide : 0 < 4294967296)⟩ : Req.ok ⟨(kb.toNat : Int), (hshV l), (numV (hshL l)), (numV (numL (hshL l))), 0, [], z32, []⟩) _ _) ?_))
        | (refine sto 2 (by rfl) ?_; refine wl (by rfl) (s_sta (cs := rcs ⟨(kb.toNat : Int), (hshV l), (numV (hshL l)), (numV (numL (hshL l))), 0, [], z32, []⟩ (.slice none 0 0) (.slice none 0 0)) HS.out 4 70 (by rfl) (by rfl) (by rfl) ag56 (by rfl) (by exact rcs_length (⟨hshV_len _, rfl, numV_lt _, numV_lt _, (by decide : 0 < 4294967296)⟩ : Req.ok ⟨(kb.toNat : Int), (hshV l), (numV (hshL l)), (numV (numL (hshL l))), 0, [], z32, []⟩) _ _) (by exact cells_rq _ rfl rfl) (by exact Nat.le_of_eq (rcs_length (zq_ok _) _ _).symm) ?_); intro Wn hS; rw [splice_all ((rcs_length (⟨hshV_len _, rfl, numV_lt _, numV_lt _, (by decide : 0 < 4294967296)⟩ : Req.ok ⟨(kb.toNat : Int), (hshV l), (numV (hshL l)), (numV (numL (hshL l))), 0, [], z32, []⟩) _ _).trans (rcs_length (zq_ok _) _ _).symm)] at hS; clear HS; have HS := Lib.hid hS; clear hS))
      exact bodyPost_ret (ret_ct56 (p := 2) (u := 3) rfl _ b2 _ 56 (0, 0) _ (by rfl) (by rfl) (HS.out.blk (i := 4) rfl) (by rw [List.size_toArray]; exact rcs_length (⟨hshV_len _, rfl, numV_lt _, numV_lt _, (by decide : 0 < 4294967296)⟩ : Req.ok ⟨(kb.toNat : Int), (hshV l), (numV (hshL l)), (numV (numL (hshL l))), 0, [], z32, []⟩) _ _)) rfl ⟨⟨(kb.toNat : Int), (hshV l), (numV (hshL l)), (numV (numL (hshL l))), 0, [], z32, []⟩, (.slice none 0 0), (.slice none 0 0), 0, rfl, HP, ((((((HS.out.sub 0).sub 0).sub 0).sub 0).sub 0).dropF (Gs := []) (fun G hG => by cases hG)).nilRow.nilRow⟩
    | false =>
      have HD := Lib.hid hd
      have HP := HNO.out (fun _ => of_decide_eq_false hd)
      clear hd
      go_wp2_with (first
        | (go_at_call 47; refine (equal47b _ _ (encQ ⟨(kb.toNat : Int), (hshV l), (numV (hshL l)), (numV (numL (hshL l))), 0, [], z32, []⟩) (kb :: l) _ (Row.hb (HS.out.res (i := 0) rfl)) (HS.out.fact (i := 0) rfl) HD.out).mono ?_; rintro e Wn ⟨rfl, rfl⟩)
        | (refine atd 90 (by rfl) ?_; refine wl (by rfl) (wp_of_run (run_b56z (by rfl)) ?_))
        | (refine sto 2 (by rfl) ?_; refine wl (by rfl) (s_sta (cs := rcs (zq 0) (.slice none 0 0) (.slice none 0 0)) HS.out 4 70 (by rfl) (by rfl) (by rfl) ag56 (by rfl) (by exact rcs_length (zq_ok 0) _ _) (by exact cells_rq _ rfl rfl) (by exact Nat.le_of_eq (rcs_length (zq_ok _) _ _).symm) ?_); intro Wn hS; rw [splice_all ((rcs_length (zq_ok 0) _ _).trans (rcs_length (zq_ok _) _ _).symm)] at hS; clear HS; have HS := Lib.hid hS; clear hS))
      exact bodyPost_ret (ret_ct56 (p := 2) (u := 3) rfl _ b2 _ 56 (0, 0) _ (by rfl) (by rfl) (HS.out.blk (i := 4) rfl) (by rw [List.size_toArray]; exact rcs_length (zq_ok 0) _ _)) rfl ⟨zq 0, (.slice none 0 0), (.slice none 0 0), 290, rfl, HP, ((((((HS.out.sub 0).sub 0).sub 0).sub 0).sub 0).dropF (Gs := []) (fun G hG => by cases hG)).nilRow.nilRow⟩
end
section
open Go Go.RowKit Go.Proofs
attribute [local irreducible] Calls
set_option maxHeartbeats 2000000 in
set_option maxRecDepth 100000 in
theorem dec29c (v : Value) (kb : UInt8) (l : List UInt8) (w : World) (hv : HB w v (kb :: l)) (hl : (kb :: l).length ≤ 70368744177664) (hf : fldK (kb.toNat : Int) = 2) :
    Calls Try.prog 29 #[v] w fun e w' => ∃ r s b c, e = .returned (.tuple #[.agg (rcs r s b).toArray, .int .i64 c]) ∧ DecP (kb :: l) r c ∧ St w w' [Row s 5 1 r.sb.length (bs r.sb), Row b 5 1 r.bb.length (bs r.bb)] [] := by
  obtain ⟨Av, cv, rfl, _⟩ := hv.shape
  have HS := Lib.hid ((St.start w).addF hv.away0)
  have HL := Lib.hid hl; have HN := Lib.hid (numN1 kb l).1; have HM := Lib.hid (numN1 kb l).2
  have hkb := kb.toNat_lt
  have hl2 : l.length ≤ 70368744177664 := by simp at hl; omega
  have HL2 := Lib.hid hl2
  have hl3 : (numL l).length ≤ 70368744177664 := by
    unfold numL
    split
    · rw [List.length_drop]; omega
    · omega
  have HL3 := Lib.hid hl3
  have hF : ∀ W, Calls Try.prog 48 #[.int .i64 (kb.toNat : Int)] W fun e w' => e = .returned (.int .i64 2) ∧ W = w' := fun W => by
    have := fields48 (kb.toNat : Int) W
    rwa [hf] at this
  have HF := Lib.hid hF
  have hrq : rdF (fldK (kb.toNat : Int)) (kb.toNat : Int) l = ⟨(kb.toNat : Int), z32, 0, (numV l), 0, [], z32, []⟩ := by rw [hf]; rfl
  have HRQ := Lib.hid hrq
  have hno : (chkQ ⟨(kb.toNat : Int), z32, 0, (numV l), 0, [], z32, []⟩ = true → encQ ⟨(kb.toNat : Int), z32, 0, (numV l), 0, [], z32, []⟩ ≠ kb :: l) → DecP (kb :: l) (zq 0) 290 := fun h => DecP.no fun r e hc => by rw [HRQ.out] at e; subst e; exact h hc
  have HNO := Lib.hid hno
  have hb1 := numV_lt l
  clear hv hl hl2 hl3 hF hf hrq hno
  go_enter Try.func29, Try.ntmps29
  go_wp2_with (first
    | (refine atd 2 (by rfl) ?_; refine wl (by rfl) (s_al (l := rcs (zq 0) (.slice none 0 0) (.slice none 0 0)) HS.out (by rfl) z56 (by rfl) ?_); intro b2 Wn hS; clear HS; have HS := Lib.hid hS; clear hS)
    | (go_at_call 36; refine (look_new _ (kb :: l) _ (HS.out.fact (i := 0) rfl) HL.out).mono ?_; rintro e Wn ⟨g, u0, rfl, hb⟩; have hS := HS.out.take hb; clear hb; clear HS; have HS := Lib.hid hS; clear hS)
    | (refine atd 4 (by rfl) ?_; refine wl (by rfl) (s_al (l := [.pointer none]) HS.out (by rfl) z69 (by rfl) ?_); intro b4 Wn hS; clear HS; have HS := Lib.hid hS; clear hS)
    | (refine sto 4 (by rfl) ?_; refine wl (by rfl) (s_st (v := .pointer (some ⟨g, 0, none⟩)) HS.out 0 (by rfl) (by rfl) (by rfl) (by kernel_rfl) (by rfl) (by rfl) (by exact Nat.zero_lt_one) ?_); intro Wn hS; clear HS; have HS := Lib.hid hS; clear hS)
    | (go_at_call 51; refine (HS.out.eyeNum1 1 rfl HN.out HM.out (j := 0) rfl).mono ?_; rintro e Wn ⟨u1, rfl, hS⟩; clear HS; have HS := Lib.hid hS; clear hS)
    | (refine atd 18 (by rfl) ?_; refine wl (by rfl) (wp_of_run (run_b56 (k := (kb.toNat : Int)) (by rfl) (by rfl)) ?_))
    | (refine atd 7 (by rfl) ?_; refine wl (by rfl) (s_al (l := rcs (zq 0) (.slice none 0 0) (.slice none 0 0)) HS.out (by rfl) z56 (by rfl) ?_); intro b7 Wn hS; clear HS; have HS := Lib.hid hS; clear hS)
    | (refine sto 7 (by rfl) ?_; refine wl (by rfl) (s_sta (cs := rcs (zq (kb.toNat : Int)) (.slice none 0 0) (.slice none 0 0)) HS.out 0 70 (by rfl) (by rfl) (by rfl) ag56 (by rfl) (by exact rcs_length (zq_ok _) _ _) (by exact cells_rq _ rfl rfl) (by exact Nat.le_of_eq (rcs_length (zq_ok _) _ _).symm) ?_); intro Wn hS; rw [splice_all ((rcs_length (zq_ok _) _ _).trans (rcs_length (zq_ok _) _ _).symm)] at hS; have hS : St w Wn [Blk b7 (rcs ⟨(kb.toNat : Int), z32, 0, 0, 0, [], z32, []⟩ (.slice none 0 0) (.slice none 0 0)) 56, Blk b4 [.pointer (some ⟨g, 0, none⟩)] 69, EyeR g u1 l, Blk b2 _ 56] _ := hS; clear HS; have HS := Lib.hid hS; clear hS)
    | (refine atd 20 (by rfl) ?_; refine wl (by rfl) (s_ld (v := .int .i64 (kb.toNat : Int)) HS.out 0 (by rfl) (by rfl) (by rfl) (by kernel_rfl) (by exact rcs_0 _ _) ?_))
    | (go_at_call 48; refine (HF.out _).mono ?_; rintro e Wn ⟨rfl, rfl⟩)
    | (go_at_call 51; refine (HS.out.eyeNum4 2 rfl (j := 1) rfl).mono ?_; rintro e Wn ⟨u2, rfl, hS⟩; clear HS; have HS := Lib.hid hS; clear hS)
    | (refine sto 43 (by rfl) ?_; refine wl (by rfl) (s_st (v := .int .u32 ((numV l : Nat) : Int)) HS.out 0 (by rfl) (by rfl) (by rfl) (by kernel_rfl) (by rfl) (by rfl) (by rw [rcs_length (⟨rfl, rfl, (by decide : 0 < 4294967296), (by decide : 0 < 4294967296), (by decide : 0 < 4294967296)⟩ : Req.ok ⟨(kb.toNat : Int), z32, 0, 0, 0, [], z32, []⟩)]; decide) ?_); intro Wn hS; rw [rcs_setH (hx := rfl)] at hS; clear HS; have HS := Lib.hid hS; clear hS)
    | (refine atd 78 (by rfl) ?_; refine wl (by rfl) (s_lda (cs := rcs ⟨(kb.toNat : Int), z32, 0, (numV l), 0, [], z32, []⟩ (.slice none 0 0) (.slice none 0 0)) HS.out 0 70 (by rfl) (by rfl) (by rfl) ag56 (by exact rcs_all (⟨rfl, rfl, (by decide : 0 < 4294967296), numV_lt _, (by decide : 0 < 4294967296)⟩ : Req.ok ⟨(kb.toNat : Int), z32, 0, (numV l), 0, [], z32, []⟩) _ _) (by exact rcs_length (⟨rfl, rfl, (by decide : 0 < 4294967296), numV_lt _, (by decide : 0 < 4294967296)⟩ : Req.ok ⟨(kb.toNat : Int), z32, 0, (numV l), 0, [], z32, []⟩) _ _) ?_)))
  refine (enc27 ⟨(kb.toNat : Int), z32, 0, (numV l), 0, [], z32, []⟩ (.slice none 0 0) (.slice none 0 0) _ (⟨rfl, rfl, (by decide : 0 < 4294967296), numV_lt _, (by decide : 0 < 4294967296)⟩ : Req.ok ⟨(kb.toNat : Int), z32, 0, (numV l), 0, [], z32, []⟩) (HB.nil _ _ _) (HB.nil _ _ _)).mono ?_
  rintro e Wn ⟨ve, rfl, hb⟩
  have hS := HS.out.take hb
  clear hb HS
  have HS := Lib.hid hS
  clear hS
  unfold chkI encOQ at *
  cases hc : chkQ ⟨(kb.toNat : Int), z32, 0, (numV l), 0, [], z32, []⟩ with
  | false =>
    rw [hc] at HS
    have HD := Lib.hid (HNO.out (fun h => by rw [hc] at h; cases h))
    simp only [Bool.false_eq_true, ↓reduceIte] at HS ⊢
    go_wp2_with (first
      | (refine atd 90 (by rfl) ?_; refine wl (by rfl) (wp_of_run (run_b56z (by rfl)) ?_))
      | (refine sto 2 (by rfl) ?_; refine wl (by rfl) (s_sta (cs := rcs (zq 0) (.slice none 0 0) (.slice none 0 0)) HS.out 4 70 (by rfl) (by rfl) (by rfl) ag56 (by rfl) (by exact rcs_length (zq_ok 0) _ _) (by exact cells_rq _ rfl rfl) (by exact Nat.le_of_eq (rcs_length (zq_ok _) _ _).symm) ?_); intro Wn hS; rw [splice_all ((rcs_length (zq_ok 0) _ _).trans (rcs_length (zq_ok _) _ _).symm)] at hS; clear HS; have HS := Lib.hid hS; clear hS))
    exact bodyPost_ret (ret_ct56 (p := 2) (u := 3) rfl _ b2 _ 56 (0, 0) _ (by rfl) (by rfl) (HS.out.blk (i := 4) rfl) (by rw [List.size_toArray]; exact rcs_length (zq_ok 0) _ _)) rfl ⟨zq 0, (.slice none 0 0), (.slice none 0 0), 290, rfl, HD.out, ((((((HS.out.sub 0).sub 0).sub 0).sub 0).sub 0).dropF (Gs := []) (fun G hG => by cases hG)).nilRow.nilRow⟩
  | true =>
    rw [hc] at HS
    simp only [↓reduceIte] at HS ⊢
    obtain ⟨Ae, ke, rfl⟩ := Row.sl (HS.out.res (i := 0) rfl)
    cases hd : decide (encQ ⟨(kb.toNat : Int), z32, 0, (numV l), 0, [], z32, []⟩ = kb :: l) with
    | true =>
      have HD := Lib.hid hd
      have HP : DecP (kb :: l) ⟨(kb.toNat : Int), z32, 0, (numV l), 0, [], z32, []⟩ 0 := ⟨(⟨rfl, rfl, (by decide : 0 < 4294967296), numV_lt _, (by decide : 0 < 4294967296)⟩ : Req.ok ⟨(kb.toNat : Int), z32, 0, (numV l), 0, [], z32, []⟩), .inl ⟨rfl, hc, of_decide_eq_true hd⟩⟩
      clear hd
      go_wp2_with (first
        | (go_at_call 47; refine (equal47b _ _ (encQ ⟨(kb.toNat : Int), z32, 0, (numV l), 0, [], z32, []⟩) (kb :: l) _ (Row.hb (HS.out.res (i := 0) rfl)) (HS.out.fact (i := 0) rfl) HD.out).mono ?_; rintro e Wn ⟨rfl, rfl⟩)
        | (refine atd 91 (by rfl) ?_; refine wl (by rfl) (s_lda (cs := rcs ⟨(kb.toNat : Int), z32, 0, (numV l), 0, [], z32, []⟩ (.slice none 0 0) (.slice none 0 0)) HS.out 1 70 (by rfl) (by rfl) (by rfl) ag56 (by exact rcs_all (⟨rfl, rfl, (by decide : 0 < 4294967296), numV_lt _, (by decide : 0 < 4294967296)⟩ : Req.ok ⟨(kb.toNat : Int), z32, 0, (numV l), 0, [], z32, []⟩) _ _) (by exact rcs_length (⟨rfl, rfl, (by decide : 0 < 4294967296), numV_lt _, (by decide : 0 < 4294967296)⟩ : Req.ok ⟨(kb.toNat : Int), z32, 0, (numV l), 0, [], z32, []⟩) _ _) ?_))
        | (refine sto 2 (by rfl) ?_; refine wl (by rfl) (s_sta (cs := rcs ⟨(kb.toNat : Int), z32, 0, (numV l), 0, [], z32, []⟩ (.slice none 0 0) (.slice none 0 0)) HS.out 4 70 (by rfl) (by rfl) (by rfl) ag56 (by rfl) (by exact rcs_length (⟨rfl, rfl, (by decide : 0 < 4294967296), numV_lt _, (by decide : 0 < 4294967296)⟩ : Req.ok ⟨(kb.toNat : Int), z32, 0, (numV l), 0, [], z32, []⟩) _ _) (by exact cells_rq _ rfl rfl) (by exact Nat.le_of_eq (rcs_length (zq_ok _) _ _).symm) ?_); intro Wn hS; rw [splice_all ((rcs_length (⟨rfl, rfl, (by decide : 0 < 4294967296), numV_lt _, (by decide : 0 < 4294967296)⟩ : Req.ok ⟨(kb.toNat : Int), z32, 0, (numV l), 0, [], z32, []⟩) _ _).trans (rcs_length (zq_ok _) _ _).symm)] at hS; clear HS; have HS := Lib.hid hS; clear hS))
      exact bodyPost_ret (ret_ct56 (p := 2) (u := 3) rfl _ b2 _ 56 (0, 0) _ (by rfl) (by rfl) (HS.out.blk (i := 4) rfl) (by rw [List.size_toArray]; exact rcs_length (⟨rfl, rfl, (by decide : 0 < 4294967296), numV_lt _, (by decide : 0 < 4294967296)⟩ : Req.ok ⟨(kb.toNat : Int), z32, 0, (numV l), 0, [], z32, []⟩) _ _)) rfl ⟨⟨(kb.toNat : Int), z32, 0, (numV l), 0, [], z32, []⟩, (.slice none 0 0), (.slice none 0 0), 0, rfl, HP, ((((((HS.out.sub 0).sub 0).sub 0).sub 0).sub 0).dropF (Gs := []) (fun G hG => by cases hG)).nilRow.nilRow⟩
    | false =>
      have HD := Lib.hid hd
      have HP := HNO.out (fun _ => of_decide_eq_false hd)
      clear hd
      go_wp2_with (first
        | (go_at_call 47; refine (equal47b _ _ (encQ ⟨(kb.toNat : Int), z32, 0, (numV l), 0, [], z32, []⟩) (kb :: l) _ (Row.hb (HS.out.res (i := 0) rfl)) (HS.out.fact (i := 0) rfl) HD.out).mono ?_; rintro e Wn ⟨rfl, rfl⟩)
        | (refine atd 90 (by rfl) ?_; refine wl (by rfl) (wp_of_run (run_b56z (by rfl)) ?_))
        | (refine sto 2 (by rfl) ?_; refine wl (by rfl) (s_sta (cs := rcs (zq 0) (.slice none 0 0) (.slice none 0 0)) HS.out 4 70 (by rfl) (by rfl) (by rfl) ag56 (by rfl) (by exact rcs_length (zq_ok 0) _ _) (by exact cells_rq _ rfl rfl) (by exact Nat.le_of_eq (rcs_length (zq_ok _) _ _).symm) ?_); intro Wn hS; rw [splice_all ((rcs_length (zq_ok 0) _ _).trans (rcs_length (zq_ok _) _ _).symm)] at hS; clear HS; have HS := Lib.hid hS; clear hS))
      exact bodyPost_ret (ret_ct56 (p := 2) (u := 3) rfl _ b2 _ 56 (0, 0) _ (by rfl) (by rfl) (HS.out.blk (i := 4) rfl) (by rw [List.size_toArray]; exact rcs_length (zq_ok 0) _ _)) rfl ⟨zq 0, (.slice none 0 0), (.slice none 0 0), 290, rfl, HP, ((((((HS.out.sub 0).sub 0).sub 0).sub 0).sub 0).dropF (Gs := []) (fun G hG => by cases hG)).nilRow.nilRow⟩
end
end Go.Proofs.Ytlpklbpaknemaaa
