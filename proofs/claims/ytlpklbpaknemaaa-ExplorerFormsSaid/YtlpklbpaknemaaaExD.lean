/- Contracts and words that the laws stand on (ExD). -/
import Derived.Test.YtlpklbpaknemaaaExB
import Derived.Test.YtlpklbpaknemaaaExC
import Derived.Test.YtlpklbpaknemaaaRecI0
set_option linter.unusedVariables false
set_option linter.unusedSimpArgs false
namespace Go.Proofs.Ytlpklbpaknemaaa
section
open Go Go.RowKit Go.Proofs
attribute [local irreducible] Calls
set_option maxHeartbeats 2000000 in
set_option maxRecDepth 100000 in
theorem dec29d (v : Value) (kb : UInt8) (l : List UInt8) (w : World) (hv : HB w v (kb :: l)) (hl : (kb :: l).length ≤ 70368744177664) (hf : fldK (kb.toNat : Int) = 10) :
    Calls Try.prog 29 #[v] w fun e w' => ∃ r s b c, e = .returned (.tuple #[.agg (rcs r s b).toArray, .int .i64 c]) ∧ DecP (kb :: l) r c ∧ St w w' [Row s 5 1 r.sb.length (bs r.sb), Row b 5 1 r.bb.length (bs r.bb)] [] := by
  obtain ⟨Av, cv, rfl, _⟩ := hv.shape
  have HS := Lib.hid ((St.start w).addF hv.away0)
  have HL := Lib.hid hl; have HN := Lib.hid (numN1 kb l).1; have HM := Lib.hid (numN1 kb l).2
  have hkb := kb.toNat_lt
  have hl2 : l.length ≤ 70368744177664 := by simp at hl; omega
  have HL2 := Lib.hid hl2
  have hl3 : (numL l).length ≤ 70368744177664 := by
    unfold numL
    split
    · rw [List.length_drop]; omega
    · omega
  have HL3 := Lib.hid hl3
  have hF : ∀ W, Calls Try.prog 48 #[.int .i64 (kb.toNat : Int)] W fun e w' => e = .returned (.int .i64 10) ∧ W = w' := fun W => by
    have := fields48 (kb.toNat : Int) W
    rwa [hf] at this
  have HF := Lib.hid hF
  have hrq : rdF (fldK (kb.toNat : Int)) (kb.toNat : Int) l = ⟨(kb.toNat : Int), z32, 0, (numV l), 0, (bytV (numL l)), z32, []⟩ := by rw [hf]; rfl
  have HRQ := Lib.hid hrq
  have hno : (chkQ ⟨(kb.toNat : Int), z32, 0, (numV l), 0, (bytV (numL l)), z32, []⟩ = true → encQ ⟨(kb.toNat : Int), z32, 0, (numV l), 0, (bytV (numL l)), z32, []⟩ ≠ kb :: l) → DecP (kb :: l) (zq 0) 290 := fun h => DecP.no fun r e hc => by rw [HRQ.out] at e; subst e; exact h hc
  have HNO := Lib.hid hno
  have hb1 := numV_lt l
  clear hv hl hl2 hl3 hF hf hrq hno
  go_enter Try.func29, Try.ntmps29
  go_wp2_with (first
    | (refine atd 2 (by rfl) ?_; refine wl (by rfl) (s_al (l := rcs (zq 0) (.slice none 0 0) (.slice none 0 0)) HS.out (by rfl) z56 (by rfl) ?_); intro b2 Wn hS; clear HS; have HS := Lib.hid hS; clear hS)
    | (go_at_call 36; refine (look_new _ (kb :: l) _ (HS.out.fact (i := 0) rfl) HL.out).mono ?_; rintro e Wn ⟨g, u0, rfl, hb⟩; have hS := HS.out.take hb; clear hb; clear HS; have HS := Lib.hid hS; clear hS)
    | (refine atd 4 (by rfl) ?_; refine wl (by rfl) (s_al (l := [.pointer none]) HS.out (by rfl) z69 (by rfl) ?_); intro b4 Wn hS; clear HS; have HS := Lib.hid hS; clear hS)
    | (refine sto 4 (by rfl) ?_; refine wl (by rfl) (s_st (v := .pointer (some ⟨g, 0, none⟩)) HS.out 0 (by rfl) (by rfl) (by rfl) (by kernel_rfl) (by rfl) (by rfl) (by exact Nat.zero_lt_one) ?_); intro Wn hS; clear HS; have HS := Lib.hid hS; clear hS)
    | (go_at_call 51; refine (HS.out.eyeNum1 1 rfl HN.out HM.out (j := 0) rfl).mono ?_; rintro e Wn ⟨u1, rfl, hS⟩; clear HS; have HS := Lib.hid hS; clear hS)
    | (refine atd 18 (by rfl) ?_; refine wl (by rfl) (wp_of_run (run_b56 (k := (kb.toNat : Int)) (by rfl) (by rfl)) ?_))
    | (refine atd 7 (by rfl) ?_; refine wl (by rfl) (s_al (l := rcs (zq 0) (.slice none 0 0) (.slice none 0 0)) HS.out (by rfl) z56 (by rfl) ?_); intro b7 Wn hS; clear HS; have HS := Lib.hid hS; clear hS)
    | (refine sto 7 (by rfl) ?_; refine wl (by rfl) (s_sta (cs := rcs (zq (kb.toNat : Int)) (.slice none 0 0) (.slice none 0 0)) HS.out 0 70 (by rfl) (by rfl) (by rfl) ag56 (by rfl) (by exact rcs_length (zq_ok _) _ _) (by exact cells_rq _ rfl rfl) (by exact Nat.le_of_eq (rcs_length (zq_ok _) _ _).symm) ?_); intro Wn hS; rw [splice_all ((rcs_length (zq_ok _) _ _).trans (rcs_length (zq_ok _) _ _).symm)] at hS; have hS : St w Wn [Blk b7 (rcs ⟨(kb.toNat : Int), z32, 0, 0, 0, [], z32, []⟩ (.slice none 0 0) (.slice none 0 0)) 56, Blk b4 [.pointer (some ⟨g, 0, none⟩)] 69, EyeR g u1 l, Blk b2 _ 56] _ := hS; clear HS; have HS := Lib.hid hS; clear hS)
    | (refine atd 20 (by rfl) ?_; refine wl (by rfl) (s_ld (v := .int .i64 (kb.toNat : Int)) HS.out 0 (by rfl) (by rfl) (by rfl) (by kernel_rfl) (by exact rcs_0 _ _) ?_))
    | (go_at_call 48; refine (HF.out _).mono ?_; rintro e Wn ⟨rfl, rfl⟩)
    | (go_at_call 51; refine (HS.out.eyeNum4 2 rfl (j := 1) rfl).mono ?_; rintro e Wn ⟨u2, rfl, hS⟩; clear HS; have HS := Lib.hid hS; clear hS)
    | (refine sto 43 (by rfl) ?_; refine wl (by rfl) (s_st (v := .int .u32 ((numV l : Nat) : Int)) HS.out 0 (by rfl) (by rfl) (by rfl) (by kernel_rfl) (by rfl) (by rfl) (by rw [rcs_length (⟨rfl, rfl, (by decide : 0 < 4294967296), (by decide : 0 < 4294967296), (by decide : 0 < 4294967296)⟩ : Req.ok ⟨(kb.toNat : Int), z32, 0, 0, 0, [], z32, []⟩)]; decide) ?_); intro Wn hS; rw [rcs_setH (hx := rfl)] at hS; clear HS; have HS := Lib.hid hS; clear hS)
    | (refine atd 55 (by rfl) ?_; refine wl (by rfl) (s_ld HS.out 1 (by rfl) (by rfl) (by rfl) (by kernel_rfl) (by rfl) ?_))
    | (go_at_call 54; refine (HS.out.eyeBytes 2 rfl HL3.out).mono ?_; rintro e Wn ⟨v5, u5, c5, y5, rfl, hS⟩; clear HS; have HS := Lib.hid hS; clear hS; obtain ⟨A5, k5, rfl⟩ := Row.sl (HS.out.res (i := 0) rfl))
    | (refine sto 59 (by rfl) ?_; refine wl (by rfl) (s_st (v := (.slice A5 (bytV (numL l)).length k5)) HS.out 1 (by rfl) (by rfl) (by rfl) (by kernel_rfl) (by rfl) (by rfl) (by rw [rcs_length (⟨rfl, rfl, (by decide : 0 < 4294967296), numV_lt _, (by decide : 0 < 4294967296)⟩ : Req.ok ⟨(kb.toNat : Int), z32, 0, (numV l), 0, [], z32, []⟩)]; decide) ?_); intro Wn hS; rw [rcs_setS (hx := rfl) (sb' := bytV (numL l))] at hS; clear HS; have HS := Lib.hid hS; clear hS)
    | (refine atd 78 (by rfl) ?_; refine wl (by rfl) (s_lda (cs := rcs ⟨(kb.toNat : Int), z32, 0, (numV l), 0, (bytV (numL l)), z32, []⟩ (.slice A5 (bytV (numL l)).length k5) (.slice none 0 0)) HS.out 1 70 (by rfl) (by rfl) (by rfl) ag56 (by exact rcs_all (⟨rfl, rfl, (by decide : 0 < 4294967296), numV_lt _, (by decide : 0 < 4294967296)⟩ : Req.ok ⟨(kb.toNat : Int), z32, 0, (numV l), 0, (bytV (numL l)), z32, []⟩) _ _) (by exact rcs_length (⟨rfl, rfl, (by decide : 0 < 4294967296), numV_lt _, (by decide : 0 < 4294967296)⟩ : Req.ok ⟨(kb.toNat : Int), z32, 0, (numV l), 0, (bytV (numL l)), z32, []⟩) _ _) ?_)))
  refine (enc27 ⟨(kb.toNat : Int), z32, 0, (numV l), 0, (bytV (numL l)), z32, []⟩ (.slice A5 (bytV (numL l)).length k5) (.slice none 0 0) _ (⟨rfl, rfl, (by decide : 0 < 4294967296), numV_lt _, (by decide : 0 < 4294967296)⟩ : Req.ok ⟨(kb.toNat : Int), z32, 0, (numV l), 0, (bytV (numL l)), z32, []⟩) (Row.hb (HS.out.res (i := 0) rfl)) (HB.nil _ _ _)).mono ?_
  rintro e Wn ⟨ve, rfl, hb⟩
  have hS := HS.out.take hb
  clear hb HS
  have HS := Lib.hid hS
  clear hS
  unfold chkI encOQ at *
  cases hc : chkQ ⟨(kb.toNat : Int), z32, 0, (numV l), 0, (bytV (numL l)), z32, []⟩ with
  | false =>
    rw [hc] at HS
    have HD := Lib.hid (HNO.out (fun h => by rw [hc] at h; cases h))
    simp only [Bool.false_eq_true, ↓reduceIte] at HS ⊢
    go_wp2_with (first
      | (refine atd 90 (by rfl) ?_; refine wl (by rfl) (wp_of_run (run_b56z (by rfl)) ?_))
      | (refine sto 2 (by rfl) ?_; refine wl (by rfl) (s_sta (cs := rcs (zq 0) (.slice none 0 0) (.slice none 0 0)) HS.out 5 70 (by rfl) (by rfl) (by rfl) ag56 (by rfl) (by exact rcs_length (zq_ok 0) _ _) (by exact cells_rq _ rfl rfl) (by exact Nat.le_of_eq (rcs_length (zq_ok _) _ _).symm) ?_); intro Wn hS; rw [splice_all ((rcs_length (zq_ok 0) _ _).trans (rcs_length (zq_ok _) _ _).symm)] at hS; clear HS; have HS := Lib.hid hS; clear hS))
    exact bodyPost_ret (ret_ct56 (p := 2) (u := 3) rfl _ b2 _ 56 (0, 0) _ (by rfl) (by rfl) (HS.out.blk (i := 5) rfl) (by rw [List.size_toArray]; exact rcs_length (zq_ok 0) _ _)) rfl ⟨zq 0, (.slice none 0 0), (.slice none 0 0), 290, rfl, HD.out, (((((((HS.out.sub 0).sub 0).sub 0).sub 0).sub 0).sub 0).dropF (Gs := []) (fun G hG => by cases hG)).nilRow.nilRow⟩
  | true =>
    rw [hc] at HS
    simp only [↓reduceIte] at HS ⊢
    obtain ⟨Ae, ke, rfl⟩ := Row.sl (HS.out.res (i := 0) rfl)
    cases hd : decide (encQ ⟨(kb.toNat : Int), z32, 0, (numV l), 0, (bytV (numL l)), z32, []⟩ = kb :: l) with
    | true =>
      have HD := Lib.hid hd
      have HP : DecP (kb :: l) ⟨(kb.toNat : Int), z32, 0, (numV l), 0, (bytV (numL l)), z32, []⟩ 0 := ⟨(⟨rfl, rfl, (by decide : 0 < 4294967296), numV_lt _, (by decide : 0 < 4294967296)⟩ : Req.ok ⟨(kb.toNat : Int), z32, 0, (numV l), 0, (bytV (numL l)), z32, []⟩), .inl ⟨rfl, hc, of_decide_eq_true hd⟩⟩
      clear hd
      go_wp2_with (first
        | (go_at_call 47; refine (equal47b _ _ (encQ ⟨(kb.toNat : Int), z32, 0, (numV l), 0, (bytV (numL l)), z32, []⟩) (kb :: l) _ (Row.hb (HS.out.res (i := 0) rfl)) (HS.out.fact (i := 0) rfl) HD.out).mono ?_; rintro e Wn ⟨rfl, rfl⟩)
        | (refine atd 91 (by rfl) ?_; refine wl (by rfl) (s_lda (cs := rcs ⟨(kb.toNat : Int), z32, 0, (numV l), 0, (bytV (numL l)), z32, []⟩ (.slice A5 (bytV (numL l)).length k5) (.slice none 0 0)) HS.out 2 70 (by rfl) (by rfl) (by rfl) ag56 (by exact rcs_all (⟨rfl, rfl, (by decide : 0 < 4294967296), numV_lt _, (by decide : 0 < 4294967296)⟩ : Req.ok ⟨(kb.toNat : Int), z32, 0, (numV l), 0, (bytV (numL l)), z32, []⟩) _ _) (by exact rcs_length (⟨rfl, rfl, (by decide : 0 < 4294967296), numV_lt _, (by decide : 0 < 4294967296)⟩ : Req.ok ⟨(kb.toNat : Int), z32, 0, (numV l), 0, (bytV (numL l)), z32, []⟩) _ _) ?_))
        | (refine sto 2 (by rfl) ?_; refine wl (by rfl) (s_sta (cs := rcs ⟨(kb.toNat : Int), z32, 0, (numV l), 0, (bytV (numL l)), z32, []⟩ (.slice A5 (bytV (numL l)).length k5) (.slice none 0 0)) HS.out 5 70 (by rfl) (by rfl) (by rfl) ag56 (by rfl) (by exact rcs_length (⟨rfl, rfl, (by decide : 0 < 4294967296), numV_lt _, (by decide : 0 < 4294967296)⟩ : Req.ok ⟨(kb.toNat : Int), z32, 0, (numV l), 0, (bytV (numL l)), z32, []⟩) _ _) (by exact cells_rq _ rfl rfl) (by exact Nat.le_of_eq (rcs_length (zq_ok _) _ _).symm) ?_); intro Wn hS; rw [splice_all ((rcs_length (⟨rfl, rfl, (by decide : 0 < 4294967296), numV_lt _, (by decide : 0 < 4294967296)⟩ : Req.ok ⟨(kb.toNat : Int), z32, 0, (numV l), 0, (bytV (numL l)), z32, []⟩) _ _).trans (rcs_length (zq_ok _) _ _).symm)] at hS; clear HS; have HS := Lib.hid hS; clear hS))
      exact bodyPost_ret (ret_ct56 (p := 2) (u := 3) rfl _ b2 _ 56 (0, 0) _ (by rfl) (by rfl) (HS.out.blk (i := 5) rfl) (by rw [List.size_toArray]; exact rcs_length (⟨rfl, rfl, (by decide : 0 < 4294967296), numV_lt _, (by decide : 0 < 4294967296)⟩ : Req.ok ⟨(kb.toNat : Int), z32, 0, (numV l), 0, (bytV (numL l)), z32, []⟩) _ _)) rfl ⟨⟨(kb.toNat : Int), z32, 0, (numV l), 0, (bytV (numL l)), z32, []⟩, (.slice A5 (bytV (numL l)).length k5), (.slice none 0 0), 0, rfl, HP, ((((((HS.out.sub 0).sub 1).sub 1).sub 1).sub 1).dropF (Gs := []) (fun G hG => by cases hG)).nilRow.swap⟩
    | false =>
      have HD := Lib.hid hd
      have HP := HNO.out (fun _ => of_decide_eq_false hd)
      clear hd
      go_wp2_with (first
        | (go_at_call 47; refine (equal47b _ _ (encQ ⟨(kb.toNat : Int), z32, 0, (numV l), 0, (bytV (numL l)), z32, []⟩) (kb :: l) _ (Row.hb (HS.out.res (i := 0) rfl)) (HS.out.fact (i := 0) rfl) HD.out).mono ?_; rintro e Wn ⟨rfl, rfl⟩)
        | (refine atd 90 (by rfl) ?_; refine wl (by rfl) (wp_of_run (run_b56z (by rfl)) ?_))
        | (refine sto 2 (by rfl) ?_; refine wl (by rfl) (s_sta (cs := rcs (zq 0) (.slice none 0 0) (.slice none 0 0)) HS.out 5 70 (by rfl) (by rfl) (by rfl) ag56 (by rfl) (by exact rcs_length (zq_ok 0) _ _) (by exact cells_rq _ rfl rfl) (by exact Nat.le_of_eq (rcs_length (zq_ok _) _ _).symm) ?_); intro Wn hS; rw [splice_all ((rcs_length (zq_ok 0) _ _).trans (rcs_length (zq_ok _) _ _).symm)] at hS; clear HS; have HS := Lib.hid hS; clear hS))
      exact bodyPost_ret (ret_ct56 (p := 2) (u := 3) rfl _ b2 _ 56 (0, 0) _ (by rfl) (by rfl) (HS.out.blk (i := 5) rfl) (by rw [List.size_toArray]; exact rcs_length (zq_ok 0) _ _)) rfl ⟨zq 0, (.slice none 0 0), (.slice none 0 0), 290, rfl, HP, (((((((HS.out.sub 0).sub 0).sub 0).sub 0).sub 0).sub 0).dropF (Gs := []) (fun G hG => by cases hG)).nilRow.nilRow⟩
end
section
open Go Go.RowKit Go.Proofs
attribute [local irreducible] Calls
set_option maxHeartbeats 2000000 in
set_option maxRecDepth 100000 in
theorem dec29e (v : Value) (kb : UInt8) (l : List UInt8) (w : World) (hv : HB w v (kb :: l)) (hl : (kb :: l).length ≤ 70368744177664) (hf : fldK (kb.toNat : Int) = 6) :
    Calls Try.prog 29 #[v] w fun e w' => ∃ r s b c, e = .returned (.tuple #[.agg (rcs r s b).toArray, .int .i64 c]) ∧ DecP (kb :: l) r c ∧ St w w' [Row s 5 1 r.sb.length (bs r.sb), Row b 5 1 r.bb.length (bs r.bb)] [] := by
  obtain ⟨Av, cv, rfl, _⟩ := hv.shape
  have HS := Lib.hid ((St.start w).addF hv.away0)
  have HL := Lib.hid hl; have HN := Lib.hid (numN1 kb l).1; have HM := Lib.hid (numN1 kb l).2
  have hkb := kb.toNat_lt
  have hl2 : l.length ≤ 70368744177664 := by simp at hl; omega
  have HL2 := Lib.hid hl2
  have hl3 : (numL l).length ≤ 70368744177664 := by
    unfold numL
    split
    · rw [List.length_drop]; omega
    · omega
  have HL3 := Lib.hid hl3
  have hF : ∀ W, Calls Try.prog 48 #[.int .i64 (kb.toNat : Int)] W fun e w' => e = .returned (.int .i64 6) ∧ W = w' := fun W => by
    have := fields48 (kb.toNat : Int) W
    rwa [hf] at this
  have HF := Lib.hid hF
  have hrq : rdF (fldK (kb.toNat : Int)) (kb.toNat : Int) l = ⟨(kb.toNat : Int), z32, 0, (numV l), (numV (numL l)), [], z32, []⟩ := by rw [hf]; rfl
  have HRQ := Lib.hid hrq
  have hno : (chkQ ⟨(kb.toNat : Int), z32, 0, (numV l), (numV (numL l)), [], z32, []⟩ = true → encQ ⟨(kb.toNat : Int), z32, 0, (numV l), (numV (numL l)), [], z32, []⟩ ≠ kb :: l) → DecP (kb :: l) (zq 0) 290 := fun h => DecP.no fun r e hc => by rw [HRQ.out] at e; subst e; exact h hc
  have HNO := Lib.hid hno
  have hb1 := numV_lt l
  have hb8 := numV_lt (numL l)
  clear hv hl hl2 hl3 hF hf hrq hno
  go_enter Try.func29, Try.ntmps29
  go_wp2_with (first
    | (refine atd 2 (by rfl) ?_; refine wl (by rfl) (s_al (l := rcs (zq 0) (.slice none 0 0) (.slice none 0 0)) HS.out (by rfl) z56 (by rfl) ?_); intro b2 Wn hS; clear HS; have HS := Lib.hid hS; clear hS)
    | (go_at_call 36; refine (look_new _ (kb :: l) _ (HS.out.fact (i := 0) rfl) HL.out).mono ?_; rintro e Wn ⟨g, u0, rfl, hb⟩; have hS := HS.out.take hb; clear hb; clear HS; have HS := Lib.hid hS; clear hS)
    | (refine atd 4 (by rfl) ?_; refine wl (by rfl) (s_al (l := [.pointer none]) HS.out (by rfl) z69 (by rfl) ?_); intro b4 Wn hS; clear HS; have HS := Lib.hid hS; clear hS)
    | (refine sto 4 (by rfl) ?_; refine wl (by rfl) (s_st (v := .pointer (some ⟨g, 0, none⟩)) HS.out 0 (by rfl) (by rfl) (by rfl) (by kernel_rfl) (by rfl) (by rfl) (by exact Nat.zero_lt_one) ?_); intro Wn hS; clear HS; have HS := Lib.hid hS; clear hS)
    | (go_at_call 51; refine (HS.out.eyeNum1 1 rfl HN.out HM.out (j := 0) rfl).mono ?_; rintro e Wn ⟨u1, rfl, hS⟩; clear HS; have HS := Lib.hid hS; clear hS)
    | (refine atd 18 (by rfl) ?_; refine wl (by rfl) (wp_of_run (run_b56 (k := (kb.toNat : Int)) (by rfl) (by rfl)) ?_))
    | (refine atd 7 (by rfl) ?_; refine wl (by rfl) (s_al (l := rcs (zq 0) (.slice none 0 0) (.slice none 0 0)) HS.out (by rfl) z56 (by rfl) ?_); intro b7 Wn hS; clear HS; have HS := Lib.hid hS; clear hS)
    | (refine sto 7 (by rfl) ?_; refine wl (by rfl) (s_sta (cs := rcs (zq (kb.toNat : Int)) (.slice none 0 0) (.slice none 0 0)) HS.out 0 70 (by rfl) (by rfl) (by rfl) ag56 (by rfl) (by exact rcs_length (zq_ok _) _ _) (by exact cells_rq _ rfl rfl) (by exact Nat.le_of_eq (rcs_length (zq_ok _) _ _).symm) ?_); intro Wn hS; rw [splice_all ((rcs_length (zq_ok _) _ _).trans (rcs_length (zq_ok _) _ _).symm)] at hS; have hS : St w Wn [Blk b7 (rcs ⟨(kb.toNat : Int), z32, 0, 0, 0, [], z32, []⟩ (.slice none 0 0) (.slice none 0 0)) 56, Blk b4 [.pointer (some ⟨g, 0, none⟩)] 69, EyeR g u1 l, Blk b2 _ 56] _ := hS; clear HS; have HS := Lib.hid hS; clear hS)
    | (refine atd 20 (by rfl) ?_; refine wl (by rfl) (s_ld (v := .int .i64 (kb.toNat : Int)) HS.out 0 (by rfl) (by rfl) (by rfl) (by kernel_rfl) (by exact rcs_0 _ _) ?_))
    | (go_at_call 48; refine (HF.out _).mono ?_; rintro e Wn ⟨rfl, rfl⟩)
    | (go_at_call 51; refine (HS.out.eyeNum4 2 rfl (j := 1) rfl).mono ?_; rintro e Wn ⟨u2, rfl, hS⟩; clear HS; have HS := Lib.hid hS; clear hS)
    | (refine sto 43 (by rfl) ?_; refine wl (by rfl) (s_st (v := .int .u32 ((numV l : Nat) : Int)) HS.out 0 (by rfl) (by rfl) (by rfl) (by kernel_rfl) (by rfl) (by rfl) (by rw [rcs_length (⟨rfl, rfl, (by decide : 0 < 4294967296), (by decide : 0 < 4294967296), (by decide : 0 < 4294967296)⟩ : Req.ok ⟨(kb.toNat : Int), z32, 0, 0, 0, [], z32, []⟩)]; decide) ?_); intro Wn hS; rw [rcs_setH (hx := rfl)] at hS; clear HS; have HS := Lib.hid hS; clear hS)
    | (go_at_call 51; refine (HS.out.eyeNum4 2 rfl (j := 1) rfl).mono ?_; rintro e Wn ⟨u3, rfl, hS⟩; clear HS; have HS := Lib.hid hS; clear hS)
    | (refine sto 50 (by rfl) ?_; refine wl (by rfl) (s_st (v := .int .u32 ((numV (numL l) : Nat) : Int)) HS.out 0 (by rfl) (by rfl) (by rfl) (by kernel_rfl) (by rfl) (by rfl) (by rw [rcs_length (⟨rfl, rfl, (by decide : 0 < 4294967296), numV_lt _, (by decide : 0 < 4294967296)⟩ : Req.ok ⟨(kb.toNat : Int), z32, 0, (numV l), 0, [], z32, []⟩)]; decide) ?_); intro Wn hS; rw [rcs_setM (hx := rfl)] at hS; clear HS; have HS := Lib.hid hS; clear hS)
    | (refine atd 78 (by rfl) ?_; refine wl (by rfl) (s_lda (cs := rcs ⟨(kb.toNat : Int), z32, 0, (numV l), (numV (numL l)), [], z32, []⟩ (.slice none 0 0) (.slice none 0 0)) HS.out 0 70 (by rfl) (by rfl) (by rfl) ag56 (by exact rcs_all (⟨rfl, rfl, (by decide : 0 < 4294967296), numV_lt _, numV_lt _⟩ : Req.ok ⟨(kb.toNat : Int), z32, 0, (numV l), (numV (numL l)), [], z32, []⟩) _ _) (by exact rcs_length (⟨rfl, rfl, (by decide : 0 < 4294967296), numV_lt _, numV_lt _⟩ : Req.ok ⟨(kb.toNat : Int), z32, 0, (numV l), (numV (numL l)), [], z32, []⟩) _ _) ?_)))
  refine (enc27 ⟨(kb.toNat : Int), z32, 0, (numV l), (numV (numL l)), [], z32, []⟩ (.slice none 0 0) (.slice none 0 0) _ (⟨rfl, rfl, (by decide : 0 < 4294967296), numV_lt _, numV_lt _⟩ : Req.ok ⟨(kb.toNat : Int), z32, 0, (numV l), (numV (numL l)), [], z32, []⟩) (HB.nil _ _ _) (HB.nil _ _ _)).mono ?_
  rintro e Wn ⟨ve, rfl, hb⟩
  have hS := HS.out.take hb
  clear hb HS
  have HS := Lib.hid hS
  clear hS
  unfold chkI encOQ at *
  cases hc : chkQ ⟨(kb.toNat : Int), z32, 0, (numV l), (numV (numL l)), [], z32, []⟩ with
  | false =>
    rw [hc] at HS
    have HD := Lib.hid (HNO.out (fun h => by rw [hc] at h; cases h))
    simp only [Bool.false_eq_true, ↓reduceIte] at HS ⊢
    go_wp2_with (first
      | (refine atd 90 (by rfl) ?_; refine wl (by rfl) (wp_of_run (run_b56z (by rfl)) ?_))
      | (refine sto 2 (by rfl) ?_; refine wl (by rfl) (s_sta (cs := rcs (zq 0) (.slice none 0 0) (.slice none 0 0)) HS.out 4 70 (by rfl) (by rfl) (by rfl) ag56 (by rfl) (by exact rcs_length (zq_ok 0) _ _) (by exact cells_rq _ rfl rfl) (by exact Nat.le_of_eq (rcs_length (zq_ok _) _ _).symm) ?_); intro Wn hS; rw [splice_all ((rcs_length (zq_ok 0) _ _).trans (rcs_length (zq_ok _) _ _).symm)] at hS; clear HS; have HS := Lib.hid hS; clear hS))
    exact bodyPost_ret (ret_ct56 (p := 2) (u := 3) rfl _ b2 _ 56 (0, 0) _ (by rfl) (by rfl) (HS.out.blk (i := 4) rfl) (by rw [List.size_toArray]; exact rcs_length (zq_ok 0) _ _)) rfl ⟨zq 0, (.slice none 0 0), (.slice none 0 0), 290, rfl, HD.out, ((((((HS.out.sub 0).sub 0).sub 0).sub 0).sub 0).dropF (Gs := []) (fun G hG => by cases hG)).nilRow.nilRow⟩
  | true =>
    rw [hc] at HS
    simp only [↓reduceIte] at HS ⊢
    obtain ⟨Ae, ke, rfl⟩ := Row.sl (HS.out.res (i := 0) rfl)
    cases hd : decide (encQ ⟨(kb.toNat : Int), z32, 0, (numV l), (numV (numL l)), [], z32, []⟩ = kb :: l) with
    | true =>
      have HD := Lib.hid hd
      have HP : DecP (kb :: l) ⟨(kb.toNat : Int), z32, 0, (numV l), (numV (numL l)), [], z32, []⟩ 0 := ⟨(⟨rfl, rfl, (by decide : 0 < 4294967296), numV_lt _, numV_lt _⟩ : Req.ok ⟨(kb.toNat : Int), z32, 0, (numV l), (numV (numL l)), [], z32, []⟩), .inl ⟨rfl, hc, of_decide_eq_true hd⟩⟩
      clear hd
      go_wp2_with (first
        | (go_at_call 47; refine (equal47b _ _ (encQ ⟨(kb.toNat : Int), z32, 0, (numV l), (numV (numL l)), [], z32, []⟩) (kb :: l) _ (Row.hb (HS.out.res (i := 0) rfl)) (HS.out.fact (i := 0) rfl) HD.out).mono ?_; rintro e Wn ⟨rfl, rfl⟩)
        | (refine atd 91 (by rfl) ?_; refine wl (by rfl) (s_lda (cs := rcs ⟨(kb.toNat : Int), z32, 0, (numV l), (numV (numL l)), [], z32, []⟩ (.slice none 0 0) (.slice none 0 0)) HS.out 1 70 (by rfl) (by rfl) (by rfl) ag56 (by exact rcs_all (⟨rfl, rfl, (by decide : 0 < 4294967296), numV_lt _, numV_lt _⟩ : Req.ok ⟨(kb.toNat : Int), z32, 0, (numV l), (numV (numL l)), [], z32, []⟩) _ _) (by exact rcs_length (⟨rfl, rfl, (by decide : 0 < 4294967296), numV_lt _, numV_lt _⟩ : Req.ok ⟨(kb.toNat : Int), z32, 0, (numV l), (numV (numL l)), [], z32, []⟩) _ _) ?_))
        | (refine sto 2 (by rfl) ?_; refine wl (by rfl) (s_sta (cs := rcs ⟨(kb.toNat : Int), z32, 0, (numV l), (numV (numL l)), [], z32, []⟩ (.slice none 0 0) (.slice none 0 0)) HS.out 4 70 (by rfl) (by rfl) (by rfl) ag56 (by rfl) (by exact rcs_length (⟨rfl, rfl, (by decide : 0 < 4294967296), numV_lt _, numV_lt _⟩ : Req.ok ⟨(kb.toNat : Int), z32, 0, (numV l), (numV (numL l)), [], z32, []⟩) _ _) (by exact cells_rq _ rfl rfl) (by exact Nat.le_of_eq (rcs_length (zq_ok _) _ _).symm) ?_); intro Wn hS; rw [splice_all ((rcs_length (⟨rfl, rfl, (by decide : 0 < 4294967296), numV_lt _, numV_lt _⟩ : Req.ok ⟨(kb.toNat : Int), z32, 0, (numV l), (numV (numL l)), [], z32, []⟩) _ _).trans (rcs_length (zq_ok _) _ _).symm)] at hS; clear HS; have HS := Lib.hid hS; clear hS))
      exact bodyPost_ret (ret_ct56 (p := 2) (u := 3) rfl _ b2 _ 56 (0, 0) _ (by rfl) (by rfl) (HS.out.blk (i := 4) rfl) (by rw [List.size_toArray]; exact rcs_length (⟨rfl, rfl, (by decide : 0 < 4294967296), numV_lt _, numV_lt _⟩ : Req.ok ⟨(kb.toNat : Int), z32, 0, (numV l), (numV (numL l)), [], z32, []⟩) _ _)) rfl ⟨⟨(kb.toNat : Int), z32, 0, (numV l), (numV (numL l)), [], z32, []⟩, (.slice none 0 0), (.slice none 0 0), 0, rfl, HP, ((((((HS.out.sub 0).sub 0).sub 0).sub 0).sub 0).dropF (Gs := []) (fun G hG => by cases hG)).nilRow.nilRow⟩
    | false =>
      have HD := Lib.hid hd
      have HP := HNO.out (fun _ => of_decide_eq_false hd)
      clear hd
      go_wp2_with (first
        | (go_at_call 47; refine (equal47b _ _ (encQ ⟨(kb.toNat : Int), z32, 0, (numV l), (numV (numL l)), [], z32, []⟩) (kb :: l) _ (Row.hb (HS.out.res (i := 0) rfl)) (HS.out.fact (i := 0) rfl) HD.out).mono ?_; rintro e Wn ⟨rfl, rfl⟩)
        | (refine atd 90 (by rfl) ?_; refine wl (by rfl) (wp_of_run (run_b56z (by rfl)) ?_))
        | (refine sto 2 (by rfl) ?_; refine wl (by rfl) (s_sta (cs := rcs (zq 0) (.slice none 0 0) (.slice none 0 0)) HS.out 4 70 (by rfl) (by rfl) (by rfl) ag56 (by rfl) (by exact rcs_length (zq_ok 0) _ _) (by exact cells_rq _ rfl rfl) (by exact Nat.le_of_eq (rcs_length (zq_ok _) _ _).symm) ?_); intro Wn hS; rw [splice_all ((rcs_length (zq_ok 0) _ _).trans (rcs_length (zq_ok _) _ _).symm)] at hS; clear HS; have HS := Lib.hid hS; clear hS))
      exact bodyPost_ret (ret_ct56 (p := 2) (u := 3) rfl _ b2 _ 56 (0, 0) _ (by rfl) (by rfl) (HS.out.blk (i := 4) rfl) (by rw [List.size_toArray]; exact rcs_length (zq_ok 0) _ _)) rfl ⟨zq 0, (.slice none 0 0), (.slice none 0 0), 290, rfl, HP, ((((((HS.out.sub 0).sub 0).sub 0).sub 0).sub 0).dropF (Gs := []) (fun G hG => by cases hG)).nilRow.nilRow⟩
end
section
open Go Go.RowKit Go.Proofs
attribute [local irreducible] Calls
set_option maxHeartbeats 2000000 in
set_option maxRecDepth 100000 in
theorem dec29f (v : Value) (kb : UInt8) (l : List UInt8) (w : World) (hv : HB w v (kb :: l)) (hl : (kb :: l).length ≤ 70368744177664) (hf : fldK (kb.toNat : Int) = 16) :
    Calls Try.prog 29 #[v] w fun e w' => ∃ r s b c, e = .returned (.tuple #[.agg (rcs r s b).toArray, .int .i64 c]) ∧ DecP (kb :: l) r c ∧ St w w' [Row s 5 1 r.sb.length (bs r.sb), Row b 5 1 r.bb.length (bs r.bb)] [] := by
  obtain ⟨Av, cv, rfl, _⟩ := hv.shape
  have HS := Lib.hid ((St.start w).addF hv.away0)
  have HL := Lib.hid hl; have HN := Lib.hid (numN1 kb l).1; have HM := Lib.hid (numN1 kb l).2
  have hkb := kb.toNat_lt
  have hl2 : l.length ≤ 70368744177664 := by simp at hl; omega
  have HL2 := Lib.hid hl2
  have hl3 : (numL l).length ≤ 70368744177664 := by
    unfold numL
    split
    · rw [List.length_drop]; omega
    · omega
  have HL3 := Lib.hid hl3
  have hF : ∀ W, Calls Try.prog 48 #[.int .i64 (kb.toNat : Int)] W fun e w' => e = .returned (.int .i64 16) ∧ W = w' := fun W => by
    have := fields48 (kb.toNat : Int) W
    rwa [hf] at this
  have HF := Lib.hid hF
  have hrq : rdF (fldK (kb.toNat : Int)) (kb.toNat : Int) l = ⟨(kb.toNat : Int), z32, 0, 0, 0, [], (hshV l), []⟩ := by rw [hf]; rfl
  have HRQ := Lib.hid hrq
  have hno : (chkQ ⟨(kb.toNat : Int), z32, 0, 0, 0, [], (hshV l), []⟩ = true → encQ ⟨(kb.toNat : Int), z32, 0, 0, 0, [], (hshV l), []⟩ ≠ kb :: l) → DecP (kb :: l) (zq 0) 290 := fun h => DecP.no fun r e hc => by rw [HRQ.out] at e; subst e; exact h hc
  have HNO := Lib.hid hno
  clear hv hl hl2 hl3 hF hf hrq hno
  go_enter Try.func29, Try.ntmps29
  go_wp2_with (first
    | (refine atd 2 (by rfl) ?_; refine wl (by rfl) (s_al (l := rcs (zq 0) (.slice none 0 0) (.slice none 0 0)) HS.out (by rfl) z56 (by rfl) ?_); intro b2 Wn hS; clear HS; have HS := Lib.hid hS; clear hS)
    | (go_at_call 36; refine (look_new _ (kb :: l) _ (HS.out.fact (i := 0) rfl) HL.out).mono ?_; rintro e Wn ⟨g, u0, rfl, hb⟩; have hS := HS.out.take hb; clear hb; clear HS; have HS := Lib.hid hS; clear hS)
    | (refine atd 4 (by rfl) ?_; refine wl (by rfl) (s_al (l := [.pointer none]) HS.out (by rfl) z69 (by rfl) ?_); intro b4 Wn hS; clear HS; have HS := Lib.hid hS; clear hS)
    | (refine sto 4 (by rfl) ?_; refine wl (by rfl) (s_st (v := .pointer (some ⟨g, 0, none⟩)) HS.out 0 (by rfl) (by rfl) (by rfl) (by kernel_rfl) (by rfl) (by rfl) (by exact Nat.zero_lt_one) ?_); intro Wn hS; clear HS; have HS := Lib.hid hS; clear hS)
    | (go_at_call 51; refine (HS.out.eyeNum1 1 rfl HN.out HM.out (j := 0) rfl).mono ?_; rintro e Wn ⟨u1, rfl, hS⟩; clear HS; have HS := Lib.hid hS; clear hS)
    | (refine atd 18 (by rfl) ?_; refine wl (by rfl) (wp_of_run (run_b56 (k := (kb.toNat : Int)) (by rfl) (by rfl)) ?_))
    | (refine atd 7 (by rfl) ?_; refine wl (by rfl) (s_al (l := rcs (zq 0) (.slice none 0 0) (.slice none 0 0)) HS.out (by rfl) z56 (by rfl) ?_); intro b7 Wn hS; clear HS; have HS := Lib.hid hS; clear hS)
    | (refine sto 7 (by rfl) ?_; refine wl (by rfl) (s_sta (cs := rcs (zq (kb.toNat : Int)) (.slice none 0 0) (.slice none 0 0)) HS.out 0 70 (by rfl) (by rfl) (by rfl) ag56 (by rfl) (by exact rcs_length (zq_ok _) _ _) (by exact cells_rq _ rfl rfl) (by exact Nat.le_of_eq (rcs_length (zq_ok _) _ _).symm) ?_); intro Wn hS; rw [splice_all ((rcs_length (zq_ok _) _ _).trans (rcs_length (zq_ok _) _ _).symm)] at hS; have hS : St w Wn [Blk b7 (rcs ⟨(kb.toNat : Int), z32, 0, 0, 0, [], z32, []⟩ (.slice none 0 0) (.slice none 0 0)) 56, Blk b4 [.pointer (some ⟨g, 0, none⟩)] 69, EyeR g u1 l, Blk b2 _ 56] _ := hS; clear HS; have HS := Lib.hid hS; clear hS)
    | (refine atd 20 (by rfl) ?_; refine wl (by rfl) (s_ld (v := .int .i64 (kb.toNat : Int)) HS.out 0 (by rfl) (by rfl) (by rfl) (by kernel_rfl) (by exact rcs_0 _ _) ?_))
    | (go_at_call 48; refine (HF.out _).mono ?_; rintro e Wn ⟨rfl, rfl⟩)
    | (go_at_call 52; refine (HS.out.hash52 2 rfl (j := 1) rfl HL2.out).mono ?_; rintro e Wn ⟨u2, rfl, hS⟩; clear HS; have HS := Lib.hid hS; clear hS)
    | (refine sto 65 (by rfl) ?_; refine wl (by rfl) (s_sta (cs := bs (hshV l)) HS.out 0 32 (by rfl) (by rfl) (by rfl) ag52 (by rfl) (by rw [bs_length]; exact hshV_len _) (by exact all_bs _) (by rw [rcs_length (⟨rfl, rfl, (by decide : 0 < 4294967296), (by decide : 0 < 4294967296), (by decide : 0 < 4294967296)⟩ : Req.ok ⟨(kb.toNat : Int), z32, 0, 0, 0, [], z32, []⟩)]; decide) ?_); intro Wn hS; rw [rcs_splHa (hx := hshV_len _) (ht := rfl) (hh := rfl)] at hS; clear HS; have HS := Lib.hid hS; clear hS)
    | (refine atd 78 (by rfl) ?_; refine wl (by rfl) (s_lda (cs := rcs ⟨(kb.toNat : Int), z32, 0, 0, 0, [], (hshV l), []⟩ (.slice none 0 0) (.slice none 0 0)) HS.out 0 70 (by rfl) (by rfl) (by rfl) ag56 (by exact rcs_all (⟨rfl, hshV_len _, (by decide : 0 < 4294967296), (by decide : 0 < 4294967296), (by decide : 0 < 4294967296)⟩ : Req.ok ⟨(kb.toNat : Int), z32, 0, 0, 0, [], (hshV l), []⟩) _ _) (by exact rcs_length (⟨rfl, hshV_len _, (by decide : 0 < 4294967296), (by decide : 0 < 4294967296), (by decide : 0 < 4294967296)⟩ : Req.ok ⟨(kb.toNat : Int), z32, 0, 0, 0, [], (hshV l), []⟩) _ _) ?_)))
  refine (enc27 ⟨(kb.toNat : Int), z32, 0, 0, 0, [], (hshV l), []⟩ (.slice none 0 0) (.slice none 0 0) _ (⟨rfl, hshV_len _, (by decide : 0 < 4294967296), (by decide : 0 < 4294967296), (by decide : 0 < 4294967296)⟩ : Req.ok ⟨(kb.toNat : Int), z32, 0, 0, 0, [], (hshV l), []⟩) (HB.nil _ _ _) (HB.nil _ _ _)).mono ?_
  rintro e Wn ⟨ve, rfl, hb⟩
  have hS := HS.out.take hb
  clear hb HS
  have HS := Lib.hid hS
  clear hS
  unfold chkI encOQ at *
  cases hc : chkQ ⟨(kb.toNat : Int), z32, 0, 0, 0, [], (hshV l), []⟩ with
  | false =>
    rw [hc] at HS
    have HD := Lib.hid (HNO.out (fun h => by rw [hc] at h; cases h))
    simp only [Bool.false_eq_true, ↓reduceIte] at HS ⊢
    go_wp2_with (first
      | (refine atd 90 (by rfl) ?_; refine wl (by rfl) (wp_of_run (run_b56z (by rfl)) ?_))
      | (refine sto 2 (by rfl) ?_; refine wl (by rfl) (s_sta (cs := rcs (zq 0) (.slice none 0 0) (.slice none 0 0)) HS.out 4 70 (by rfl) (by rfl) (by rfl) ag56 (by rfl) (by exact rcs_length (zq_ok 0) _ _) (by exact cells_rq _ rfl rfl) (by exact Nat.le_of_eq (rcs_length (zq_ok _) _ _).symm) ?_); intro Wn hS; rw [splice_all ((rcs_length (zq_ok 0) _ _).trans (rcs_length (zq_ok _) _ _).symm)] at hS; clear HS; have HS := Lib.hid hS; clear hS))
    exact bodyPost_ret (ret_ct56 (p := 2) (u := 3) rfl _ b2 _ 56 (0, 0) _ (by rfl) (by rfl) (HS.out.blk (i := 4) rfl) (by rw [List.size_toArray]; exact rcs_length (zq_ok 0) _ _)) rfl ⟨zq 0, (.slice none 0 0), (.slice none 0 0), 290, rfl, HD.out, ((((((HS.out.sub 0).sub 0).sub 0).sub 0).sub 0).dropF (Gs := []) (fun G hG => by cases hG)).nilRow.nilRow⟩
  | true =>
    rw [hc] at HS
    simp only [↓reduceIte] at HS ⊢
    obtain ⟨Ae, ke, rfl⟩ := Row.sl (HS.out.res (i := 0) rfl)
    cases hd : decide (encQ ⟨(kb.toNat : Int), z32, 0, 0, 0, [], (hshV l), []⟩ = kb :: l) with
    | true =>
      have HD := Lib.hid hd
      have HP : DecP (kb :: l) ⟨(kb.toNat : Int), z32, 0, 0, 0, [], (hshV l), []⟩ 0 := ⟨(⟨rfl, hshV_len _, (by decide : 0 < 4294967296), (by decide : 0 < 4294967296), (by decide : 0 < 4294967296)⟩ : Req.ok ⟨(kb.toNat : Int), z32, 0, 0, 0, [], (hshV l), []⟩), .inl ⟨rfl, hc, of_decide_eq_true hd⟩⟩
      clear hd
      go_wp2_with (first
        | (go_at_call 47; refine (equal47b _ _ (encQ ⟨(kb.toNat : Int), z32, 0, 0, 0, [], (hshV l), []⟩) (kb :: l) _ (Row.hb (HS.out.res (i := 0) rfl)) (HS.out.fact (i := 0) rfl) HD.out).mono ?_; rintro e Wn ⟨rfl, rfl⟩)
        | (refine atd 91 (by rfl) ?_; refine wl (by rfl) (s_lda (cs := rcs ⟨(kb.toNat : Int), z32, 0, 0, 0, [], (hshV l), []⟩ (.slice none 0 0) (.slice none 0 0)) HS.out 1 70 (by rfl) (by rfl) (by rfl) ag56 (by exact rcs_all (⟨rfl, hshV_len _, (by decide : 0 < 4294967296), (by decide : 0 < 4294967296), (by decide : 0 < 4294967296)⟩ : Req.ok ⟨(kb.toNat : Int), z32, 0, 0, 0, [], (hshV l), []⟩) _ _) (by exact rcs_length (⟨rfl, hshV_len _, (by decide : 0 < 4294967296), (by decide : 0 < 4294967296), (by decide : 0 < 4294967296)⟩ : Req.ok ⟨(kb.toNat : Int), z32, 0, 0, 0, [], (hshV l), []⟩) _ _) ?_))
        | (refine sto 2 (by rfl) ?_; refine wl (by rfl) (s_sta (cs := rcs ⟨(kb.toNat : Int), z32, 0, 0, 0, [], (hshV l), []⟩ (.slice none 0 0) (.slice none 0 0)) HS.out 4 70 (by rfl) (by rfl) (by rfl) ag56 (by rfl) (by exact rcs_length (⟨rfl, hshV_len _, (by decide : 0 < 4294967296), (by decide : 0 < 4294967296), (by decide : 0 < 4294967296)⟩ : Req.ok ⟨(kb.toNat : Int), z32, 0, 0, 0, [], (hshV l), []⟩) _ _) (by exact cells_rq _ rfl rfl) (by exact Nat.le_of_eq (rcs_length (zq_ok _) _ _).symm) ?_); intro Wn hS; rw [splice_all ((rcs_length (⟨rfl, hshV_len _, (by decide : 0 < 4294967296), (by decide : 0 < 4294967296), (by decide : 0 < 4294967296)⟩ : Req.ok ⟨(kb.toNat : Int), z32, 0, 0, 0, [], (hshV l), []⟩) _ _).trans (rcs_length (zq_ok _) _ _).symm)] at hS; clear HS; have HS := Lib.hid hS; clear hS))
      exact bodyPost_ret (ret_ct56 (p := 2) (u := 3) rfl _ b2 _ 56 (0, 0) _ (by rfl) (by rfl) (HS.out.blk (i := 4) rfl) (by rw [List.size_toArray]; exact rcs_length (⟨rfl, hshV_len _, (by decide : 0 < 4294967296), (by decide : 0 < 4294967296), (by decide : 0 < 4294967296)⟩ : Req.ok ⟨(kb.toNat : Int), z32, 0, 0, 0, [], (hshV l), []⟩) _ _)) rfl ⟨⟨(kb.toNat : Int), z32, 0, 0, 0, [], (hshV l), []⟩, (.slice none 0 0), (.slice none 0 0), 0, rfl, HP, ((((((HS.out.sub 0).sub 0).sub 0).sub 0).sub 0).dropF (Gs := []) (fun G hG => by cases hG)).nilRow.nilRow⟩
    | false =>
      have HD := Lib.hid hd
      have HP := HNO.out (fun _ => of_decide_eq_false hd)
      clear hd
      go_wp2_with (first
        | (go_at_call 47; refine (equal47b _ _ (encQ ⟨(kb.toNat : Int), z32, 0, 0, 0, [], (hshV l), []⟩) (kb :: l) _ (Row.hb (HS.out.res (i := 0) rfl)) (HS.out.fact (i := 0) rfl) HD.out).mono ?_; rintro e Wn ⟨rfl, rfl⟩)
        | (refine atd 90 (by rfl) ?_; refine wl (by rfl) (wp_of_run (run_b56z (by rfl)) ?_))
        | (refine sto 2 (by rfl) ?_; refine wl (by rfl) (s_sta (cs := rcs (zq 0) (.slice none 0 0) (.slice none 0 0)) HS.out 4 70 (by rfl) (by rfl) (by rfl) ag56 (by rfl) (by exact rcs_length (zq_ok 0) _ _) (by exact cells_rq _ rfl rfl) (by exact Nat.le_of_eq (rcs_length (zq_ok _) _ _).symm) ?_); intro Wn hS; rw [splice_all ((rcs_length (zq_ok 0) _ _).trans (rcs_length (zq_ok _) _ _).symm)] at hS; clear HS; have HS := Lib.hid hS; clear hS))
      exact bodyPost_ret (ret_ct56 (p := 2) (u := 3) rfl _ b2 _ 56 (0, 0) _ (by rfl) (by rfl) (HS.out.blk (i := 4) rfl) (by rw [List.size_toArray]; exact rcs_length (zq_ok 0) _ _)) rfl ⟨zq 0, (.slice none 0 0), (.slice none 0 0), 290, rfl, HP, ((((((HS.out.sub 0).sub 0).sub 0).sub 0).sub 0).dropF (Gs := []) (fun G hG => by cases hG)).nilRow.nilRow⟩
end
section
open Go Go.RowKit Go.Proofs
attribute [local irreducible] Calls
set_option maxHeartbeats 2000000 in
set_option maxRecDepth 100000 in
theorem dec29g (v : Value) (kb : UInt8) (l : List UInt8) (w : World) (hv : HB w v (kb :: l)) (hl : (kb :: l).length ≤ 70368744177664) (hf : fldK (kb.toNat : Int) = 0) :
    Calls Try.prog 29 #[v] w fun e w' => ∃ r s b c, e = .returned (.tuple #[.agg (rcs r s b).toArray, .int .i64 c]) ∧ DecP (kb :: l) r c ∧ St w w' [Row s 5 1 r.sb.length (bs r.sb), Row b 5 1 r.bb.length (bs r.bb)] [] := by
  obtain ⟨Av, cv, rfl, _⟩ := hv.shape
  have HS := Lib.hid ((St.start w).addF hv.away0)
  have HL := Lib.hid hl; have HN := Lib.hid (numN1 kb l).1; have HM := Lib.hid (numN1 kb l).2
  have hkb := kb.toNat_lt
  have hl2 : l.length ≤ 70368744177664 := by simp at hl; omega
  have HL2 := Lib.hid hl2
  have hl3 : (numL l).length ≤ 70368744177664 := by
    unfold numL
    split
    · rw [List.length_drop]; omega
    · omega
  have HL3 := Lib.hid hl3
  have hF : ∀ W, Calls Try.prog 48 #[.int .i64 (kb.toNat : Int)] W fun e w' => e = .returned (.int .i64 0) ∧ W = w' := fun W => by
    have := fields48 (kb.toNat : Int) W
    rwa [hf] at this
  have HF := Lib.hid hF
  have hrq : rdF (fldK (kb.toNat : Int)) (kb.toNat : Int) l = ⟨(kb.toNat : Int), z32, 0, 0, 0, [], z32, []⟩ := by rw [hf]; rfl
  have HRQ := Lib.hid hrq
  have hno : (chkQ ⟨(kb.toNat : Int), z32, 0, 0, 0, [], z32, []⟩ = true → encQ ⟨(kb.toNat : Int), z32, 0, 0, 0, [], z32, []⟩ ≠ kb :: l) → DecP (kb :: l) (zq 0) 290 := fun h => DecP.no fun r e hc => by rw [HRQ.out] at e; subst e; exact h hc
  have HNO := Lib.hid hno
  clear hv hl hl2 hl3 hF hf hrq hno
  go_enter Try.func29, Try.ntmps29
  go_wp2_with (first
    | (refine atd 2 (by rfl) ?_; refine wl (by rfl) (s_al (l := rcs (zq 0) (.slice none 0 0) (.slice none 0 0)) HS.out (by rfl) z56 (by rfl) ?_); intro b2 Wn hS; clear HS; have HS := Lib.hid hS; clear hS)
    | (go_at_call 36; refine (look_new _ (kb :: l) _ (HS.out.fact (i := 0) rfl) HL.out).mono ?_; rintro e Wn ⟨g, u0, rfl, hb⟩; have hS := HS.out.take hb; clear hb; clear HS; have HS := Lib.hid hS; clear hS)
    | (refine atd 4 (by rfl) ?_; refine wl (by rfl) (s_al (l := [.pointer none]) HS.out (by rfl) z69 (by rfl) ?_); intro b4 Wn hS; clear HS; have HS := Lib.hid hS; clear hS)
    | (refine sto 4 (by rfl) ?_; refine wl (by rfl) (s_st (v := .pointer (some ⟨g, 0, none⟩)) HS.out 0 (by rfl) (by rfl) (by rfl) (by kernel_rfl) (by rfl) (by rfl) (by exact Nat.zero_lt_one) ?_); intro Wn hS; clear HS; have HS := Lib.hid hS; clear hS)
    | (go_at_call 51; refine (HS.out.eyeNum1 1 rfl HN.out HM.out (j := 0) rfl).mono ?_; rintro e Wn ⟨u1, rfl, hS⟩; clear HS; have HS := Lib.hid hS; clear hS)
    | (refine atd 18 (by rfl) ?_; refine wl (by rfl) (wp_of_run (run_b56 (k := (kb.toNat : Int)) (by rfl) (by rfl)) ?_))
    | (refine atd 7 (by rfl) ?_; refine wl (by rfl) (s_al (l := rcs (zq 0) (.slice none 0 0) (.slice none 0 0)) HS.out (by rfl) z56 (by rfl) ?_); intro b7 Wn hS; clear HS; have HS := Lib.hid hS; clear hS)
    | (refine sto 7 (by rfl) ?_; refine wl (by rfl) (s_sta (cs := rcs (zq (kb.toNat : Int)) (.slice none 0 0) (.slice none 0 0)) HS.out 0 70 (by rfl) (by rfl) (by rfl) ag56 (by rfl) (by exact rcs_length (zq_ok _) _ _) (by exact cells_rq _ rfl rfl) (by exact Nat.le_of_eq (rcs_length (zq_ok _) _ _).symm) ?_); intro Wn hS; rw [splice_all ((rcs_length (zq_ok _) _ _).trans (rcs_length (zq_ok _) _ _).symm)] at hS; have hS : St w Wn [Blk b7 (rcs ⟨(kb.toNat : Int), z32, 0, 0, 0, [], z32, []⟩ (.slice none 0 0) (.slice none 0 0)) 56, Blk b4 [.pointer (some ⟨g, 0, none⟩)] 69, EyeR g u1 l, Blk b2 _ 56] _ := hS; clear HS; have HS := Lib.hid hS; clear hS)
    | (refine atd 20 (by rfl) ?_; refine wl (by rfl) (s_ld (v := .int .i64 (kb.toNat : Int)) HS.out 0 (by rfl) (by rfl) (by rfl) (by kernel_rfl) (by exact rcs_0 _ _) ?_))
    | (go_at_call 48; refine (HF.out _).mono ?_; rintro e Wn ⟨rfl, rfl⟩)
    | (refine atd 78 (by rfl) ?_; refine wl (by rfl) (s_lda (cs := rcs ⟨(kb.toNat : Int), z32, 0, 0, 0, [], z32, []⟩ (.slice none 0 0) (.slice none 0 0)) HS.out 0 70 (by rfl) (by rfl) (by rfl) ag56 (by exact rcs_all (⟨rfl, rfl, (by decide : 0 < 4294967296), (by decide : 0 < 4294967296), (by decide : 0 < 4294967296)⟩ : Req.ok ⟨(kb.toNat : Int), z32, 0, 0, 0, [], z32, []⟩) _ _) (by exact rcs_length (⟨rfl, rfl, (by decide : 0 < 4294967296), (by decide : 0 < 4294967296), (by decide : 0 < 4294967296)⟩ : Req.ok ⟨(kb.toNat : Int), z32, 0, 0, 0, [], z32, []⟩) _ _) ?_)))
  refine (enc27 ⟨(kb.toNat : Int), z32, 0, 0, 0, [], z32, []⟩ (.slice none 0 0) (.slice none 0 0) _ (⟨rfl, rfl, (by decide : 0 < 4294967296), (by decide : 0 < 4294967296), (by decide : 0 < 4294967296)⟩ : Req.ok ⟨(kb.toNat : Int), z32, 0, 0, 0, [], z32, []⟩) (HB.nil _ _ _) (HB.nil _ _ _)).mono ?_
  rintro e Wn ⟨ve, rfl, hb⟩
  have hS := HS.out.take hb
  clear hb HS
  have HS := Lib.hid hS
  clear hS
  unfold chkI encOQ at *
  cases hc : chkQ ⟨(kb.toNat : Int), z32, 0, 0, 0, [], z32, []⟩ with
  | false =>
    rw [hc] at HS
    have HD := Lib.hid (HNO.out (fun h => by rw [hc] at h; cases h))
    simp only [Bool.false_eq_true, ↓reduceIte] at HS ⊢
    go_wp2_with (first
      | (refine atd 90 (by rfl) ?_; refine wl (by rfl) (wp_of_run (run_b56z (by rfl)) ?_))
      | (refine sto 2 (by rfl) ?_; refine wl (by rfl) (s_sta (cs := rcs (zq 0) (.slice none 0 0) (.slice none 0 0)) HS.out 4 70 (by rfl) (by rfl) (by rfl) ag56 (by rfl) (by exact rcs_length (zq_ok 0) _ _) (by exact cells_rq _ rfl rfl) (by exact Nat.le_of_eq (rcs_length (zq_ok _) _ _).symm) ?_); intro Wn hS; rw [splice_all ((rcs_length (zq_ok 0) _ _).trans (rcs_length (zq_ok _) _ _).symm)] at hS; clear HS; have HS := Lib.hid hS; clear hS))
    exact bodyPost_ret (ret_ct56 (p := 2) (u := 3) rfl _ b2 _ 56 (0, 0) _ (by rfl) (by rfl) (HS.out.blk (i := 4) rfl) (by rw [List.size_toArray]; exact rcs_length (zq_ok 0) _ _)) rfl ⟨zq 0, (.slice none 0 0), (.slice none 0 0), 290, rfl, HD.out, ((((((HS.out.sub 0).sub 0).sub 0).sub 0).sub 0).dropF (Gs := []) (fun G hG => by cases hG)).nilRow.nilRow⟩
  | true =>
    rw [hc] at HS
    simp only [↓reduceIte] at HS ⊢
    obtain ⟨Ae, ke, rfl⟩ := Row.sl (HS.out.res (i := 0) rfl)
    cases hd : decide (encQ ⟨(kb.toNat : Int), z32, 0, 0, 0, [], z32, []⟩ = kb :: l) with
    | true =>
      have HD := Lib.hid hd
      have HP : DecP (kb :: l) ⟨(kb.toNat : Int), z32, 0, 0, 0, [], z32, []⟩ 0 := ⟨(⟨rfl, rfl, (by decide : 0 < 4294967296), (by decide : 0 < 4294967296), (by decide : 0 < 4294967296)⟩ : Req.ok ⟨(kb.toNat : Int), z32, 0, 0, 0, [], z32, []⟩), .inl ⟨rfl, hc, of_decide_eq_true hd⟩⟩
      clear hd
      go_wp2_with (first
        | (go_at_call 47; refine (equal47b _ _ (encQ ⟨(kb.toNat : Int), z32, 0, 0, 0, [], z32, []⟩) (kb :: l) _ (Row.hb (HS.out.res (i := 0) rfl)) (HS.out.fact (i := 0) rfl) HD.out).mono ?_; rintro e Wn ⟨rfl, rfl⟩)
        | (refine atd 91 (by rfl) ?_; refine wl (by rfl) (s_lda (cs := rcs ⟨(kb.toNat : Int), z32, 0, 0, 0, [], z32, []⟩ (.slice none 0 0) (.slice none 0 0)) HS.out 1 70 (by rfl) (by rfl) (by rfl) ag56 (by exact rcs_all (⟨rfl, rfl, (by decide : 0 < 4294967296), (by decide : 0 < 4294967296), (by decide : 0 < 4294967296)⟩ : Req.ok ⟨(kb.toNat : Int), z32, 0, 0, 0, [], z32, []⟩) _ _) (by exact rcs_length (⟨rfl, rfl, (by decide : 0 < 4294967296), (by decide : 0 < 4294967296), (by decide : 0 < 4294967296)⟩ : Req.ok ⟨(kb.toNat : Int), z32, 0, 0, 0, [], z32, []⟩) _ _) ?_))
        | (refine sto 2 (by rfl) ?_; refine wl (by rfl) (s_sta (cs := rcs ⟨(kb.toNat : Int), z32, 0, 0, 0, [], z32, []⟩ (.slice none 0 0) (.slice none 0 0)) HS.out 4 70 (by rfl) (by rfl) (by rfl) ag56 (by rfl) (by exact rcs_length (⟨rfl, rfl, (by decide : 0 < 4294967296), (by decide : 0 < 4294967296), (by decide : 0 < 4294967296)⟩ : Req.ok ⟨(kb.toNat : Int), z32, 0, 0, 0, [], z32, []⟩) _ _) (by exact cells_rq _ rfl rfl) (by exact Nat.le_of_eq (rcs_length (zq_ok _) _ _).symm) ?_); intro Wn hS; rw [splice_all ((rcs_length (⟨rfl, rfl, (by decide : 0 < 4294967296), (by decide : 0 < 4294967296), (by decide : 0 < 4294967296)⟩ : Req.ok ⟨(kb.toNat : Int), z32, 0, 0, 0, [], z32, []⟩) _ _).trans (rcs_length (zq_ok _) _ _).symm)] at hS; clear HS; have HS := Lib.hid hS; clear hS))
      exact bodyPost_ret (ret_ct56 (p := 2) (u := 3) rfl _ b2 _ 56 (0, 0) _ (by rfl) (by rfl) (HS.out.blk (i := 4) rfl) (by rw [List.size_toArray]; exact rcs_length (⟨rfl, rfl, (by decide : 0 < 4294967296), (by decide : 0 < 4294967296), (by decide : 0 < 4294967296)⟩ : Req.ok ⟨(kb.toNat : Int), z32, 0, 0, 0, [], z32, []⟩) _ _)) rfl ⟨⟨(kb.toNat : Int), z32, 0, 0, 0, [], z32, []⟩, (.slice none 0 0), (.slice none 0 0), 0, rfl, HP, ((((((HS.out.sub 0).sub 0).sub 0).sub 0).sub 0).dropF (Gs := []) (fun G hG => by cases hG)).nilRow.nilRow⟩
    | false =>
      have HD := Lib.hid hd
      have HP := HNO.out (fun _ => of_decide_eq_false hd)
      clear hd
      go_wp2_with (first
        | (go_at_call 47; refine (equal47b _ _ (encQ ⟨(kb.toNat : Int), z32, 0, 0, 0, [], z32, []⟩) (kb :: l) _ (Row.hb (HS.out.res (i := 0) rfl)) (HS.out.fact (i := 0) rfl) HD.out).mono ?_; rintro e Wn ⟨rfl, rfl⟩)
        | (refine atd 90 (by rfl) ?_; refine wl (by rfl) (wp_of_run (run_b56z (by rfl)) ?_))
        | (refine sto 2 (by rfl) ?_; refine wl (by rfl) (s_sta (cs := rcs (zq 0) (.slice none 0 0) (.slice none 0 0)) HS.out 4 70 (by rfl) (by rfl) (by rfl) ag56 (by rfl) (by exact rcs_length (zq_ok 0) _ _) (by exact cells_rq _ rfl rfl) (by exact Nat.le_of_eq (rcs_length (zq_ok _) _ _).symm) ?_); intro Wn hS; rw [splice_all ((rcs_length (zq_ok 0) _ _).trans (rcs_length (zq_ok _) _ _).symm)] at hS; clear HS; have HS := Lib.hid hS; clear hS))
      exact bodyPost_ret (ret_ct56 (p := 2) (u := 3) rfl _ b2 _ 56 (0, 0) _ (by rfl) (by rfl) (HS.out.blk (i := 4) rfl) (by rw [List.size_toArray]; exact rcs_length (zq_ok 0) _ _)) rfl ⟨zq 0, (.slice none 0 0), (.slice none 0 0), 290, rfl, HP, ((((((HS.out.sub 0).sub 0).sub 0).sub 0).sub 0).dropF (Gs := []) (fun G hG => by cases hG)).nilRow.nilRow⟩
end
section
open Go Go.RowKit Go.Proofs
attribute [local irreducible] Calls
theorem dec29 (v : Value) (xs : List UInt8) (w : World) (hv : HB w v xs) (hl : xs.length ≤ 70368744177664) :
    Calls Try.prog 29 #[v] w fun e w' => ∃ r s b c, e = .returned (.tuple #[.agg (rcs r s b).toArray, .int .i64 c]) ∧ DecP xs r c ∧ St w w' [Row s 5 1 r.sb.length (bs r.sb), Row b 5 1 r.bb.length (bs r.bb)] [] := by
  have bad : ∀ n : Nat, numN 1 xs = n → n < 256 → fldK (n : Int) = -1 → DecP xs (zq 0) 290 → Calls Try.prog 29 #[v] w fun e w' => ∃ r s b c, e = .returned (.tuple #[.agg (rcs r s b).toArray, .int .i64 c]) ∧ DecP xs r c ∧ St w w' [Row s 5 1 r.sb.length (bs r.sb), Row b 5 1 r.bb.length (bs r.bb)] [] := fun n h1 h2 h3 h4 => by
    refine (dec29z v xs n _ w hv hl h1 rfl h2 h3).mono ?_
    rintro e w' ⟨rfl, hb⟩
    exact ⟨zq 0, _, _, 290, rfl, h4, ((St.start w).call hb).nilRow.nilRow⟩
  cases xs with
  | nil => exact bad 0 rfl (by decide) (by decide) DecP.nil
  | cons kb l =>
    have hkb := kb.toNat_lt
    rcases fldK_cases (kb.toNat : Int) with ⟨hf, _⟩ | ⟨hf, _⟩ | ⟨hf, _⟩ | ⟨hf, _⟩ | ⟨hf, _⟩ | ⟨hf, _⟩ | ⟨hf, _⟩ | ⟨hf, hk⟩
    · exact dec29a v kb l w hv hl hf
    · exact dec29b v kb l w hv hl hf
    · exact dec29c v kb l w hv hl hf
    · exact dec29d v kb l w hv hl hf
    · exact dec29e v kb l w hv hl hf
    · exact dec29f v kb l w hv hl hf
    · exact dec29g v kb l w hv hl hf
    · refine bad kb.toNat (numN1 kb l).1 (by omega) hf (DecP.no fun r e hc he => ?_)
      have h0 := (chkQ_iff.1 hc).1
      rw [e, rdF_k, hf] at h0
      exact h0 (by decide)

theorem run_b56k {W : World} {ev : Operand → Value} {o : Oper} (ho : o.op = .build 56 #[(0, .const (.int .i64 5)), (2, .const (.int .u32 258)), (3, .const (.int .u32 3))]) (hx : ∀ v, ev (.const v) = v) : (execOp ev o).run Try.prog W = .ok (.value (.agg (rcs ⟨5, z32, 0, 258, 3, [], z32, []⟩ (.slice none 0 0) (.slice none 0 0)).toArray)) W := by
  unfold execOp
  simp only [ho, List.map_toArray, List.map_cons, List.map_nil, hx, Sem.run_bind, build56k W, Result.andThen_ok, Sem.run_pure]
theorem req5ok : (⟨5, z32, 0, 258, 3, [], z32, []⟩ : Req).ok := ⟨rfl, rfl, by decide, by decide, by decide⟩
theorem req5chk : chkQ ⟨5, z32, 0, 258, 3, [], z32, []⟩ = true := chkQ_iff.2 ⟨by decide, rfl, by decide, by decide⟩
theorem req5enc : encQ ⟨5, z32, 0, 258, 3, [], z32, []⟩ = [5, 2, 1, 0, 0, 3, 0, 0, 0] := by
  unfold encQ
  have e1 : le 4 258 = [2, 1, 0, 0] := by decide
  have e2 : le 4 3 = [3, 0, 0, 0] := by decide
  have e : encF 6 ⟨5, z32, 0, 258, 3, [], z32, []⟩ = le 4 258 ++ le 4 3 := rfl
  show UInt8.ofNat 5 :: encF 6 _ = _
  rw [e, e1, e2]
  rfl
theorem req10chk : chkQ (zq 10) = true := chkQ_iff.2 ⟨by decide, rfl, by decide, by decide⟩
theorem req10enc : encQ (zq 10) = [10] := rfl
theorem dec_10 : DecP [10] (zq 10) 0 := ⟨zq_ok 10, .inl ⟨rfl, req10chk, req10enc⟩⟩
theorem dec_100 : DecP [10, 0] (zq 0) 290 := DecP.no (kb := 10) (l := [0]) fun r e hc he => by
  subst e
  rw [show rdF (fldK ((10 : UInt8).toNat : Int)) ((10 : UInt8).toNat : Int) [0] = zq 10 from rfl, req10enc] at he
  simp at he
theorem enc27k (w : World) : Calls Try.prog 27 #[.agg (rcs ⟨5, z32, 0, 258, 3, [], z32, []⟩ (.slice none 0 0) (.slice none 0 0)).toArray] w fun e w' => ∃ v', e = .returned (.tuple #[v', .int .i64 0]) ∧ New w w' (Row v' 5 1 9 (bs [5, 2, 1, 0, 0, 3, 0, 0, 0])) := by
  refine (enc27 _ _ _ w req5ok (HB.nil _ _ _) (HB.nil _ _ _)).mono ?_
  rintro e w' ⟨v', rfl, hb⟩
  unfold chkI encOQ at *
  rw [req5chk] at *
  rw [if_pos rfl, req5enc] at hb
  exact ⟨v', rfl, hb⟩
/-- A reading whose answer is known. -/
theorem dec29k (v : Value) (xs : List UInt8) (w : World) (hv : HB w v xs) (hl : xs.length ≤ 70368744177664) (r : Req) (c : Int) (hd : DecP xs r c) :
    Calls Try.prog 29 #[v] w fun e w' => ∃ A n p B m q, e = .returned (.tuple #[.agg (rcs r (.slice A n p) (.slice B m q)).toArray, .int .i64 c]) ∧ HB w' (.slice A n p) r.sb ∧ HB w' (.slice B m q) r.bb ∧ St w w' [Row (.slice A n p) 5 1 r.sb.length (bs r.sb), Row (.slice B m q) 5 1 r.bb.length (bs r.bb)] [] := by
  refine (dec29 v xs w hv hl).mono ?_
  rintro e w' ⟨r', s, b, c', rfl, hd', hS⟩
  obtain ⟨rfl, rfl⟩ := hd'.uniq hd
  obtain ⟨A, p, rfl⟩ := Row.sl (hS.res (i := 0) rfl)
  obtain ⟨B, q, rfl⟩ := Row.sl (hS.res (i := 1) rfl)
  exact ⟨A, _, p, B, _, q, rfl, Row.hb (hS.res (i := 0) rfl), Row.hb (hS.res (i := 1) rfl), hS⟩
set_option maxHeartbeats 1000000 in
set_option maxRecDepth 100000 in
theorem alive34 (w : World) : Calls Try.prog 34 #[] w fun e w' => e = .returned (.bool true) ∧ Below w.heap.size w w' := by
  have HS := Lib.hid (St.start w)
  go_enter Try.func34, Try.ntmps34
  go_wp2_with (first
    | (refine atd 8 (by rfl) ?_; refine wl (by rfl) (wp_of_run (run_b56k (by rfl) (fun _ => rfl)) ?_))
    | (go_at_call 27; refine (enc27k _).mono ?_; rintro e Wn ⟨v1, rfl, hb⟩; have hS := HS.out.take hb; clear hb; obtain ⟨A1, c1, rfl⟩ := Row.sl (hS.res (i := 0) rfl); clear HS; have HS := Lib.hid hS; clear hS)
    | (refine atd 13 (by rfl) ?_; refine wl (by rfl) (s_bs (E := 5) (z := (.int .u8 0)) HS.out 1 1 (bs [10]) (by rfl) Try.underlying22 (by kernel_rfl) (by rfl) (by decide) (by decide) (by kernel_rfl) (by rfl) (by decide) ?_); intro bx Wn hS; clear HS; have HS := Lib.hid hS; clear hS)
    | (go_at_call 29; refine (dec29k _ [10] _ (Row.hb (l := [10]) (HS.out.res (i := 0) rfl)) (by decide) _ _ dec_10).mono ?_; rintro e Wn ⟨A2, n2, p2, B2, m2, q2, rfl, -, -, hb⟩; have hS := HS.out.call hb.below; clear hb; clear HS; have HS := Lib.hid hS; clear hS)
    | (refine atd 3 (by rfl) ?_; refine wl (by rfl) (s_al (l := rcs (zq 0) (.slice none 0 0) (.slice none 0 0)) HS.out (by rfl) z56 (by rfl) ?_); intro b3 Wn hS; clear HS; have HS := Lib.hid hS; clear hS)
    | (refine sto 3 (by rfl) ?_; refine wl (by rfl) (s_sta (cs := rcs (zq 10) (.slice A2 n2 p2) (.slice B2 m2 q2)) HS.out 0 70 (by rfl) (by rfl) (by rfl) ag56 (by rfl) (by exact rcs_length (zq_ok _) _ _) (by exact cells_rq _ rfl rfl) (by exact Nat.le_of_eq (rcs_length (zq_ok _) _ _).symm) ?_); intro Wn hS; rw [splice_all ((rcs_length (zq_ok _) _ _).trans (rcs_length (zq_ok _) _ _).symm)] at hS; clear HS; have HS := Lib.hid hS; clear hS)
    | (refine atd 18 (by rfl) ?_; refine wl (by rfl) (s_bs (E := 5) (z := (.int .u8 0)) HS.out 2 1 (bs [10, 0]) (by rfl) Try.underlying22 (by kernel_rfl) (by rfl) (by decide) (by decide) (by kernel_rfl) (by rfl) (by decide) ?_); intro bz Wn hS; clear HS; have HS := Lib.hid hS; clear hS)
    | (go_at_call 29; refine (dec29k _ [10, 0] _ (Row.hb (l := [10, 0]) (HS.out.res (i := 0) rfl)) (by decide) _ _ dec_100).mono ?_; rintro e Wn ⟨A3, n3, p3, B3, m3, q3, rfl, -, -, hb⟩; have hS := HS.out.call hb.below; clear hb; clear HS; have HS := Lib.hid hS; clear hS)
    | (refine atd 5 (by rfl) ?_; refine wl (by rfl) (s_al (l := rcs (zq 0) (.slice none 0 0) (.slice none 0 0)) HS.out (by rfl) z56 (by rfl) ?_); intro b5 Wn hS; clear HS; have HS := Lib.hid hS; clear hS)
    | (refine sto 5 (by rfl) ?_; refine wl (by rfl) (s_sta (cs := rcs (zq 0) (.slice A3 n3 p3) (.slice B3 m3 q3)) HS.out 0 70 (by rfl) (by rfl) (by rfl) ag56 (by rfl) (by exact rcs_length (zq_ok _) _ _) (by exact cells_rq _ rfl rfl) (by exact Nat.le_of_eq (rcs_length (zq_ok _) _ _).symm) ?_); intro Wn hS; rw [splice_all ((rcs_length (zq_ok _) _ _).trans (rcs_length (zq_ok _) _ _).symm)] at hS; clear HS; have HS := Lib.hid hS; clear hS)
    | (refine atd 26 (by rfl) ?_; refine wl (by rfl) (wp_of_run (run_str (xs := [5, 2, 1, 0, 0, 3, 0, 0, 0]) (by rfl) (by rfl) (Row.hb (l := [5, 2, 1, 0, 0, 3, 0, 0, 0]) (HS.out.res (i := 4) rfl))) ?_))
    | (refine atd 35 (by rfl) ?_; refine wl (by rfl) (s_ld (v := .int .i64 10) HS.out 2 (by rfl) (by rfl) (by rfl) (by kernel_rfl) (by exact rcs_0 _ _) ?_)))
  go_ret
  exact ⟨rfl, HS.out.below⟩
end
end Go.Proofs.Ytlpklbpaknemaaa
