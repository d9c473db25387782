/- Contracts and words that the laws stand on (ExJ). -/
import Derived.Test.YtlpklbpaknemaaaExI
set_option linter.unusedVariables false
set_option linter.unusedSimpArgs false
namespace Go.Proofs.Ytlpklbpaknemaaa
section
open Go Go.RowKit Go.Proofs
attribute [local irreducible] Calls
set_option maxHeartbeats 2000000 in
set_option maxRecDepth 100000 in
theorem dec30c (ad : Addr) (N c M c1 : Nat) (A1 : Option Addr) (l : List UInt8) (w : World) (hv : HB w (.slice (some ad) N c) (3 :: l)) (hl : HB w (.slice A1 M c1) l) (hN : N = M + 1) (hM : l.length = M) (hM2 : M ≤ 5000) (hc0 : Away (Keys []) (fun W => W.cell? (ad.add 0) = some (.int .u8 3)) w) (hs1 : ∀ W, (Instr.slice 22 (.slice (some ad) N c) (some (.int .i64 1)) none none).run Try.prog W = .ok (.slice A1 M c1) W) :
    Calls Try.prog 30 #[.slice (some ad) N c] w fun e w' => ∃ r s b c, e = .returned (.tuple #[.agg (rcs r s b).toArray, .int .i64 c]) ∧ DecP (3 :: l) r c ∧ St w w' [Row s 5 1 r.sb.length (bs r.sb), Row b 5 1 r.bb.length (bs r.bb)] [] := by
  have z0 : ((N : Int) == 0) = false := beq_eq_false_iff_ne.2 (by omega)
  have z1 : (0 : Int) < (N : Int) := by omega
  have HS := Lib.hid (((((St.start w).addF hl.away0).addF hc0).addF hv.away0))
  have HM := Lib.hid hM
  have hrq : rdF (fldK (((3 : UInt8).toNat : Nat) : Int)) (((3 : UInt8).toNat : Nat) : Int) l = ⟨3, z32, 0, (numV l), 0, [], z32, []⟩ := rfl
  have HNO := Lib.hid (show (chkQ ⟨3, z32, 0, (numV l), 0, [], z32, []⟩ = true → encQ ⟨3, z32, 0, (numV l), 0, [], z32, []⟩ ≠ 3 :: l) → DecP (3 :: l) (zq 0) 290 from fun h => DecP.no fun r e hc => by rw [hrq] at e; subst e; exact h hc)
  clear hrq
  have HHV := Lib.hid (hshV_len l)
  have HRL := Lib.hid hM
  have hb1 := numV_lt l
  have hb8 := numV_lt (numL l)
  clear hv hl hM hN hc0
  go_enter Try.func30, Try.ntmps30
  go_wp2_with (first
    | (refine atd 2 (by rfl) ?_; refine wl (by rfl) (s_al (l := rcs (zq 0) (.slice none 0 0) (.slice none 0 0)) HS.out (by rfl) z56 (by rfl) ?_); intro b2 Wn hS; clear HS; have HS := Lib.hid hS; clear hS)
    | (refine atd 20 (by rfl) ?_; refine wl (by rfl) (wp_of_run (run_ld (v := .int .u8 3) (by kernel_rfl) (by rfl) (by rfl) (HS.out.fact (i := 1) rfl)) ?_))
    | (refine atd 22 (by rfl) ?_; refine wl (by rfl) (wp_of_run (run_b56 (k := 3) (by rfl) (by rfl)) ?_))
    | (refine atd 4 (by rfl) ?_; refine wl (by rfl) (s_al (l := rcs (zq 0) (.slice none 0 0) (.slice none 0 0)) HS.out (by rfl) z56 (by rfl) ?_); intro b4 Wn hS; clear HS; have HS := Lib.hid hS; clear hS)
    | (refine sto 4 (by rfl) ?_; refine wl (by rfl) (s_sta (cs := rcs (zq 3) (.slice none 0 0) (.slice none 0 0)) HS.out 0 70 (by rfl) (by rfl) (by rfl) ag56 (by rfl) (by exact rcs_length (zq_ok _) _ _) (by exact cells_rq _ rfl rfl) (by exact Nat.le_of_eq (rcs_length (zq_ok _) _ _).symm) ?_); intro Wn hS; rw [splice_all ((rcs_length (zq_ok _) _ _).trans (rcs_length (zq_ok _) _ _).symm)] at hS; have hS : St w Wn [Blk b4 (rcs ⟨3, z32, 0, 0, 0, [], z32, []⟩ (.slice none 0 0) (.slice none 0 0)) 56, Blk b2 (rcs (zq 0) (.slice none 0 0) (.slice none 0 0)) 56] _ := hS; clear HS; have HS := Lib.hid hS; clear hS)
    | (refine atd 26 (by rfl) ?_; refine wl (by rfl) (s_ld (v := .int .i64 3) HS.out 0 (by rfl) (by rfl) (by rfl) (by kernel_rfl) (by exact rcs_0 _ _) ?_))
    | (refine atd 30 (by rfl) ?_; refine wl (by rfl) (s_ld (v := .int .i64 3) HS.out 0 (by rfl) (by rfl) (by rfl) (by kernel_rfl) (by exact rcs_0 _ _) ?_))
    | (refine atd 35 (by rfl) ?_; refine wl (by rfl) (s_ld (v := .int .i64 3) HS.out 0 (by rfl) (by rfl) (by rfl) (by kernel_rfl) (by exact rcs_0 _ _) ?_))
    | (refine atd 40 (by rfl) ?_; refine wl (by rfl) (s_ld (v := .int .i64 3) HS.out 0 (by rfl) (by rfl) (by rfl) (by kernel_rfl) (by exact rcs_0 _ _) ?_)))
  go_loopw [7, 8] (fun s7 s8 wr => ∃ (j : Nat) (v7 : Value), j ≤ 2 ∧ 4 * j ≤ M ∧ s8 = .int .i64 ((4 * j : Nat) : Int) ∧ s7 = v7 ∧ St w wr [Row v7 48 1 j (nums l j), Blk b4 (rcs ⟨3, z32, 0, 0, 0, [], z32, []⟩ (.slice none 0 0) (.slice none 0 0)) 56, Blk b2 (rcs (zq 0) (.slice none 0 0) (.slice none 0 0)) 56] [fun W => HB W (.slice (some ad) N c) (3 :: l), fun W => W.cell? (ad.add 0) = some (.int .u8 3), fun W => HB W (.slice A1 M c1) l]) (fun _ s8 _ => 8 - (intOf s8).toNat)
  case atStart => exact ⟨0, _, by omega, by omega, rfl, rfl, HS.out.nilRowE 48 1⟩
  case round =>
    obtain ⟨j, v7, hj, hj4, rfl, rfl, hs⟩ := hrel
    clear HS
    have HS := Lib.hid hs
    clear hs
    by_cases hm : 4 * j + 4 ≤ M
    · have m1 : ((4 * j : Nat) : Int) + 4 ≤ (M : Int) := by omega
      have m1' : 4 * (j : Int) + 4 ≤ (M : Int) := by omega
      by_cases h2 : j < 2
      · have m2 : ((4 * j : Nat) : Int) < 8 := by omega
        have m2' : 4 * (j : Int) < 8 := by omega
        obtain ⟨AQ, cQ, hQs, hQ⟩ : ∃ AQ cQ, (∀ W, (Instr.slice 22 (.slice A1 M c1) (some (.int .i64 (4 * (j : Int)))) (some (.int .i64 (4 * (j : Int) + 4))) none).run Try.prog W = .ok (.slice AQ 4 cQ) W) ∧ ∀ W, HB W (.slice A1 M c1) l → HB W (.slice AQ 4 cQ) ((l.drop (4 * j)).take 4) := cut4 (HS.out.fact (i := 2) rfl) hm
        have HQ := Lib.hid hQ
        clear hQ
        have HQl := Lib.hid (show ((l.drop (4 * j)).take 4).length = 4 by rw [List.length_take, List.length_drop, HRL.out]; omega)
        have hn32 := leNum_32 _ HQl.out
        have HNS := Lib.hid (nums_succ l j)
        obtain ⟨n, hn⟩ : ∃ n, leNum ((l.drop (4 * j)).take 4) = n := ⟨_, rfl⟩
        rw [hn] at hn32 HNS
        have HNE := Lib.hid hn
        clear hn
        go_wp2_with (first
          | (go_at_call 38; refine (rnum_any _ _ _ (HQ.out _ (HS.out.fact (i := 2) rfl)) (by rw [HQl.out]; decide)).mono ?_; rw [HNE.out]; rintro e Wn ⟨rfl, hb⟩; have hS := HS.out.call hb; clear hb; clear HS; have HS := Lib.hid hS; clear hS)
          | (refine atd 79 (by rfl) ?_; refine wl (by rfl) (s_bs (E := 48) (z := (.int .u32 0)) HS.out 1 1 [.int .u32 (n : Int)] (by rfl) Try.underlying95 (by kernel_rfl) (by rfl) (by decide) (by decide) (by kernel_rfl) (by rfl) (by decide) ?_); intro b79 Wn hS; clear HS; have HS := Lib.hid hS; clear hS)
          | (refine atd 80 (by rfl) ?_; refine wl (by rfl) (s_rows (size := 1) (bytes := 4) (z := .int .u32 0) HS.out 1 0 (by rfl) Try.underlying95 (by kernel_rfl) (by rfl) (by decide) (by rfl) (by rfl) (by rfl) (by rfl) (by intro u hu; simp at hu; subst hu; rfl) (by omega) (by omega) ?_); intro v80 Wn hS; replace hS := hS.sub 0; clear HS; have HS := Lib.hid hS; clear hS))
        have hS := HS.out
        rw [show nums l j ++ [.int .u32 (n : Int)] = nums l (j + 1) from HNS.out.symm] at hS
        exact ⟨⟨j + 1, _, by omega, by omega, by push_cast; rfl, rfl, hS⟩, by simp [intOf]; omega⟩
      have m2 : ¬ ((4 * j : Nat) : Int) < 8 := by omega
      have m2' : ¬ 4 * (j : Int) < 8 := by omega
      have HNE := Lib.hid (nums_end (R := l) hj (by rw [HRL.out]; exact hj4) (by rw [HRL.out]; exact .inl (by omega)))
      have i07 : (0 : Int) < (j : Int) + 2 := by omega
      have i17 : (1 : Int) < (j : Int) + 2 := by omega
      go_wp2_with (first
        | (refine atd 82 (by rfl) ?_; refine wl (by rfl) (s_bs (E := 48) (z := (.int .u32 0)) HS.out 2 1 [.int .u32 0, .int .u32 0] (by rfl) Try.underlying95 (by kernel_rfl) (by rfl) (by decide) (by decide) (by kernel_rfl) (by rfl) (by decide) ?_); intro b82 Wn hS; clear HS; have HS := Lib.hid hS; clear hS)
        | (refine atd 83 (by rfl) ?_; refine wl (by rfl) (s_rows (size := 1) (bytes := 4) (z := .int .u32 0) HS.out 1 0 (by rfl) Try.underlying95 (by kernel_rfl) (by rfl) (by decide) (by rfl) (by rfl) (by rfl) (by rfl) (by intro u hu; simp at hu; rcases hu with rfl | rfl <;> rfl) (by omega) (by omega) ?_); intro v83 Wn hS; replace hS := hS.sub 0; clear HS; have HS := Lib.hid hS; clear hS; obtain ⟨g7, c7, rfl⟩ := rowE_some (HS.out.res (i := 0) rfl) (by omega))
        | (refine atd 85 (by rfl) ?_; refine wl (by rfl) (s_ld (v := .int .i64 3) HS.out 1 (by rfl) (by rfl) (by rfl) (by kernel_rfl) (by exact rcs_0 _ _) ?_))
        | (refine atd 112 (by rfl) ?_; refine wl (by rfl) (wp_of_run (run_ld (v := .int .u32 ((numV l : Nat) : Int)) (by kernel_rfl) (by rfl) (by rfl) (rowE_cell (HS.out.res (i := 0) rfl) HNE.out.1)) ?_))
        | (refine sto 113 (by rfl) ?_; refine wl (by rfl) (s_st (v := .int .u32 (((numV l) : Nat) : Int)) HS.out 1 (by rfl) (by rfl) (by rfl) (by kernel_rfl) (by rfl) (by rfl) (by rw [rcs_length (⟨rfl, rfl, Nat.zero_lt_succ _, Nat.zero_lt_succ _, Nat.zero_lt_succ _⟩ : Req.ok ⟨3, z32, 0, 0, 0, [], z32, []⟩)]; decide) ?_); intro Wn hS; rw [rcs_setH (hx := rfl)] at hS; clear HS; have HS := Lib.hid hS; clear hS)
        | (refine atd 142 (by rfl) ?_; refine wl (by rfl) (s_lda (cs := rcs ⟨3, z32, 0, (numV l), 0, [], z32, []⟩ (.slice none 0 0) (.slice none 0 0)) HS.out 1 70 (by rfl) (by rfl) (by rfl) ag56 (by exact rcs_all (⟨rfl, rfl, Nat.zero_lt_succ _, numV_lt _, Nat.zero_lt_succ _⟩ : Req.ok ⟨3, z32, 0, (numV l), 0, [], z32, []⟩) _ _) (by exact rcs_length (⟨rfl, rfl, Nat.zero_lt_succ _, numV_lt _, Nat.zero_lt_succ _⟩ : Req.ok ⟨3, z32, 0, (numV l), 0, [], z32, []⟩) _ _) ?_)))
      refine (enc28 ⟨3, z32, 0, (numV l), 0, [], z32, []⟩ (.slice none 0 0) (.slice none 0 0) _ (⟨rfl, rfl, Nat.zero_lt_succ _, numV_lt _, Nat.zero_lt_succ _⟩ : Req.ok ⟨3, z32, 0, (numV l), 0, [], z32, []⟩) (HB.nil _ _ _) (HB.nil _ _ _) (by exact Nat.zero_le _) (by exact Nat.zero_le _)).mono ?_
      rintro e Wn ⟨ve, rfl, hb⟩
      have hS := HS.out.take hb
      clear hb HS
      have HS := Lib.hid hS
      clear hS
      unfold chkI encOQ at *
      obtain ⟨Ae, ke, rfl⟩ := Row.sl (HS.out.res (i := 0) rfl)
      cases hc : chkQ ⟨3, z32, 0, (numV l), 0, [], z32, []⟩ with
      | false =>
        rw [hc] at HS
        have HD := Lib.hid (HNO.out (fun h => by rw [hc] at h; cases h))
        simp only [Bool.false_eq_true, ↓reduceIte] at HS ⊢
        go_wp2_with (first
          | (refine atd 155 (by rfl) ?_; refine wl (by rfl) (wp_of_run (run_b56z (by rfl)) ?_))
          | (refine sto 2 (by rfl) ?_; refine wl (by rfl) (s_sta (cs := rcs (zq 0) (.slice none 0 0) (.slice none 0 0)) HS.out 3 70 (by rfl) (by rfl) (by rfl) ag56 (by rfl) (by exact rcs_length (zq_ok 0) _ _) (by exact cells_rq _ rfl rfl) (by exact Nat.le_of_eq (rcs_length (zq_ok _) _ _).symm) ?_); intro Wn hS; rw [splice_all ((rcs_length (zq_ok 0) _ _).trans (rcs_length (zq_ok _) _ _).symm)] at hS; clear HS; have HS := Lib.hid hS; clear hS))
        exact bodyPost_ret (ret_ct56 (p := 2) (u := 3) rfl _ b2 _ 56 (0, 0) _ (by rfl) (by rfl) (HS.out.blk (i := 3) rfl) (by rw [List.size_toArray]; exact rcs_length (zq_ok 0) _ _)) rfl ⟨zq 0, (.slice none 0 0), (.slice none 0 0), 290, rfl, HD.out, (((((HS.out.sub 0).sub 0).sub 0).sub 0).dropF (Gs := []) (fun G hG => by cases hG)).nilRow.nilRow⟩
      | true =>
        rw [hc] at HS
        simp only [↓reduceIte] at HS ⊢
        by_cases hd : encQ ⟨3, z32, 0, (numV l), 0, [], z32, []⟩ = 3 :: l
        · have HP : DecP (3 :: l) ⟨3, z32, 0, (numV l), 0, [], z32, []⟩ 0 := ⟨(⟨rfl, rfl, Nat.zero_lt_succ _, numV_lt _, Nat.zero_lt_succ _⟩ : Req.ok ⟨3, z32, 0, (numV l), 0, [], z32, []⟩), .inl ⟨rfl, hc, hd⟩⟩
          rw [hd] at HS ⊢
          clear hd
          go_wp2_with (first
            | (refine atd 150 (by rfl) ?_; refine wl (by rfl) (wp_of_run (run_str (xs := (3 :: l)) (by rfl) (by rfl) (Row.hb (l := (3 :: l)) (HS.out.res (i := 0) rfl))) ?_))
            | (refine atd 152 (by rfl) ?_; refine wl (by rfl) (wp_of_run (run_str (xs := 3 :: l) (by rfl) (by rfl) (HS.out.fact (i := 0) rfl)) ?_))
            | (refine atd 156 (by rfl) ?_; refine wl (by rfl) (s_lda (cs := rcs ⟨3, z32, 0, (numV l), 0, [], z32, []⟩ (.slice none 0 0) (.slice none 0 0)) HS.out 2 70 (by rfl) (by rfl) (by rfl) ag56 (by exact rcs_all (⟨rfl, rfl, Nat.zero_lt_succ _, numV_lt _, Nat.zero_lt_succ _⟩ : Req.ok ⟨3, z32, 0, (numV l), 0, [], z32, []⟩) _ _) (by exact rcs_length (⟨rfl, rfl, Nat.zero_lt_succ _, numV_lt _, Nat.zero_lt_succ _⟩ : Req.ok ⟨3, z32, 0, (numV l), 0, [], z32, []⟩) _ _) ?_))
            | (refine sto 2 (by rfl) ?_; refine wl (by rfl) (s_sta (cs := rcs ⟨3, z32, 0, (numV l), 0, [], z32, []⟩ (.slice none 0 0) (.slice none 0 0)) HS.out 3 70 (by rfl) (by rfl) (by rfl) ag56 (by rfl) (by exact rcs_length (⟨rfl, rfl, Nat.zero_lt_succ _, numV_lt _, Nat.zero_lt_succ _⟩ : Req.ok ⟨3, z32, 0, (numV l), 0, [], z32, []⟩) _ _) (by exact cells_rq _ rfl rfl) (by exact Nat.le_of_eq (rcs_length (zq_ok _) _ _).symm) ?_); intro Wn hS; rw [splice_all ((rcs_length (⟨rfl, rfl, Nat.zero_lt_succ _, numV_lt _, Nat.zero_lt_succ _⟩ : Req.ok ⟨3, z32, 0, (numV l), 0, [], z32, []⟩) _ _).trans (rcs_length (zq_ok _) _ _).symm)] at hS; clear HS; have HS := Lib.hid hS; clear hS))
          exact bodyPost_ret (ret_ct56 (p := 2) (u := 3) rfl _ b2 _ 56 (0, 0) _ (by rfl) (by rfl) (HS.out.blk (i := 3) rfl) (by rw [List.size_toArray]; exact rcs_length (⟨rfl, rfl, Nat.zero_lt_succ _, numV_lt _, Nat.zero_lt_succ _⟩ : Req.ok ⟨3, z32, 0, (numV l), 0, [], z32, []⟩) _ _)) rfl ⟨⟨3, z32, 0, (numV l), 0, [], z32, []⟩, (.slice none 0 0), (.slice none 0 0), 0, rfl, HP, (((((HS.out.sub 0).sub 0).sub 0).sub 0).dropF (Gs := []) (fun G hG => by cases hG)).nilRow.nilRow⟩
        · have HP := HNO.out (fun _ => hd)
          have hne : (encQ ⟨3, z32, 0, (numV l), 0, [], z32, []⟩ == (3 :: l)) = false := beq_eq_false_iff_ne.2 hd
          clear hd
          go_wp2_with (first
            | (refine atd 150 (by rfl) ?_; refine wl (by rfl) (wp_of_run (run_str (xs := (encQ ⟨3, z32, 0, (numV l), 0, [], z32, []⟩)) (by rfl) (by rfl) (Row.hb (l := (encQ ⟨3, z32, 0, (numV l), 0, [], z32, []⟩)) (HS.out.res (i := 0) rfl))) ?_))
            | (refine atd 152 (by rfl) ?_; refine wl (by rfl) (wp_of_run (run_str (xs := 3 :: l) (by rfl) (by rfl) (HS.out.fact (i := 0) rfl)) ?_))
            | (refine atd 155 (by rfl) ?_; refine wl (by rfl) (wp_of_run (run_b56z (by rfl)) ?_))
            | (refine sto 2 (by rfl) ?_; refine wl (by rfl) (s_sta (cs := rcs (zq 0) (.slice none 0 0) (.slice none 0 0)) HS.out 3 70 (by rfl) (by rfl) (by rfl) ag56 (by rfl) (by exact rcs_length (zq_ok 0) _ _) (by exact cells_rq _ rfl rfl) (by exact Nat.le_of_eq (rcs_length (zq_ok _) _ _).symm) ?_); intro Wn hS; rw [splice_all ((rcs_length (zq_ok 0) _ _).trans (rcs_length (zq_ok _) _ _).symm)] at hS; clear HS; have HS := Lib.hid hS; clear hS))
          exact bodyPost_ret (ret_ct56 (p := 2) (u := 3) rfl _ b2 _ 56 (0, 0) _ (by rfl) (by rfl) (HS.out.blk (i := 3) rfl) (by rw [List.size_toArray]; exact rcs_length (zq_ok 0) _ _)) rfl ⟨zq 0, (.slice none 0 0), (.slice none 0 0), 290, rfl, HP, (((((HS.out.sub 0).sub 0).sub 0).sub 0).dropF (Gs := []) (fun G hG => by cases hG)).nilRow.nilRow⟩
    have m1 : ¬ ((4 * j : Nat) : Int) + 4 ≤ (M : Int) := by omega
    have m1' : ¬ 4 * (j : Int) + 4 ≤ (M : Int) := by omega
    have HNE := Lib.hid (nums_end (R := l) hj (by rw [HRL.out]; exact hj4) (by rw [HRL.out]; exact .inr (by omega)))
    have i07 : (0 : Int) < (j : Int) + 2 := by omega
    have i17 : (1 : Int) < (j : Int) + 2 := by omega
    go_wp2_with (first
      | (refine atd 82 (by rfl) ?_; refine wl (by rfl) (s_bs (E := 48) (z := (.int .u32 0)) HS.out 2 1 [.int .u32 0, .int .u32 0] (by rfl) Try.underlying95 (by kernel_rfl) (by rfl) (by decide) (by decide) (by kernel_rfl) (by rfl) (by decide) ?_); intro b82 Wn hS; clear HS; have HS := Lib.hid hS; clear hS)
      | (refine atd 83 (by rfl) ?_; refine wl (by rfl) (s_rows (size := 1) (bytes := 4) (z := .int .u32 0) HS.out 1 0 (by rfl) Try.underlying95 (by kernel_rfl) (by rfl) (by decide) (by rfl) (by rfl) (by rfl) (by rfl) (by intro u hu; simp at hu; rcases hu with rfl | rfl <;> rfl) (by omega) (by omega) ?_); intro v83 Wn hS; replace hS := hS.sub 0; clear HS; have HS := Lib.hid hS; clear hS; obtain ⟨g7, c7, rfl⟩ := rowE_some (HS.out.res (i := 0) rfl) (by omega))
      | (refine atd 85 (by rfl) ?_; refine wl (by rfl) (s_ld (v := .int .i64 3) HS.out 1 (by rfl) (by rfl) (by rfl) (by kernel_rfl) (by exact rcs_0 _ _) ?_))
      | (refine atd 112 (by rfl) ?_; refine wl (by rfl) (wp_of_run (run_ld (v := .int .u32 ((numV l : Nat) : Int)) (by kernel_rfl) (by rfl) (by rfl) (rowE_cell (HS.out.res (i := 0) rfl) HNE.out.1)) ?_))
      | (refine sto 113 (by rfl) ?_; refine wl (by rfl) (s_st (v := .int .u32 (((numV l) : Nat) : Int)) HS.out 1 (by rfl) (by rfl) (by rfl) (by kernel_rfl) (by rfl) (by rfl) (by rw [rcs_length (⟨rfl, rfl, Nat.zero_lt_succ _, Nat.zero_lt_succ _, Nat.zero_lt_succ _⟩ : Req.ok ⟨3, z32, 0, 0, 0, [], z32, []⟩)]; decide) ?_); intro Wn hS; rw [rcs_setH (hx := rfl)] at hS; clear HS; have HS := Lib.hid hS; clear hS)
      | (refine atd 142 (by rfl) ?_; refine wl (by rfl) (s_lda (cs := rcs ⟨3, z32, 0, (numV l), 0, [], z32, []⟩ (.slice none 0 0) (.slice none 0 0)) HS.out 1 70 (by rfl) (by rfl) (by rfl) ag56 (by exact rcs_all (⟨rfl, rfl, Nat.zero_lt_succ _, numV_lt _, Nat.zero_lt_succ _⟩ : Req.ok ⟨3, z32, 0, (numV l), 0, [], z32, []⟩) _ _) (by exact rcs_length (⟨rfl, rfl, Nat.zero_lt_succ _, numV_lt _, Nat.zero_lt_succ _⟩ : Req.ok ⟨3, z32, 0, (numV l), 0, [], z32, []⟩) _ _) ?_)))
    refine (enc28 ⟨3, z32, 0, (numV l), 0, [], z32, []⟩ (.slice none 0 0) (.slice none 0 0) _ (⟨rfl, rfl, Nat.zero_lt_succ _, numV_lt _, Nat.zero_lt_succ _⟩ : Req.ok ⟨3, z32, 0, (numV l), 0, [], z32, []⟩) (HB.nil _ _ _) (HB.nil _ _ _) (by exact Nat.zero_le _) (by exact Nat.zero_le _)).mono ?_
    rintro e Wn ⟨ve, rfl, hb⟩
    have hS := HS.out.take hb
    clear hb HS
    have HS := Lib.hid hS
    clear hS
    unfold chkI encOQ at *
    obtain ⟨Ae, ke, rfl⟩ := Row.sl (HS.out.res (i := 0) rfl)
    cases hc : chkQ ⟨3, z32, 0, (numV l), 0, [], z32, []⟩ with
    | false =>
      rw [hc] at HS
      have HD := Lib.hid (HNO.out (fun h => by rw [hc] at h; cases h))
      simp only [Bool.false_eq_true, ↓reduceIte] at HS ⊢
      go_wp2_with (first
        | (refine atd 155 (by rfl) ?_; refine wl (by rfl) (wp_of_run (run_b56z (by rfl)) ?_))
        | (refine sto 2 (by rfl) ?_; refine wl (by rfl) (s_sta (cs := rcs (zq 0) (.slice none 0 0) (.slice none 0 0)) HS.out 3 70 (by rfl) (by rfl) (by rfl) ag56 (by rfl) (by exact rcs_length (zq_ok 0) _ _) (by exact cells_rq _ rfl rfl) (by exact Nat.le_of_eq (rcs_length (zq_ok _) _ _).symm) ?_); intro Wn hS; rw [splice_all ((rcs_length (zq_ok 0) _ _).trans (rcs_length (zq_ok _) _ _).symm)] at hS; clear HS; have HS := Lib.hid hS; clear hS))
      exact bodyPost_ret (ret_ct56 (p := 2) (u := 3) rfl _ b2 _ 56 (0, 0) _ (by rfl) (by rfl) (HS.out.blk (i := 3) rfl) (by rw [List.size_toArray]; exact rcs_length (zq_ok 0) _ _)) rfl ⟨zq 0, (.slice none 0 0), (.slice none 0 0), 290, rfl, HD.out, (((((HS.out.sub 0).sub 0).sub 0).sub 0).dropF (Gs := []) (fun G hG => by cases hG)).nilRow.nilRow⟩
    | true =>
      rw [hc] at HS
      simp only [↓reduceIte] at HS ⊢
      by_cases hd : encQ ⟨3, z32, 0, (numV l), 0, [], z32, []⟩ = 3 :: l
      · have HP : DecP (3 :: l) ⟨3, z32, 0, (numV l), 0, [], z32, []⟩ 0 := ⟨(⟨rfl, rfl, Nat.zero_lt_succ _, numV_lt _, Nat.zero_lt_succ _⟩ : Req.ok ⟨3, z32, 0, (numV l), 0, [], z32, []⟩), .inl ⟨rfl, hc, hd⟩⟩
        rw [hd] at HS ⊢
        clear hd
        go_wp2_with (first
          | (refine atd 150 (by rfl) ?_; refine wl (by rfl) (wp_of_run (run_str (xs := (3 :: l)) (by rfl) (by rfl) (Row.hb (l := (3 :: l)) (HS.out.res (i := 0) rfl))) ?_))
          | (refine atd 152 (by rfl) ?_; refine wl (by rfl) (wp_of_run (run_str (xs := 3 :: l) (by rfl) (by rfl) (HS.out.fact (i := 0) rfl)) ?_))
          | (refine atd 156 (by rfl) ?_; refine wl (by rfl) (s_lda (cs := rcs ⟨3, z32, 0, (numV l), 0, [], z32, []⟩ (.slice none 0 0) (.slice none 0 0)) HS.out 2 70 (by rfl) (by rfl) (by rfl) ag56 (by exact rcs_all (⟨rfl, rfl, Nat.zero_lt_succ _, numV_lt _, Nat.zero_lt_succ _⟩ : Req.ok ⟨3, z32, 0, (numV l), 0, [], z32, []⟩) _ _) (by exact rcs_length (⟨rfl, rfl, Nat.zero_lt_succ _, numV_lt _, Nat.zero_lt_succ _⟩ : Req.ok ⟨3, z32, 0, (numV l), 0, [], z32, []⟩) _ _) ?_))
          | (refine sto 2 (by rfl) ?_; refine wl (by rfl) (s_sta (cs := rcs ⟨3, z32, 0, (numV l), 0, [], z32, []⟩ (.slice none 0 0) (.slice none 0 0)) HS.out 3 70 (by rfl) (by rfl) (by rfl) ag56 (by rfl) (by exact rcs_length (⟨rfl, rfl, Nat.zero_lt_succ _, numV_lt _, Nat.zero_lt_succ _⟩ : Req.ok ⟨3, z32, 0, (numV l), 0, [], z32, []⟩) _ _) (by exact cells_rq _ rfl rfl) (by exact Nat.le_of_eq (rcs_length (zq_ok _) _ _).symm) ?_); intro Wn hS; rw [splice_all ((rcs_length (⟨rfl, rfl, Nat.zero_lt_succ _, numV_lt _, Nat.zero_lt_succ _⟩ : Req.ok ⟨3, z32, 0, (numV l), 0, [], z32, []⟩) _ _).trans (rcs_length (zq_ok _) _ _).symm)] at hS; clear HS; have HS := Lib.hid hS; clear hS))
        exact bodyPost_ret (ret_ct56 (p := 2) (u := 3) rfl _ b2 _ 56 (0, 0) _ (by rfl) (by rfl) (HS.out.blk (i := 3) rfl) (by rw [List.size_toArray]; exact rcs_length (⟨rfl, rfl, Nat.zero_lt_succ _, numV_lt _, Nat.zero_lt_succ _⟩ : Req.ok ⟨3, z32, 0, (numV l), 0, [], z32, []⟩) _ _)) rfl ⟨⟨3, z32, 0, (numV l), 0, [], z32, []⟩, (.slice none 0 0), (.slice none 0 0), 0, rfl, HP, (((((HS.out.sub 0).sub 0).sub 0).sub 0).dropF (Gs := []) (fun G hG => by cases hG)).nilRow.nilRow⟩
      · have HP := HNO.out (fun _ => hd)
        have hne : (encQ ⟨3, z32, 0, (numV l), 0, [], z32, []⟩ == (3 :: l)) = false := beq_eq_false_iff_ne.2 hd
        clear hd
        go_wp2_with (first
          | (refine atd 150 (by rfl) ?_; refine wl (by rfl) (wp_of_run (run_str (xs := (encQ ⟨3, z32, 0, (numV l), 0, [], z32, []⟩)) (by rfl) (by rfl) (Row.hb (l := (encQ ⟨3, z32, 0, (numV l), 0, [], z32, []⟩)) (HS.out.res (i := 0) rfl))) ?_))
          | (refine atd 152 (by rfl) ?_; refine wl (by rfl) (wp_of_run (run_str (xs := 3 :: l) (by rfl) (by rfl) (HS.out.fact (i := 0) rfl)) ?_))
          | (refine atd 155 (by rfl) ?_; refine wl (by rfl) (wp_of_run (run_b56z (by rfl)) ?_))
          | (refine sto 2 (by rfl) ?_; refine wl (by rfl) (s_sta (cs := rcs (zq 0) (.slice none 0 0) (.slice none 0 0)) HS.out 3 70 (by rfl) (by rfl) (by rfl) ag56 (by rfl) (by exact rcs_length (zq_ok 0) _ _) (by exact cells_rq _ rfl rfl) (by exact Nat.le_of_eq (rcs_length (zq_ok _) _ _).symm) ?_); intro Wn hS; rw [splice_all ((rcs_length (zq_ok 0) _ _).trans (rcs_length (zq_ok _) _ _).symm)] at hS; clear HS; have HS := Lib.hid hS; clear hS))
        exact bodyPost_ret (ret_ct56 (p := 2) (u := 3) rfl _ b2 _ 56 (0, 0) _ (by rfl) (by rfl) (HS.out.blk (i := 3) rfl) (by rw [List.size_toArray]; exact rcs_length (zq_ok 0) _ _)) rfl ⟨zq 0, (.slice none 0 0), (.slice none 0 0), 290, rfl, HP, (((((HS.out.sub 0).sub 0).sub 0).sub 0).dropF (Gs := []) (fun G hG => by cases hG)).nilRow.nilRow⟩
end
section
open Go Go.RowKit Go.Proofs
attribute [local irreducible] Calls
set_option maxHeartbeats 2000000 in
set_option maxRecDepth 100000 in
theorem dec30d (ad : Addr) (N c M c1 : Nat) (A1 : Option Addr) (l : List UInt8) (w : World) (hv : HB w (.slice (some ad) N c) (4 :: l)) (hl : HB w (.slice A1 M c1) l) (hN : N = M + 1) (hM : l.length = M) (hM2 : M ≤ 5000) (hc0 : Away (Keys []) (fun W => W.cell? (ad.add 0) = some (.int .u8 4)) w) (hs1 : ∀ W, (Instr.slice 22 (.slice (some ad) N c) (some (.int .i64 1)) none none).run Try.prog W = .ok (.slice A1 M c1) W) (h4 : 4 ≤ M) :
    Calls Try.prog 30 #[.slice (some ad) N c] w fun e w' => ∃ r s b c, e = .returned (.tuple #[.agg (rcs r s b).toArray, .int .i64 c]) ∧ DecP (4 :: l) r c ∧ St w w' [Row s 5 1 r.sb.length (bs r.sb), Row b 5 1 r.bb.length (bs r.bb)] [] := by
  have z0 : ((N : Int) == 0) = false := beq_eq_false_iff_ne.2 (by omega)
  have z1 : (0 : Int) < (N : Int) := by omega
  have HS := Lib.hid (((((St.start w).addF hl.away0).addF hc0).addF hv.away0))
  have HM := Lib.hid hM
  have hrq : rdF (fldK (((4 : UInt8).toNat : Nat) : Int)) (((4 : UInt8).toNat : Nat) : Int) l = ⟨4, z32, 0, (numV l), 0, (bytV (l.drop 4)), z32, []⟩ := by show (⟨4, z32, 0, numV l, 0, bytV (numL l), z32, []⟩ : Req) = _; unfold numL; rw [if_pos (by omega)]
  have HNO := Lib.hid (show (chkQ ⟨4, z32, 0, (numV l), 0, (bytV (l.drop 4)), z32, []⟩ = true → encQ ⟨4, z32, 0, (numV l), 0, (bytV (l.drop 4)), z32, []⟩ ≠ 4 :: l) → DecP (4 :: l) (zq 0) 290 from fun h => DecP.no fun r e hc => by rw [hrq] at e; subst e; exact h hc)
  clear hrq
  have d4 : decide (4 ≤ (M : Int)) = true := decide_eq_true (by omega)
  have HHV := Lib.hid (hshV_len l)
  have HRL := Lib.hid hM
  have hb1 := numV_lt l
  have hb8 := numV_lt (numL l)
  clear hv hl hM hN hc0
  go_enter Try.func30, Try.ntmps30
  go_wp2_with (first
    | (refine atd 2 (by rfl) ?_; refine wl (by rfl) (s_al (l := rcs (zq 0) (.slice none 0 0) (.slice none 0 0)) HS.out (by rfl) z56 (by rfl) ?_); intro b2 Wn hS; clear HS; have HS := Lib.hid hS; clear hS)
    | (refine atd 20 (by rfl) ?_; refine wl (by rfl) (wp_of_run (run_ld (v := .int .u8 4) (by kernel_rfl) (by rfl) (by rfl) (HS.out.fact (i := 1) rfl)) ?_))
    | (refine atd 22 (by rfl) ?_; refine wl (by rfl) (wp_of_run (run_b56 (k := 4) (by rfl) (by rfl)) ?_))
    | (refine atd 4 (by rfl) ?_; refine wl (by rfl) (s_al (l := rcs (zq 0) (.slice none 0 0) (.slice none 0 0)) HS.out (by rfl) z56 (by rfl) ?_); intro b4 Wn hS; clear HS; have HS := Lib.hid hS; clear hS)
    | (refine sto 4 (by rfl) ?_; refine wl (by rfl) (s_sta (cs := rcs (zq 4) (.slice none 0 0) (.slice none 0 0)) HS.out 0 70 (by rfl) (by rfl) (by rfl) ag56 (by rfl) (by exact rcs_length (zq_ok _) _ _) (by exact cells_rq _ rfl rfl) (by exact Nat.le_of_eq (rcs_length (zq_ok _) _ _).symm) ?_); intro Wn hS; rw [splice_all ((rcs_length (zq_ok _) _ _).trans (rcs_length (zq_ok _) _ _).symm)] at hS; have hS : St w Wn [Blk b4 (rcs ⟨4, z32, 0, 0, 0, [], z32, []⟩ (.slice none 0 0) (.slice none 0 0)) 56, Blk b2 (rcs (zq 0) (.slice none 0 0) (.slice none 0 0)) 56] _ := hS; clear HS; have HS := Lib.hid hS; clear hS)
    | (refine atd 26 (by rfl) ?_; refine wl (by rfl) (s_ld (v := .int .i64 4) HS.out 0 (by rfl) (by rfl) (by rfl) (by kernel_rfl) (by exact rcs_0 _ _) ?_))
    | (refine atd 30 (by rfl) ?_; refine wl (by rfl) (s_ld (v := .int .i64 4) HS.out 0 (by rfl) (by rfl) (by rfl) (by kernel_rfl) (by exact rcs_0 _ _) ?_))
    | (refine atd 35 (by rfl) ?_; refine wl (by rfl) (s_ld (v := .int .i64 4) HS.out 0 (by rfl) (by rfl) (by rfl) (by kernel_rfl) (by exact rcs_0 _ _) ?_))
    | (refine atd 40 (by rfl) ?_; refine wl (by rfl) (s_ld (v := .int .i64 4) HS.out 0 (by rfl) (by rfl) (by rfl) (by kernel_rfl) (by exact rcs_0 _ _) ?_)))
  go_loopw [7, 8] (fun s7 s8 wr => ∃ (j : Nat) (v7 : Value), j ≤ 2 ∧ 4 * j ≤ M ∧ s8 = .int .i64 ((4 * j : Nat) : Int) ∧ s7 = v7 ∧ St w wr [Row v7 48 1 j (nums l j), Blk b4 (rcs ⟨4, z32, 0, 0, 0, [], z32, []⟩ (.slice none 0 0) (.slice none 0 0)) 56, Blk b2 (rcs (zq 0) (.slice none 0 0) (.slice none 0 0)) 56] [fun W => HB W (.slice (some ad) N c) (4 :: l), fun W => W.cell? (ad.add 0) = some (.int .u8 4), fun W => HB W (.slice A1 M c1) l]) (fun _ s8 _ => 8 - (intOf s8).toNat)
  case atStart => exact ⟨0, _, by omega, by omega, rfl, rfl, HS.out.nilRowE 48 1⟩
  case round =>
    obtain ⟨j, v7, hj, hj4, rfl, rfl, hs⟩ := hrel
    clear HS
    have HS := Lib.hid hs
    clear hs
    by_cases hm : 4 * j + 4 ≤ M
    · have m1 : ((4 * j : Nat) : Int) + 4 ≤ (M : Int) := by omega
      have m1' : 4 * (j : Int) + 4 ≤ (M : Int) := by omega
      by_cases h2 : j < 2
      · have m2 : ((4 * j : Nat) : Int) < 8 := by omega
        have m2' : 4 * (j : Int) < 8 := by omega
        obtain ⟨AQ, cQ, hQs, hQ⟩ : ∃ AQ cQ, (∀ W, (Instr.slice 22 (.slice A1 M c1) (some (.int .i64 (4 * (j : Int)))) (some (.int .i64 (4 * (j : Int) + 4))) none).run Try.prog W = .ok (.slice AQ 4 cQ) W) ∧ ∀ W, HB W (.slice A1 M c1) l → HB W (.slice AQ 4 cQ) ((l.drop (4 * j)).take 4) := cut4 (HS.out.fact (i := 2) rfl) hm
        have HQ := Lib.hid hQ
        clear hQ
        have HQl := Lib.hid (show ((l.drop (4 * j)).take 4).length = 4 by rw [List.length_take, List.length_drop, HRL.out]; omega)
        have hn32 := leNum_32 _ HQl.out
        have HNS := Lib.hid (nums_succ l j)
        obtain ⟨n, hn⟩ : ∃ n, leNum ((l.drop (4 * j)).take 4) = n := ⟨_, rfl⟩
        rw [hn] at hn32 HNS
        have HNE := Lib.hid hn
        clear hn
        go_wp2_with (first
          | (go_at_call 38; refine (rnum_any _ _ _ (HQ.out _ (HS.out.fact (i := 2) rfl)) (by rw [HQl.out]; decide)).mono ?_; rw [HNE.out]; rintro e Wn ⟨rfl, hb⟩; have hS := HS.out.call hb; clear hb; clear HS; have HS := Lib.hid hS; clear hS)
          | (refine atd 79 (by rfl) ?_; refine wl (by rfl) (s_bs (E := 48) (z := (.int .u32 0)) HS.out 1 1 [.int .u32 (n : Int)] (by rfl) Try.underlying95 (by kernel_rfl) (by rfl) (by decide) (by decide) (by kernel_rfl) (by rfl) (by decide) ?_); intro b79 Wn hS; clear HS; have HS := Lib.hid hS; clear hS)
          | (refine atd 80 (by rfl) ?_; refine wl (by rfl) (s_rows (size := 1) (bytes := 4) (z := .int .u32 0) HS.out 1 0 (by rfl) Try.underlying95 (by kernel_rfl) (by rfl) (by decide) (by rfl) (by rfl) (by rfl) (by rfl) (by intro u hu; simp at hu; subst hu; rfl) (by omega) (by omega) ?_); intro v80 Wn hS; replace hS := hS.sub 0; clear HS; have HS := Lib.hid hS; clear hS))
        have hS := HS.out
        rw [show nums l j ++ [.int .u32 (n : Int)] = nums l (j + 1) from HNS.out.symm] at hS
        exact ⟨⟨j + 1, _, by omega, by omega, by push_cast; rfl, rfl, hS⟩, by simp [intOf]; omega⟩
      have m2 : ¬ ((4 * j : Nat) : Int) < 8 := by omega
      have m2' : ¬ 4 * (j : Int) < 8 := by omega
      have HNE := Lib.hid (nums_end (R := l) hj (by rw [HRL.out]; exact hj4) (by rw [HRL.out]; exact .inl (by omega)))
      have i07 : (0 : Int) < (j : Int) + 2 := by omega
      have i17 : (1 : Int) < (j : Int) + 2 := by omega
      go_wp2_with (first
        | (refine atd 82 (by rfl) ?_; refine wl (by rfl) (s_bs (E := 48) (z := (.int .u32 0)) HS.out 2 1 [.int .u32 0, .int .u32 0] (by rfl) Try.underlying95 (by kernel_rfl) (by rfl) (by decide) (by decide) (by kernel_rfl) (by rfl) (by decide) ?_); intro b82 Wn hS; clear HS; have HS := Lib.hid hS; clear hS)
        | (refine atd 83 (by rfl) ?_; refine wl (by rfl) (s_rows (size := 1) (bytes := 4) (z := .int .u32 0) HS.out 1 0 (by rfl) Try.underlying95 (by kernel_rfl) (by rfl) (by decide) (by rfl) (by rfl) (by rfl) (by rfl) (by intro u hu; simp at hu; rcases hu with rfl | rfl <;> rfl) (by omega) (by omega) ?_); intro v83 Wn hS; replace hS := hS.sub 0; clear HS; have HS := Lib.hid hS; clear hS; obtain ⟨g7, c7, rfl⟩ := rowE_some (HS.out.res (i := 0) rfl) (by omega))
        | (refine atd 85 (by rfl) ?_; refine wl (by rfl) (s_ld (v := .int .i64 4) HS.out 1 (by rfl) (by rfl) (by rfl) (by kernel_rfl) (by exact rcs_0 _ _) ?_))
        | (refine atd 118 (by rfl) ?_; refine wl (by rfl) (wp_of_run (run_ld (v := .int .u32 ((numV l : Nat) : Int)) (by kernel_rfl) (by rfl) (by rfl) (rowE_cell (HS.out.res (i := 0) rfl) HNE.out.1)) ?_))
        | (refine sto 119 (by rfl) ?_; refine wl (by rfl) (s_st (v := .int .u32 (((numV l) : Nat) : Int)) HS.out 1 (by rfl) (by rfl) (by rfl) (by kernel_rfl) (by rfl) (by rfl) (by rw [rcs_length (⟨rfl, rfl, Nat.zero_lt_succ _, Nat.zero_lt_succ _, Nat.zero_lt_succ _⟩ : Req.ok ⟨4, z32, 0, 0, 0, [], z32, []⟩)]; decide) ?_); intro Wn hS; rw [rcs_setH (hx := rfl)] at hS; clear HS; have HS := Lib.hid hS; clear hS)
        | (go_at_call 56; refine (getb56 _ l _ (HS.out.fact (i := 2) rfl) (by rw [HM.out]; omega) (by rw [HM.out]; omega)).mono ?_; rintro e Wn ⟨v56, p56, e56, rfl, hb⟩; have hS := HS.out.take hb; clear hb; clear HS; have HS := Lib.hid hS; clear hS; obtain ⟨A56, c56, rfl⟩ := Row.sl (HS.out.res (i := 0) rfl))
        | (refine sto 130 (by rfl) ?_; refine wl (by rfl) (s_st (v := (.slice A56 (bytV (l.drop 4)).length c56)) HS.out 2 (by rfl) (by rfl) (by rfl) (by kernel_rfl) (by rfl) (by rfl) (by rw [rcs_length (⟨rfl, rfl, Nat.zero_lt_succ _, numV_lt _, Nat.zero_lt_succ _⟩ : Req.ok ⟨4, z32, 0, (numV l), 0, [], z32, []⟩)]; decide) ?_); intro Wn hS; rw [rcs_setS (hx := rfl) (sb' := bytV (l.drop 4))] at hS; clear HS; have HS := Lib.hid hS; clear hS)
        | (refine atd 142 (by rfl) ?_; refine wl (by rfl) (s_lda (cs := rcs ⟨4, z32, 0, (numV l), 0, (bytV (l.drop 4)), z32, []⟩ (.slice A56 (bytV (l.drop 4)).length c56) (.slice none 0 0)) HS.out 2 70 (by rfl) (by rfl) (by rfl) ag56 (by exact rcs_all (⟨rfl, rfl, Nat.zero_lt_succ _, numV_lt _, Nat.zero_lt_succ _⟩ : Req.ok ⟨4, z32, 0, (numV l), 0, (bytV (l.drop 4)), z32, []⟩) _ _) (by exact rcs_length (⟨rfl, rfl, Nat.zero_lt_succ _, numV_lt _, Nat.zero_lt_succ _⟩ : Req.ok ⟨4, z32, 0, (numV l), 0, (bytV (l.drop 4)), z32, []⟩) _ _) ?_)))
      refine (enc28 ⟨4, z32, 0, (numV l), 0, (bytV (l.drop 4)), z32, []⟩ (.slice A56 (bytV (l.drop 4)).length c56) (.slice none 0 0) _ (⟨rfl, rfl, Nat.zero_lt_succ _, numV_lt _, Nat.zero_lt_succ _⟩ : Req.ok ⟨4, z32, 0, (numV l), 0, (bytV (l.drop 4)), z32, []⟩) (Row.hb (HS.out.res (i := 0) rfl)) (HB.nil _ _ _) (bytV_len _) (by exact Nat.zero_le _)).mono ?_
      rintro e Wn ⟨ve, rfl, hb⟩
      have hS := HS.out.take hb
      clear hb HS
      have HS := Lib.hid hS
      clear hS
      unfold chkI encOQ at *
      obtain ⟨Ae, ke, rfl⟩ := Row.sl (HS.out.res (i := 0) rfl)
      cases hc : chkQ ⟨4, z32, 0, (numV l), 0, (bytV (l.drop 4)), z32, []⟩ with
      | false =>
        rw [hc] at HS
        have HD := Lib.hid (HNO.out (fun h => by rw [hc] at h; cases h))
        simp only [Bool.false_eq_true, ↓reduceIte] at HS ⊢
        go_wp2_with (first
          | (refine atd 155 (by rfl) ?_; refine wl (by rfl) (wp_of_run (run_b56z (by rfl)) ?_))
          | (refine sto 2 (by rfl) ?_; refine wl (by rfl) (s_sta (cs := rcs (zq 0) (.slice none 0 0) (.slice none 0 0)) HS.out 4 70 (by rfl) (by rfl) (by rfl) ag56 (by rfl) (by exact rcs_length (zq_ok 0) _ _) (by exact cells_rq _ rfl rfl) (by exact Nat.le_of_eq (rcs_length (zq_ok _) _ _).symm) ?_); intro Wn hS; rw [splice_all ((rcs_length (zq_ok 0) _ _).trans (rcs_length (zq_ok _) _ _).symm)] at hS; clear HS; have HS := Lib.hid hS; clear hS))
        exact bodyPost_ret (ret_ct56 (p := 2) (u := 3) rfl _ b2 _ 56 (0, 0) _ (by rfl) (by rfl) (HS.out.blk (i := 4) rfl) (by rw [List.size_toArray]; exact rcs_length (zq_ok 0) _ _)) rfl ⟨zq 0, (.slice none 0 0), (.slice none 0 0), 290, rfl, HD.out, ((((((HS.out.sub 0).sub 0).sub 0).sub 0).sub 0).dropF (Gs := []) (fun G hG => by cases hG)).nilRow.nilRow⟩
      | true =>
        rw [hc] at HS
        simp only [↓reduceIte] at HS ⊢
        by_cases hd : encQ ⟨4, z32, 0, (numV l), 0, (bytV (l.drop 4)), z32, []⟩ = 4 :: l
        · have HP : DecP (4 :: l) ⟨4, z32, 0, (numV l), 0, (bytV (l.drop 4)), z32, []⟩ 0 := ⟨(⟨rfl, rfl, Nat.zero_lt_succ _, numV_lt _, Nat.zero_lt_succ _⟩ : Req.ok ⟨4, z32, 0, (numV l), 0, (bytV (l.drop 4)), z32, []⟩), .inl ⟨rfl, hc, hd⟩⟩
          rw [hd] at HS ⊢
          clear hd
          go_wp2_with (first
            | (refine atd 150 (by rfl) ?_; refine wl (by rfl) (wp_of_run (run_str (xs := (4 :: l)) (by rfl) (by rfl) (Row.hb (l := (4 :: l)) (HS.out.res (i := 0) rfl))) ?_))
            | (refine atd 152 (by rfl) ?_; refine wl (by rfl) (wp_of_run (run_str (xs := 4 :: l) (by rfl) (by rfl) (HS.out.fact (i := 0) rfl)) ?_))
            | (refine atd 156 (by rfl) ?_; refine wl (by rfl) (s_lda (cs := rcs ⟨4, z32, 0, (numV l), 0, (bytV (l.drop 4)), z32, []⟩ (.slice A56 (bytV (l.drop 4)).length c56) (.slice none 0 0)) HS.out 3 70 (by rfl) (by rfl) (by rfl) ag56 (by exact rcs_all (⟨rfl, rfl, Nat.zero_lt_succ _, numV_lt _, Nat.zero_lt_succ _⟩ : Req.ok ⟨4, z32, 0, (numV l), 0, (bytV (l.drop 4)), z32, []⟩) _ _) (by exact rcs_length (⟨rfl, rfl, Nat.zero_lt_succ _, numV_lt _, Nat.zero_lt_succ _⟩ : Req.ok ⟨4, z32, 0, (numV l), 0, (bytV (l.drop 4)), z32, []⟩) _ _) ?_))
            | (refine sto 2 (by rfl) ?_; refine wl (by rfl) (s_sta (cs := rcs ⟨4, z32, 0, (numV l), 0, (bytV (l.drop 4)), z32, []⟩ (.slice A56 (bytV (l.drop 4)).length c56) (.slice none 0 0)) HS.out 4 70 (by rfl) (by rfl) (by rfl) ag56 (by rfl) (by exact rcs_length (⟨rfl, rfl, Nat.zero_lt_succ _, numV_lt _, Nat.zero_lt_succ _⟩ : Req.ok ⟨4, z32, 0, (numV l), 0, (bytV (l.drop 4)), z32, []⟩) _ _) (by exact cells_rq _ rfl rfl) (by exact Nat.le_of_eq (rcs_length (zq_ok _) _ _).symm) ?_); intro Wn hS; rw [splice_all ((rcs_length (⟨rfl, rfl, Nat.zero_lt_succ _, numV_lt _, Nat.zero_lt_succ _⟩ : Req.ok ⟨4, z32, 0, (numV l), 0, (bytV (l.drop 4)), z32, []⟩) _ _).trans (rcs_length (zq_ok _) _ _).symm)] at hS; clear HS; have HS := Lib.hid hS; clear hS))
          exact bodyPost_ret (ret_ct56 (p := 2) (u := 3) rfl _ b2 _ 56 (0, 0) _ (by rfl) (by rfl) (HS.out.blk (i := 4) rfl) (by rw [List.size_toArray]; exact rcs_length (⟨rfl, rfl, Nat.zero_lt_succ _, numV_lt _, Nat.zero_lt_succ _⟩ : Req.ok ⟨4, z32, 0, (numV l), 0, (bytV (l.drop 4)), z32, []⟩) _ _)) rfl ⟨⟨4, z32, 0, (numV l), 0, (bytV (l.drop 4)), z32, []⟩, (.slice A56 (bytV (l.drop 4)).length c56), (.slice none 0 0), 0, rfl, HP, (((((HS.out.sub 0).sub 1).sub 1).sub 1).dropF (Gs := []) (fun G hG => by cases hG)).nilRow.swap⟩
        · have HP := HNO.out (fun _ => hd)
          have hne : (encQ ⟨4, z32, 0, (numV l), 0, (bytV (l.drop 4)), z32, []⟩ == (4 :: l)) = false := beq_eq_false_iff_ne.2 hd
          clear hd
          go_wp2_with (first
            | (refine atd 150 (by rfl) ?_; refine wl (by rfl) (wp_of_run (run_str (xs := (encQ ⟨4, z32, 0, (numV l), 0, (bytV (l.drop 4)), z32, []⟩)) (by rfl) (by rfl) (Row.hb (l := (encQ ⟨4, z32, 0, (numV l), 0, (bytV (l.drop 4)), z32, []⟩)) (HS.out.res (i := 0) rfl))) ?_))
            | (refine atd 152 (by rfl) ?_; refine wl (by rfl) (wp_of_run (run_str (xs := 4 :: l) (by rfl) (by rfl) (HS.out.fact (i := 0) rfl)) ?_))
            | (refine atd 155 (by rfl) ?_; refine wl (by rfl) (wp_of_run (run_b56z (by rfl)) ?_))
            | (refine sto 2 (by rfl) ?_; refine wl (by rfl) (s_sta (cs := rcs (zq 0) (.slice none 0 0) (.slice none 0 0)) HS.out 4 70 (by rfl) (by rfl) (by rfl) ag56 (by rfl) (by exact rcs_length (zq_ok 0) _ _) (by exact cells_rq _ rfl rfl) (by exact Nat.le_of_eq (rcs_length (zq_ok _) _ _).symm) ?_); intro Wn hS; rw [splice_all ((rcs_length (zq_ok 0) _ _).trans (rcs_length (zq_ok _) _ _).symm)] at hS; clear HS; have HS := Lib.hid hS; clear hS))
          exact bodyPost_ret (ret_ct56 (p := 2) (u := 3) rfl _ b2 _ 56 (0, 0) _ (by rfl) (by rfl) (HS.out.blk (i := 4) rfl) (by rw [List.size_toArray]; exact rcs_length (zq_ok 0) _ _)) rfl ⟨zq 0, (.slice none 0 0), (.slice none 0 0), 290, rfl, HP, ((((((HS.out.sub 0).sub 0).sub 0).sub 0).sub 0).dropF (Gs := []) (fun G hG => by cases hG)).nilRow.nilRow⟩
    have m1 : ¬ ((4 * j : Nat) : Int) + 4 ≤ (M : Int) := by omega
    have m1' : ¬ 4 * (j : Int) + 4 ≤ (M : Int) := by omega
    have HNE := Lib.hid (nums_end (R := l) hj (by rw [HRL.out]; exact hj4) (by rw [HRL.out]; exact .inr (by omega)))
    have i07 : (0 : Int) < (j : Int) + 2 := by omega
    have i17 : (1 : Int) < (j : Int) + 2 := by omega
    go_wp2_with (first
      | (refine atd 82 (by rfl) ?_; refine wl (by rfl) (s_bs (E := 48) (z := (.int .u32 0)) HS.out 2 1 [.int .u32 0, .int .u32 0] (by rfl) Try.underlying95 (by kernel_rfl) (by rfl) (by decide) (by decide) (by kernel_rfl) (by rfl) (by decide) ?_); intro b82 Wn hS; clear HS; have HS := Lib.hid hS; clear hS)
      | (refine atd 83 (by rfl) ?_; refine wl (by rfl) (s_rows (size := 1) (bytes := 4) (z := .int .u32 0) HS.out 1 0 (by rfl) Try.underlying95 (by kernel_rfl) (by rfl) (by decide) (by rfl) (by rfl) (by rfl) (by rfl) (by intro u hu; simp at hu; rcases hu with rfl | rfl <;> rfl) (by omega) (by omega) ?_); intro v83 Wn hS; replace hS := hS.sub 0; clear HS; have HS := Lib.hid hS; clear hS; obtain ⟨g7, c7, rfl⟩ := rowE_some (HS.out.res (i := 0) rfl) (by omega))
      | (refine atd 85 (by rfl) ?_; refine wl (by rfl) (s_ld (v := .int .i64 4) HS.out 1 (by rfl) (by rfl) (by rfl) (by kernel_rfl) (by exact rcs_0 _ _) ?_))
      | (refine atd 118 (by rfl) ?_; refine wl (by rfl) (wp_of_run (run_ld (v := .int .u32 ((numV l : Nat) : Int)) (by kernel_rfl) (by rfl) (by rfl) (rowE_cell (HS.out.res (i := 0) rfl) HNE.out.1)) ?_))
      | (refine sto 119 (by rfl) ?_; refine wl (by rfl) (s_st (v := .int .u32 (((numV l) : Nat) : Int)) HS.out 1 (by rfl) (by rfl) (by rfl) (by kernel_rfl) (by rfl) (by rfl) (by rw [rcs_length (⟨rfl, rfl, Nat.zero_lt_succ _, Nat.zero_lt_succ _, Nat.zero_lt_succ _⟩ : Req.ok ⟨4, z32, 0, 0, 0, [], z32, []⟩)]; decide) ?_); intro Wn hS; rw [rcs_setH (hx := rfl)] at hS; clear HS; have HS := Lib.hid hS; clear hS)
      | (go_at_call 56; refine (getb56 _ l _ (HS.out.fact (i := 2) rfl) (by rw [HM.out]; omega) (by rw [HM.out]; omega)).mono ?_; rintro e Wn ⟨v56, p56, e56, rfl, hb⟩; have hS := HS.out.take hb; clear hb; clear HS; have HS := Lib.hid hS; clear hS; obtain ⟨A56, c56, rfl⟩ := Row.sl (HS.out.res (i := 0) rfl))
      | (refine sto 130 (by rfl) ?_; refine wl (by rfl) (s_st (v := (.slice A56 (bytV (l.drop 4)).length c56)) HS.out 2 (by rfl) (by rfl) (by rfl) (by kernel_rfl) (by rfl) (by rfl) (by rw [rcs_length (⟨rfl, rfl, Nat.zero_lt_succ _, numV_lt _, Nat.zero_lt_succ _⟩ : Req.ok ⟨4, z32, 0, (numV l), 0, [], z32, []⟩)]; decide) ?_); intro Wn hS; rw [rcs_setS (hx := rfl) (sb' := bytV (l.drop 4))] at hS; clear HS; have HS := Lib.hid hS; clear hS)
      | (refine atd 142 (by rfl) ?_; refine wl (by rfl) (s_lda (cs := rcs ⟨4, z32, 0, (numV l), 0, (bytV (l.drop 4)), z32, []⟩ (.slice A56 (bytV (l.drop 4)).length c56) (.slice none 0 0)) HS.out 2 70 (by rfl) (by rfl) (by rfl) ag56 (by exact rcs_all (⟨rfl, rfl, Nat.zero_lt_succ _, numV_lt _, Nat.zero_lt_succ _⟩ : Req.ok ⟨4, z32, 0, (numV l), 0, (bytV (l.drop 4)), z32, []⟩) _ _) (by exact rcs_length (⟨rfl, rfl, Nat.zero_lt_succ _, numV_lt _, Nat.zero_lt_succ _⟩ : Req.ok ⟨4, z32, 0, (numV l), 0, (bytV (l.drop 4)), z32, []⟩) _ _) ?_)))
    refine (enc28 ⟨4, z32, 0, (numV l), 0, (bytV (l.drop 4)), z32, []⟩ (.slice A56 (bytV (l.drop 4)).length c56) (.slice none 0 0) _ (⟨rfl, rfl, Nat.zero_lt_succ _, numV_lt _, Nat.zero_lt_succ _⟩ : Req.ok ⟨4, z32, 0, (numV l), 0, (bytV (l.drop 4)), z32, []⟩) (Row.hb (HS.out.res (i := 0) rfl)) (HB.nil _ _ _) (bytV_len _) (by exact Nat.zero_le _)).mono ?_
    rintro e Wn ⟨ve, rfl, hb⟩
    have hS := HS.out.take hb
    clear hb HS
    have HS := Lib.hid hS
    clear hS
    unfold chkI encOQ at *
    obtain ⟨Ae, ke, rfl⟩ := Row.sl (HS.out.res (i := 0) rfl)
    cases hc : chkQ ⟨4, z32, 0, (numV l), 0, (bytV (l.drop 4)), z32, []⟩ with
    | false =>
      rw [hc] at HS
      have HD := Lib.hid (HNO.out (fun h => by rw [hc] at h; cases h))
      simp only [Bool.false_eq_true, ↓reduceIte] at HS ⊢
      go_wp2_with (first
        | (refine atd 155 (by rfl) ?_; refine wl (by rfl) (wp_of_run (run_b56z (by rfl)) ?_))
        | (refine sto 2 (by rfl) ?_; refine wl (by rfl) (s_sta (cs := rcs (zq 0) (.slice none 0 0) (.slice none 0 0)) HS.out 4 70 (by rfl) (by rfl) (by rfl) ag56 (by rfl) (by exact rcs_length (zq_ok 0) _ _) (by exact cells_rq _ rfl rfl) (by exact Nat.le_of_eq (rcs_length (zq_ok _) _ _).symm) ?_); intro Wn hS; rw [splice_all ((rcs_length (zq_ok 0) _ _).trans (rcs_length (zq_ok _) _ _).symm)] at hS; clear HS; have HS := Lib.hid hS; clear hS))
      exact bodyPost_ret (ret_ct56 (p := 2) (u := 3) rfl _ b2 _ 56 (0, 0) _ (by rfl) (by rfl) (HS.out.blk (i := 4) rfl) (by rw [List.size_toArray]; exact rcs_length (zq_ok 0) _ _)) rfl ⟨zq 0, (.slice none 0 0), (.slice none 0 0), 290, rfl, HD.out, ((((((HS.out.sub 0).sub 0).sub 0).sub 0).sub 0).dropF (Gs := []) (fun G hG => by cases hG)).nilRow.nilRow⟩
    | true =>
      rw [hc] at HS
      simp only [↓reduceIte] at HS ⊢
      by_cases hd : encQ ⟨4, z32, 0, (numV l), 0, (bytV (l.drop 4)), z32, []⟩ = 4 :: l
      · have HP : DecP (4 :: l) ⟨4, z32, 0, (numV l), 0, (bytV (l.drop 4)), z32, []⟩ 0 := ⟨(⟨rfl, rfl, Nat.zero_lt_succ _, numV_lt _, Nat.zero_lt_succ _⟩ : Req.ok ⟨4, z32, 0, (numV l), 0, (bytV (l.drop 4)), z32, []⟩), .inl ⟨rfl, hc, hd⟩⟩
        rw [hd] at HS ⊢
        clear hd
        go_wp2_with (first
          | (refine atd 150 (by rfl) ?_; refine wl (by rfl) (wp_of_run (run_str (xs := (4 :: l)) (by rfl) (by rfl) (Row.hb (l := (4 :: l)) (HS.out.res (i := 0) rfl))) ?_))
          | (refine atd 152 (by rfl) ?_; refine wl (by rfl) (wp_of_run (run_str (xs := 4 :: l) (by rfl) (by rfl) (HS.out.fact (i := 0) rfl)) ?_))
          | (refine atd 156 (by rfl) ?_; refine wl (by rfl) (s_lda (cs := rcs ⟨4, z32, 0, (numV l), 0, (bytV (l.drop 4)), z32, []⟩ (.slice A56 (bytV (l.drop 4)).length c56) (.slice none 0 0)) HS.out 3 70 (by rfl) (by rfl) (by rfl) ag56 (by exact rcs_all (⟨rfl, rfl, Nat.zero_lt_succ _, numV_lt _, Nat.zero_lt_succ _⟩ : Req.ok ⟨4, z32, 0, (numV l), 0, (bytV (l.drop 4)), z32, []⟩) _ _) (by exact rcs_length (⟨rfl, rfl, Nat.zero_lt_succ _, numV_lt _, Nat.zero_lt_succ _⟩ : Req.ok ⟨4, z32, 0, (numV l), 0, (bytV (l.drop 4)), z32, []⟩) _ _) ?_))
          | (refine sto 2 (by rfl) ?_; refine wl (by rfl) (s_sta (cs := rcs ⟨4, z32, 0, (numV l), 0, (bytV (l.drop 4)), z32, []⟩ (.slice A56 (bytV (l.drop 4)).length c56) (.slice none 0 0)) HS.out 4 70 (by rfl) (by rfl) (by rfl) ag56 (by rfl) (by exact rcs_length (⟨rfl, rfl, Nat.zero_lt_succ _, numV_lt _, Nat.zero_lt_succ _⟩ : Req.ok ⟨4, z32, 0, (numV l), 0, (bytV (l.drop 4)), z32, []⟩) _ _) (by exact cells_rq _ rfl rfl) (by exact Nat.le_of_eq (rcs_length (zq_ok _) _ _).symm) ?_); intro Wn hS; rw [splice_all ((rcs_length (⟨rfl, rfl, Nat.zero_lt_succ _, numV_lt _, Nat.zero_lt_succ _⟩ : Req.ok ⟨4, z32, 0, (numV l), 0, (bytV (l.drop 4)), z32, []⟩) _ _).trans (rcs_length (zq_ok _) _ _).symm)] at hS; clear HS; have HS := Lib.hid hS; clear hS))
        exact bodyPost_ret (ret_ct56 (p := 2) (u := 3) rfl _ b2 _ 56 (0, 0) _ (by rfl) (by rfl) (HS.out.blk (i := 4) rfl) (by rw [List.size_toArray]; exact rcs_length (⟨rfl, rfl, Nat.zero_lt_succ _, numV_lt _, Nat.zero_lt_succ _⟩ : Req.ok ⟨4, z32, 0, (numV l), 0, (bytV (l.drop 4)), z32, []⟩) _ _)) rfl ⟨⟨4, z32, 0, (numV l), 0, (bytV (l.drop 4)), z32, []⟩, (.slice A56 (bytV (l.drop 4)).length c56), (.slice none 0 0), 0, rfl, HP, (((((HS.out.sub 0).sub 1).sub 1).sub 1).dropF (Gs := []) (fun G hG => by cases hG)).nilRow.swap⟩
      · have HP := HNO.out (fun _ => hd)
        have hne : (encQ ⟨4, z32, 0, (numV l), 0, (bytV (l.drop 4)), z32, []⟩ == (4 :: l)) = false := beq_eq_false_iff_ne.2 hd
        clear hd
        go_wp2_with (first
          | (refine atd 150 (by rfl) ?_; refine wl (by rfl) (wp_of_run (run_str (xs := (encQ ⟨4, z32, 0, (numV l), 0, (bytV (l.drop 4)), z32, []⟩)) (by rfl) (by rfl) (Row.hb (l := (encQ ⟨4, z32, 0, (numV l), 0, (bytV (l.drop 4)), z32, []⟩)) (HS.out.res (i := 0) rfl))) ?_))
          | (refine atd 152 (by rfl) ?_; refine wl (by rfl) (wp_of_run (run_str (xs := 4 :: l) (by rfl) (by rfl) (HS.out.fact (i := 0) rfl)) ?_))
          | (refine atd 155 (by rfl) ?_; refine wl (by rfl) (wp_of_run (run_b56z (by rfl)) ?_))
          | (refine sto 2 (by rfl) ?_; refine wl (by rfl) (s_sta (cs := rcs (zq 0) (.slice none 0 0) (.slice none 0 0)) HS.out 4 70 (by rfl) (by rfl) (by rfl) ag56 (by rfl) (by exact rcs_length (zq_ok 0) _ _) (by exact cells_rq _ rfl rfl) (by exact Nat.le_of_eq (rcs_length (zq_ok _) _ _).symm) ?_); intro Wn hS; rw [splice_all ((rcs_length (zq_ok 0) _ _).trans (rcs_length (zq_ok _) _ _).symm)] at hS; clear HS; have HS := Lib.hid hS; clear hS))
        exact bodyPost_ret (ret_ct56 (p := 2) (u := 3) rfl _ b2 _ 56 (0, 0) _ (by rfl) (by rfl) (HS.out.blk (i := 4) rfl) (by rw [List.size_toArray]; exact rcs_length (zq_ok 0) _ _)) rfl ⟨zq 0, (.slice none 0 0), (.slice none 0 0), 290, rfl, HP, ((((((HS.out.sub 0).sub 0).sub 0).sub 0).sub 0).dropF (Gs := []) (fun G hG => by cases hG)).nilRow.nilRow⟩
set_option maxHeartbeats 2000000 in
set_option maxRecDepth 100000 in
theorem dec30dq (ad : Addr) (N c M c1 : Nat) (A1 : Option Addr) (l : List UInt8) (w : World) (hv : HB w (.slice (some ad) N c) (4 :: l)) (hl : HB w (.slice A1 M c1) l) (hN : N = M + 1) (hM : l.length = M) (hM2 : M ≤ 5000) (hc0 : Away (Keys []) (fun W => W.cell? (ad.add 0) = some (.int .u8 4)) w) (hs1 : ∀ W, (Instr.slice 22 (.slice (some ad) N c) (some (.int .i64 1)) none none).run Try.prog W = .ok (.slice A1 M c1) W) (h4 : M < 4) :
    Calls Try.prog 30 #[.slice (some ad) N c] w fun e w' => ∃ r s b c, e = .returned (.tuple #[.agg (rcs r s b).toArray, .int .i64 c]) ∧ DecP (4 :: l) r c ∧ St w w' [Row s 5 1 r.sb.length (bs r.sb), Row b 5 1 r.bb.length (bs r.bb)] [] := by
  have z0 : ((N : Int) == 0) = false := beq_eq_false_iff_ne.2 (by omega)
  have z1 : (0 : Int) < (N : Int) := by omega
  have HS := Lib.hid (((((St.start w).addF hl.away0).addF hc0).addF hv.away0))
  have HM := Lib.hid hM
  have HNO := Lib.hid (show (chkQ ⟨4, z32, 0, (numV l), 0, [], z32, []⟩ = true → encQ ⟨4, z32, 0, (numV l), 0, [], z32, []⟩ ≠ 4 :: l) → DecP (4 :: l) (zq 0) 290 from fun _ => ⟨zq_ok 0, .inr ⟨rfl, rfl, fun r' hr' hc he => by have := encQ_len10 hr' he (by decide) hc; omega⟩⟩)
  have d4 : decide (4 ≤ (M : Int)) = false := decide_eq_false (by omega)
  have HHV := Lib.hid (hshV_len l)
  have HRL := Lib.hid hM
  have hb1 := numV_lt l
  have hb8 := numV_lt (numL l)
  clear hv hl hM hN hc0
  go_enter Try.func30, Try.ntmps30
  go_wp2_with (first
    | (refine atd 2 (by rfl) ?_; refine wl (by rfl) (s_al (l := rcs (zq 0) (.slice none 0 0) (.slice none 0 0)) HS.out (by rfl) z56 (by rfl) ?_); intro b2 Wn hS; clear HS; have HS := Lib.hid hS; clear hS)
    | (refine atd 20 (by rfl) ?_; refine wl (by rfl) (wp_of_run (run_ld (v := .int .u8 4) (by kernel_rfl) (by rfl) (by rfl) (HS.out.fact (i := 1) rfl)) ?_))
    | (refine atd 22 (by rfl) ?_; refine wl (by rfl) (wp_of_run (run_b56 (k := 4) (by rfl) (by rfl)) ?_))
    | (refine atd 4 (by rfl) ?_; refine wl (by rfl) (s_al (l := rcs (zq 0) (.slice none 0 0) (.slice none 0 0)) HS.out (by rfl) z56 (by rfl) ?_); intro b4 Wn hS; clear HS; have HS := Lib.hid hS; clear hS)
    | (refine sto 4 (by rfl) ?_; refine wl (by rfl) (s_sta (cs := rcs (zq 4) (.slice none 0 0) (.slice none 0 0)) HS.out 0 70 (by rfl) (by rfl) (by rfl) ag56 (by rfl) (by exact rcs_length (zq_ok _) _ _) (by exact cells_rq _ rfl rfl) (by exact Nat.le_of_eq (rcs_length (zq_ok _) _ _).symm) ?_); intro Wn hS; rw [splice_all ((rcs_length (zq_ok _) _ _).trans (rcs_length (zq_ok _) _ _).symm)] at hS; have hS : St w Wn [Blk b4 (rcs ⟨4, z32, 0, 0, 0, [], z32, []⟩ (.slice none 0 0) (.slice none 0 0)) 56, Blk b2 (rcs (zq 0) (.slice none 0 0) (.slice none 0 0)) 56] _ := hS; clear HS; have HS := Lib.hid hS; clear hS)
    | (refine atd 26 (by rfl) ?_; refine wl (by rfl) (s_ld (v := .int .i64 4) HS.out 0 (by rfl) (by rfl) (by rfl) (by kernel_rfl) (by exact rcs_0 _ _) ?_))
    | (refine atd 30 (by rfl) ?_; refine wl (by rfl) (s_ld (v := .int .i64 4) HS.out 0 (by rfl) (by rfl) (by rfl) (by kernel_rfl) (by exact rcs_0 _ _) ?_))
    | (refine atd 35 (by rfl) ?_; refine wl (by rfl) (s_ld (v := .int .i64 4) HS.out 0 (by rfl) (by rfl) (by rfl) (by kernel_rfl) (by exact rcs_0 _ _) ?_))
    | (refine atd 40 (by rfl) ?_; refine wl (by rfl) (s_ld (v := .int .i64 4) HS.out 0 (by rfl) (by rfl) (by rfl) (by kernel_rfl) (by exact rcs_0 _ _) ?_)))
  go_loopw [7, 8] (fun s7 s8 wr => ∃ (j : Nat) (v7 : Value), j ≤ 2 ∧ 4 * j ≤ M ∧ s8 = .int .i64 ((4 * j : Nat) : Int) ∧ s7 = v7 ∧ St w wr [Row v7 48 1 j (nums l j), Blk b4 (rcs ⟨4, z32, 0, 0, 0, [], z32, []⟩ (.slice none 0 0) (.slice none 0 0)) 56, Blk b2 (rcs (zq 0) (.slice none 0 0) (.slice none 0 0)) 56] [fun W => HB W (.slice (some ad) N c) (4 :: l), fun W => W.cell? (ad.add 0) = some (.int .u8 4), fun W => HB W (.slice A1 M c1) l]) (fun _ s8 _ => 8 - (intOf s8).toNat)
  case atStart => exact ⟨0, _, by omega, by omega, rfl, rfl, HS.out.nilRowE 48 1⟩
  case round =>
    obtain ⟨j, v7, hj, hj4, rfl, rfl, hs⟩ := hrel
    clear HS
    have HS := Lib.hid hs
    clear hs
    by_cases hm : 4 * j + 4 ≤ M
    · exact absurd hm (by omega)
    have m1 : ¬ ((4 * j : Nat) : Int) + 4 ≤ (M : Int) := by omega
    have m1' : ¬ 4 * (j : Int) + 4 ≤ (M : Int) := by omega
    have HNE := Lib.hid (nums_end (R := l) hj (by rw [HRL.out]; exact hj4) (by rw [HRL.out]; exact .inr (by omega)))
    have i07 : (0 : Int) < (j : Int) + 2 := by omega
    have i17 : (1 : Int) < (j : Int) + 2 := by omega
    go_wp2_with (first
      | (refine atd 82 (by rfl) ?_; refine wl (by rfl) (s_bs (E := 48) (z := (.int .u32 0)) HS.out 2 1 [.int .u32 0, .int .u32 0] (by rfl) Try.underlying95 (by kernel_rfl) (by rfl) (by decide) (by decide) (by kernel_rfl) (by rfl) (by decide) ?_); intro b82 Wn hS; clear HS; have HS := Lib.hid hS; clear hS)
      | (refine atd 83 (by rfl) ?_; refine wl (by rfl) (s_rows (size := 1) (bytes := 4) (z := .int .u32 0) HS.out 1 0 (by rfl) Try.underlying95 (by kernel_rfl) (by rfl) (by decide) (by rfl) (by rfl) (by rfl) (by rfl) (by intro u hu; simp at hu; rcases hu with rfl | rfl <;> rfl) (by omega) (by omega) ?_); intro v83 Wn hS; replace hS := hS.sub 0; clear HS; have HS := Lib.hid hS; clear hS; obtain ⟨g7, c7, rfl⟩ := rowE_some (HS.out.res (i := 0) rfl) (by omega))
      | (refine atd 85 (by rfl) ?_; refine wl (by rfl) (s_ld (v := .int .i64 4) HS.out 1 (by rfl) (by rfl) (by rfl) (by kernel_rfl) (by exact rcs_0 _ _) ?_))
      | (refine atd 118 (by rfl) ?_; refine wl (by rfl) (wp_of_run (run_ld (v := .int .u32 ((numV l : Nat) : Int)) (by kernel_rfl) (by rfl) (by rfl) (rowE_cell (HS.out.res (i := 0) rfl) HNE.out.1)) ?_))
      | (refine sto 119 (by rfl) ?_; refine wl (by rfl) (s_st (v := .int .u32 (((numV l) : Nat) : Int)) HS.out 1 (by rfl) (by rfl) (by rfl) (by kernel_rfl) (by rfl) (by rfl) (by rw [rcs_length (⟨rfl, rfl, Nat.zero_lt_succ _, Nat.zero_lt_succ _, Nat.zero_lt_succ _⟩ : Req.ok ⟨4, z32, 0, 0, 0, [], z32, []⟩)]; decide) ?_); intro Wn hS; rw [rcs_setH (hx := rfl)] at hS; clear HS; have HS := Lib.hid hS; clear hS)
      | (refine atd 142 (by rfl) ?_; refine wl (by rfl) (s_lda (cs := rcs ⟨4, z32, 0, (numV l), 0, [], z32, []⟩ (.slice none 0 0) (.slice none 0 0)) HS.out 1 70 (by rfl) (by rfl) (by rfl) ag56 (by exact rcs_all (⟨rfl, rfl, Nat.zero_lt_succ _, numV_lt _, Nat.zero_lt_succ _⟩ : Req.ok ⟨4, z32, 0, (numV l), 0, [], z32, []⟩) _ _) (by exact rcs_length (⟨rfl, rfl, Nat.zero_lt_succ _, numV_lt _, Nat.zero_lt_succ _⟩ : Req.ok ⟨4, z32, 0, (numV l), 0, [], z32, []⟩) _ _) ?_)))
    refine (enc28 ⟨4, z32, 0, (numV l), 0, [], z32, []⟩ (.slice none 0 0) (.slice none 0 0) _ (⟨rfl, rfl, Nat.zero_lt_succ _, numV_lt _, Nat.zero_lt_succ _⟩ : Req.ok ⟨4, z32, 0, (numV l), 0, [], z32, []⟩) (HB.nil _ _ _) (HB.nil _ _ _) (by exact Nat.zero_le _) (by exact Nat.zero_le _)).mono ?_
    rintro e Wn ⟨ve, rfl, hb⟩
    have hS := HS.out.take hb
    clear hb HS
    have HS := Lib.hid hS
    clear hS
    unfold chkI encOQ at *
    obtain ⟨Ae, ke, rfl⟩ := Row.sl (HS.out.res (i := 0) rfl)
    cases hc : chkQ ⟨4, z32, 0, (numV l), 0, [], z32, []⟩ with
    | false =>
      rw [hc] at HS
      have HD := Lib.hid (HNO.out (fun h => by rw [hc] at h; cases h))
      simp only [Bool.false_eq_true, ↓reduceIte] at HS ⊢
      go_wp2_with (first
        | (refine atd 155 (by rfl) ?_; refine wl (by rfl) (wp_of_run (run_b56z (by rfl)) ?_))
        | (refine sto 2 (by rfl) ?_; refine wl (by rfl) (s_sta (cs := rcs (zq 0) (.slice none 0 0) (.slice none 0 0)) HS.out 3 70 (by rfl) (by rfl) (by rfl) ag56 (by rfl) (by exact rcs_length (zq_ok 0) _ _) (by exact cells_rq _ rfl rfl) (by exact Nat.le_of_eq (rcs_length (zq_ok _) _ _).symm) ?_); intro Wn hS; rw [splice_all ((rcs_length (zq_ok 0) _ _).trans (rcs_length (zq_ok _) _ _).symm)] at hS; clear HS; have HS := Lib.hid hS; clear hS))
      exact bodyPost_ret (ret_ct56 (p := 2) (u := 3) rfl _ b2 _ 56 (0, 0) _ (by rfl) (by rfl) (HS.out.blk (i := 3) rfl) (by rw [List.size_toArray]; exact rcs_length (zq_ok 0) _ _)) rfl ⟨zq 0, (.slice none 0 0), (.slice none 0 0), 290, rfl, HD.out, (((((HS.out.sub 0).sub 0).sub 0).sub 0).dropF (Gs := []) (fun G hG => by cases hG)).nilRow.nilRow⟩
    | true =>
      rw [hc] at HS
      simp only [↓reduceIte] at HS ⊢
      by_cases hd : encQ ⟨4, z32, 0, (numV l), 0, [], z32, []⟩ = 4 :: l
      · have HP : DecP (4 :: l) ⟨4, z32, 0, (numV l), 0, [], z32, []⟩ 0 := ⟨(⟨rfl, rfl, Nat.zero_lt_succ _, numV_lt _, Nat.zero_lt_succ _⟩ : Req.ok ⟨4, z32, 0, (numV l), 0, [], z32, []⟩), .inl ⟨rfl, hc, hd⟩⟩
        rw [hd] at HS ⊢
        clear hd
        go_wp2_with (first
          | (refine atd 150 (by rfl) ?_; refine wl (by rfl) (wp_of_run (run_str (xs := (4 :: l)) (by rfl) (by rfl) (Row.hb (l := (4 :: l)) (HS.out.res (i := 0) rfl))) ?_))
          | (refine atd 152 (by rfl) ?_; refine wl (by rfl) (wp_of_run (run_str (xs := 4 :: l) (by rfl) (by rfl) (HS.out.fact (i := 0) rfl)) ?_))
          | (refine atd 156 (by rfl) ?_; refine wl (by rfl) (s_lda (cs := rcs ⟨4, z32, 0, (numV l), 0, [], z32, []⟩ (.slice none 0 0) (.slice none 0 0)) HS.out 2 70 (by rfl) (by rfl) (by rfl) ag56 (by exact rcs_all (⟨rfl, rfl, Nat.zero_lt_succ _, numV_lt _, Nat.zero_lt_succ _⟩ : Req.ok ⟨4, z32, 0, (numV l), 0, [], z32, []⟩) _ _) (by exact rcs_length (⟨rfl, rfl, Nat.zero_lt_succ _, numV_lt _, Nat.zero_lt_succ _⟩ : Req.ok ⟨4, z32, 0, (numV l), 0, [], z32, []⟩) _ _) ?_))
          | (refine sto 2 (by rfl) ?_; refine wl (by rfl) (s_sta (cs := rcs ⟨4, z32, 0, (numV l), 0, [], z32, []⟩ (.slice none 0 0) (.slice none 0 0)) HS.out 3 70 (by rfl) (by rfl) (by rfl) ag56 (by rfl) (by exact rcs_length (⟨rfl, rfl, Nat.zero_lt_succ _, numV_lt _, Nat.zero_lt_succ _⟩ : Req.ok ⟨4, z32, 0, (numV l), 0, [], z32, []⟩) _ _) (by exact cells_rq _ rfl rfl) (by exact Nat.le_of_eq (rcs_length (zq_ok _) _ _).symm) ?_); intro Wn hS; rw [splice_all ((rcs_length (⟨rfl, rfl, Nat.zero_lt_succ _, numV_lt _, Nat.zero_lt_succ _⟩ : Req.ok ⟨4, z32, 0, (numV l), 0, [], z32, []⟩) _ _).trans (rcs_length (zq_ok _) _ _).symm)] at hS; clear HS; have HS := Lib.hid hS; clear hS))
        exact bodyPost_ret (ret_ct56 (p := 2) (u := 3) rfl _ b2 _ 56 (0, 0) _ (by rfl) (by rfl) (HS.out.blk (i := 3) rfl) (by rw [List.size_toArray]; exact rcs_length (⟨rfl, rfl, Nat.zero_lt_succ _, numV_lt _, Nat.zero_lt_succ _⟩ : Req.ok ⟨4, z32, 0, (numV l), 0, [], z32, []⟩) _ _)) rfl ⟨⟨4, z32, 0, (numV l), 0, [], z32, []⟩, (.slice none 0 0), (.slice none 0 0), 0, rfl, HP, (((((HS.out.sub 0).sub 0).sub 0).sub 0).dropF (Gs := []) (fun G hG => by cases hG)).nilRow.nilRow⟩
      · have HP := HNO.out (fun _ => hd)
        have hne : (encQ ⟨4, z32, 0, (numV l), 0, [], z32, []⟩ == (4 :: l)) = false := beq_eq_false_iff_ne.2 hd
        clear hd
        go_wp2_with (first
          | (refine atd 150 (by rfl) ?_; refine wl (by rfl) (wp_of_run (run_str (xs := (encQ ⟨4, z32, 0, (numV l), 0, [], z32, []⟩)) (by rfl) (by rfl) (Row.hb (l := (encQ ⟨4, z32, 0, (numV l), 0, [], z32, []⟩)) (HS.out.res (i := 0) rfl))) ?_))
          | (refine atd 152 (by rfl) ?_; refine wl (by rfl) (wp_of_run (run_str (xs := 4 :: l) (by rfl) (by rfl) (HS.out.fact (i := 0) rfl)) ?_))
          | (refine atd 155 (by rfl) ?_; refine wl (by rfl) (wp_of_run (run_b56z (by rfl)) ?_))
          | (refine sto 2 (by rfl) ?_; refine wl (by rfl) (s_sta (cs := rcs (zq 0) (.slice none 0 0) (.slice none 0 0)) HS.out 3 70 (by rfl) (by rfl) (by rfl) ag56 (by rfl) (by exact rcs_length (zq_ok 0) _ _) (by exact cells_rq _ rfl rfl) (by exact Nat.le_of_eq (rcs_length (zq_ok _) _ _).symm) ?_); intro Wn hS; rw [splice_all ((rcs_length (zq_ok 0) _ _).trans (rcs_length (zq_ok _) _ _).symm)] at hS; clear HS; have HS := Lib.hid hS; clear hS))
        exact bodyPost_ret (ret_ct56 (p := 2) (u := 3) rfl _ b2 _ 56 (0, 0) _ (by rfl) (by rfl) (HS.out.blk (i := 3) rfl) (by rw [List.size_toArray]; exact rcs_length (zq_ok 0) _ _)) rfl ⟨zq 0, (.slice none 0 0), (.slice none 0 0), 290, rfl, HP, (((((HS.out.sub 0).sub 0).sub 0).sub 0).dropF (Gs := []) (fun G hG => by cases hG)).nilRow.nilRow⟩
end
section
open Go Go.RowKit Go.Proofs
attribute [local irreducible] Calls
set_option maxHeartbeats 2000000 in
set_option maxRecDepth 100000 in
theorem dec30e (ad : Addr) (N c M c1 : Nat) (A1 : Option Addr) (l : List UInt8) (w : World) (hv : HB w (.slice (some ad) N c) (5 :: l)) (hl : HB w (.slice A1 M c1) l) (hN : N = M + 1) (hM : l.length = M) (hM2 : M ≤ 5000) (hc0 : Away (Keys []) (fun W => W.cell? (ad.add 0) = some (.int .u8 5)) w) (hs1 : ∀ W, (Instr.slice 22 (.slice (some ad) N c) (some (.int .i64 1)) none none).run Try.prog W = .ok (.slice A1 M c1) W) :
    Calls Try.prog 30 #[.slice (some ad) N c] w fun e w' => ∃ r s b c, e = .returned (.tuple #[.agg (rcs r s b).toArray, .int .i64 c]) ∧ DecP (5 :: l) r c ∧ St w w' [Row s 5 1 r.sb.length (bs r.sb), Row b 5 1 r.bb.length (bs r.bb)] [] := by
  have z0 : ((N : Int) == 0) = false := beq_eq_false_iff_ne.2 (by omega)
  have z1 : (0 : Int) < (N : Int) := by omega
  have HS := Lib.hid (((((St.start w).addF hl.away0).addF hc0).addF hv.away0))
  have HM := Lib.hid hM
  have hrq : rdF (fldK (((5 : UInt8).toNat : Nat) : Int)) (((5 : UInt8).toNat : Nat) : Int) l = ⟨5, z32, 0, (numV l), (numV (numL l)), [], z32, []⟩ := rfl
  have HNO := Lib.hid (show (chkQ ⟨5, z32, 0, (numV l), (numV (numL l)), [], z32, []⟩ = true → encQ ⟨5, z32, 0, (numV l), (numV (numL l)), [], z32, []⟩ ≠ 5 :: l) → DecP (5 :: l) (zq 0) 290 from fun h => DecP.no fun r e hc => by rw [hrq] at e; subst e; exact h hc)
  clear hrq
  have HHV := Lib.hid (hshV_len l)
  have HRL := Lib.hid hM
  have hb1 := numV_lt l
  have hb8 := numV_lt (numL l)
  clear hv hl hM hN hc0
  go_enter Try.func30, Try.ntmps30
  go_wp2_with (first
    | (refine atd 2 (by rfl) ?_; refine wl (by rfl) (s_al (l := rcs (zq 0) (.slice none 0 0) (.slice none 0 0)) HS.out (by rfl) z56 (by rfl) ?_); intro b2 Wn hS; clear HS; have HS := Lib.hid hS; clear hS)
    | (refine atd 20 (by rfl) ?_; refine wl (by rfl) (wp_of_run (run_ld (v := .int .u8 5) (by kernel_rfl) (by rfl) (by rfl) (HS.out.fact (i := 1) rfl)) ?_))
    | (refine atd 22 (by rfl) ?_; refine wl (by rfl) (wp_of_run (run_b56 (k := 5) (by rfl) (by rfl)) ?_))
    | (refine atd 4 (by rfl) ?_; refine wl (by rfl) (s_al (l := rcs (zq 0) (.slice none 0 0) (.slice none 0 0)) HS.out (by rfl) z56 (by rfl) ?_); intro b4 Wn hS; clear HS; have HS := Lib.hid hS; clear hS)
    | (refine sto 4 (by rfl) ?_; refine wl (by rfl) (s_sta (cs := rcs (zq 5) (.slice none 0 0) (.slice none 0 0)) HS.out 0 70 (by rfl) (by rfl) (by rfl) ag56 (by rfl) (by exact rcs_length (zq_ok _) _ _) (by exact cells_rq _ rfl rfl) (by exact Nat.le_of_eq (rcs_length (zq_ok _) _ _).symm) ?_); intro Wn hS; rw [splice_all ((rcs_length (zq_ok _) _ _).trans (rcs_length (zq_ok _) _ _).symm)] at hS; have hS : St w Wn [Blk b4 (rcs ⟨5, z32, 0, 0, 0, [], z32, []⟩ (.slice none 0 0) (.slice none 0 0)) 56, Blk b2 (rcs (zq 0) (.slice none 0 0) (.slice none 0 0)) 56] _ := hS; clear HS; have HS := Lib.hid hS; clear hS)
    | (refine atd 26 (by rfl) ?_; refine wl (by rfl) (s_ld (v := .int .i64 5) HS.out 0 (by rfl) (by rfl) (by rfl) (by kernel_rfl) (by exact rcs_0 _ _) ?_))
    | (refine atd 30 (by rfl) ?_; refine wl (by rfl) (s_ld (v := .int .i64 5) HS.out 0 (by rfl) (by rfl) (by rfl) (by kernel_rfl) (by exact rcs_0 _ _) ?_))
    | (refine atd 35 (by rfl) ?_; refine wl (by rfl) (s_ld (v := .int .i64 5) HS.out 0 (by rfl) (by rfl) (by rfl) (by kernel_rfl) (by exact rcs_0 _ _) ?_))
    | (refine atd 40 (by rfl) ?_; refine wl (by rfl) (s_ld (v := .int .i64 5) HS.out 0 (by rfl) (by rfl) (by rfl) (by kernel_rfl) (by exact rcs_0 _ _) ?_)))
  go_loopw [7, 8] (fun s7 s8 wr => ∃ (j : Nat) (v7 : Value), j ≤ 2 ∧ 4 * j ≤ M ∧ s8 = .int .i64 ((4 * j : Nat) : Int) ∧ s7 = v7 ∧ St w wr [Row v7 48 1 j (nums l j), Blk b4 (rcs ⟨5, z32, 0, 0, 0, [], z32, []⟩ (.slice none 0 0) (.slice none 0 0)) 56, Blk b2 (rcs (zq 0) (.slice none 0 0) (.slice none 0 0)) 56] [fun W => HB W (.slice (some ad) N c) (5 :: l), fun W => W.cell? (ad.add 0) = some (.int .u8 5), fun W => HB W (.slice A1 M c1) l]) (fun _ s8 _ => 8 - (intOf s8).toNat)
  case atStart => exact ⟨0, _, by omega, by omega, rfl, rfl, HS.out.nilRowE 48 1⟩
  case round =>
    obtain ⟨j, v7, hj, hj4, rfl, rfl, hs⟩ := hrel
    clear HS
    have HS := Lib.hid hs
    clear hs
    by_cases hm : 4 * j + 4 ≤ M
    · have m1 : ((4 * j : Nat) : Int) + 4 ≤ (M : Int) := by omega
      have m1' : 4 * (j : Int) + 4 ≤ (M : Int) := by omega
      by_cases h2 : j < 2
      · have m2 : ((4 * j : Nat) : Int) < 8 := by omega
        have m2' : 4 * (j : Int) < 8 := by omega
        obtain ⟨AQ, cQ, hQs, hQ⟩ : ∃ AQ cQ, (∀ W, (Instr.slice 22 (.slice A1 M c1) (some (.int .i64 (4 * (j : Int)))) (some (.int .i64 (4 * (j : Int) + 4))) none).run Try.prog W = .ok (.slice AQ 4 cQ) W) ∧ ∀ W, HB W (.slice A1 M c1) l → HB W (.slice AQ 4 cQ) ((l.drop (4 * j)).take 4) := cut4 (HS.out.fact (i := 2) rfl) hm
        have HQ := Lib.hid hQ
        clear hQ
        have HQl := Lib.hid (show ((l.drop (4 * j)).take 4).length = 4 by rw [List.length_take, List.length_drop, HRL.out]; omega)
        have hn32 := leNum_32 _ HQl.out
        have HNS := Lib.hid (nums_succ l j)
        obtain ⟨n, hn⟩ : ∃ n, leNum ((l.drop (4 * j)).take 4) = n := ⟨_, rfl⟩
        rw [hn] at hn32 HNS
        have HNE := Lib.hid hn
        clear hn
        go_wp2_with (first
          | (go_at_call 38; refine (rnum_any _ _ _ (HQ.out _ (HS.out.fact (i := 2) rfl)) (by rw [HQl.out]; decide)).mono ?_; rw [HNE.out]; rintro e Wn ⟨rfl, hb⟩; have hS := HS.out.call hb; clear hb; clear HS; have HS := Lib.hid hS; clear hS)
          | (refine atd 79 (by rfl) ?_; refine wl (by rfl) (s_bs (E := 48) (z := (.int .u32 0)) HS.out 1 1 [.int .u32 (n : Int)] (by rfl) Try.underlying95 (by kernel_rfl) (by rfl) (by decide) (by decide) (by kernel_rfl) (by rfl) (by decide) ?_); intro b79 Wn hS; clear HS; have HS := Lib.hid hS; clear hS)
          | (refine atd 80 (by rfl) ?_; refine wl (by rfl) (s_rows (size := 1) (bytes := 4) (z := .int .u32 0) HS.out 1 0 (by rfl) Try.underlying95 (by kernel_rfl) (by rfl) (by decide) (by rfl) (by rfl) (by rfl) (by rfl) (by intro u hu; simp at hu; subst hu; rfl) (by omega) (by omega) ?_); intro v80 Wn hS; replace hS := hS.sub 0; clear HS; have HS := Lib.hid hS; clear hS))
        have hS := HS.out
        rw [show nums l j ++ [.int .u32 (n : Int)] = nums l (j + 1) from HNS.out.symm] at hS
        exact ⟨⟨j + 1, _, by omega, by omega, by push_cast; rfl, rfl, hS⟩, by simp [intOf]; omega⟩
      have m2 : ¬ ((4 * j : Nat) : Int) < 8 := by omega
      have m2' : ¬ 4 * (j : Int) < 8 := by omega
      have HNE := Lib.hid (nums_end (R := l) hj (by rw [HRL.out]; exact hj4) (by rw [HRL.out]; exact .inl (by omega)))
      have i07 : (0 : Int) < (j : Int) + 2 := by omega
      have i17 : (1 : Int) < (j : Int) + 2 := by omega
      go_wp2_with (first
        | (refine atd 82 (by rfl) ?_; refine wl (by rfl) (s_bs (E := 48) (z := (.int .u32 0)) HS.out 2 1 [.int .u32 0, .int .u32 0] (by rfl) Try.underlying95 (by kernel_rfl) (by rfl) (by decide) (by decide) (by kernel_rfl) (by rfl) (by decide) ?_); intro b82 Wn hS; clear HS; have HS := Lib.hid hS; clear hS)
        | (refine atd 83 (by rfl) ?_; refine wl (by rfl) (s_rows (size := 1) (bytes := 4) (z := .int .u32 0) HS.out 1 0 (by rfl) Try.underlying95 (by kernel_rfl) (by rfl) (by decide) (by rfl) (by rfl) (by rfl) (by rfl) (by intro u hu; simp at hu; rcases hu with rfl | rfl <;> rfl) (by omega) (by omega) ?_); intro v83 Wn hS; replace hS := hS.sub 0; clear HS; have HS := Lib.hid hS; clear hS; obtain ⟨g7, c7, rfl⟩ := rowE_some (HS.out.res (i := 0) rfl) (by omega))
        | (refine atd 85 (by rfl) ?_; refine wl (by rfl) (s_ld (v := .int .i64 5) HS.out 1 (by rfl) (by rfl) (by rfl) (by kernel_rfl) (by exact rcs_0 _ _) ?_))
        | (refine atd 135 (by rfl) ?_; refine wl (by rfl) (wp_of_run (run_ld (v := .int .u32 ((numV l : Nat) : Int)) (by kernel_rfl) (by rfl) (by rfl) (rowE_cell (HS.out.res (i := 0) rfl) HNE.out.1)) ?_))
        | (refine sto 136 (by rfl) ?_; refine wl (by rfl) (s_st (v := .int .u32 (((numV l) : Nat) : Int)) HS.out 1 (by rfl) (by rfl) (by rfl) (by kernel_rfl) (by rfl) (by rfl) (by rw [rcs_length (⟨rfl, rfl, Nat.zero_lt_succ _, Nat.zero_lt_succ _, Nat.zero_lt_succ _⟩ : Req.ok ⟨5, z32, 0, 0, 0, [], z32, []⟩)]; decide) ?_); intro Wn hS; rw [rcs_setH (hx := rfl)] at hS; clear HS; have HS := Lib.hid hS; clear hS)
        | (refine atd 139 (by rfl) ?_; refine wl (by rfl) (wp_of_run (run_ld (v := .int .u32 ((numV (numL l) : Nat) : Int)) (by kernel_rfl) (by rfl) (by rfl) (rowE_cell (HS.out.res (i := 0) rfl) HNE.out.2)) ?_))
        | (refine sto 140 (by rfl) ?_; refine wl (by rfl) (s_st (v := .int .u32 (((numV (numL l)) : Nat) : Int)) HS.out 1 (by rfl) (by rfl) (by rfl) (by kernel_rfl) (by rfl) (by rfl) (by rw [rcs_length (⟨rfl, rfl, Nat.zero_lt_succ _, numV_lt _, Nat.zero_lt_succ _⟩ : Req.ok ⟨5, z32, 0, (numV l), 0, [], z32, []⟩)]; decide) ?_); intro Wn hS; rw [rcs_setM (hx := rfl)] at hS; clear HS; have HS := Lib.hid hS; clear hS)
        | (refine atd 142 (by rfl) ?_; refine wl (by rfl) (s_lda (cs := rcs ⟨5, z32, 0, (numV l), (numV (numL l)), [], z32, []⟩ (.slice none 0 0) (.slice none 0 0)) HS.out 1 70 (by rfl) (by rfl) (by rfl) ag56 (by exact rcs_all (⟨rfl, rfl, Nat.zero_lt_succ _, numV_lt _, numV_lt _⟩ : Req.ok ⟨5, z32, 0, (numV l), (numV (numL l)), [], z32, []⟩) _ _) (by exact rcs_length (⟨rfl, rfl, Nat.zero_lt_succ _, numV_lt _, numV_lt _⟩ : Req.ok ⟨5, z32, 0, (numV l), (numV (numL l)), [], z32, []⟩) _ _) ?_)))
      refine (enc28 ⟨5, z32, 0, (numV l), (numV (numL l)), [], z32, []⟩ (.slice none 0 0) (.slice none 0 0) _ (⟨rfl, rfl, Nat.zero_lt_succ _, numV_lt _, numV_lt _⟩ : Req.ok ⟨5, z32, 0, (numV l), (numV (numL l)), [], z32, []⟩) (HB.nil _ _ _) (HB.nil _ _ _) (by exact Nat.zero_le _) (by exact Nat.zero_le _)).mono ?_
      rintro e Wn ⟨ve, rfl, hb⟩
      have hS := HS.out.take hb
      clear hb HS
      have HS := Lib.hid hS
      clear hS
      unfold chkI encOQ at *
      obtain ⟨Ae, ke, rfl⟩ := Row.sl (HS.out.res (i := 0) rfl)
      cases hc : chkQ ⟨5, z32, 0, (numV l), (numV (numL l)), [], z32, []⟩ with
      | false =>
        rw [hc] at HS
        have HD := Lib.hid (HNO.out (fun h => by rw [hc] at h; cases h))
        simp only [Bool.false_eq_true, ↓reduceIte] at HS ⊢
        go_wp2_with (first
          | (refine atd 155 (by rfl) ?_; refine wl (by rfl) (wp_of_run (run_b56z (by rfl)) ?_))
          | (refine sto 2 (by rfl) ?_; refine wl (by rfl) (s_sta (cs := rcs (zq 0) (.slice none 0 0) (.slice none 0 0)) HS.out 3 70 (by rfl) (by rfl) (by rfl) ag56 (by rfl) (by exact rcs_length (zq_ok 0) _ _) (by exact cells_rq _ rfl rfl) (by exact Nat.le_of_eq (rcs_length (zq_ok _) _ _).symm) ?_); intro Wn hS; rw [splice_all ((rcs_length (zq_ok 0) _ _).trans (rcs_length (zq_ok _) _ _).symm)] at hS; clear HS; have HS := Lib.hid hS; clear hS))
        exact bodyPost_ret (ret_ct56 (p := 2) (u := 3) rfl _ b2 _ 56 (0, 0) _ (by rfl) (by rfl) (HS.out.blk (i := 3) rfl) (by rw [List.size_toArray]; exact rcs_length (zq_ok 0) _ _)) rfl ⟨zq 0, (.slice none 0 0), (.slice none 0 0), 290, rfl, HD.out, (((((HS.out.sub 0).sub 0).sub 0).sub 0).dropF (Gs := []) (fun G hG => by cases hG)).nilRow.nilRow⟩
      | true =>
        rw [hc] at HS
        simp only [↓reduceIte] at HS ⊢
        by_cases hd : encQ ⟨5, z32, 0, (numV l), (numV (numL l)), [], z32, []⟩ = 5 :: l
        · have HP : DecP (5 :: l) ⟨5, z32, 0, (numV l), (numV (numL l)), [], z32, []⟩ 0 := ⟨(⟨rfl, rfl, Nat.zero_lt_succ _, numV_lt _, numV_lt _⟩ : Req.ok ⟨5, z32, 0, (numV l), (numV (numL l)), [], z32, []⟩), .inl ⟨rfl, hc, hd⟩⟩
          rw [hd] at HS ⊢
          clear hd
          go_wp2_with (first
            | (refine atd 150 (by rfl) ?_; refine wl (by rfl) (wp_of_run (run_str (xs := (5 :: l)) (by rfl) (by rfl) (Row.hb (l := (5 :: l)) (HS.out.res (i := 0) rfl))) ?_))
            | (refine atd 152 (by rfl) ?_; refine wl (by rfl) (wp_of_run (run_str (xs := 5 :: l) (by rfl) (by rfl) (HS.out.fact (i := 0) rfl)) ?_))
            | (refine atd 156 (by rfl) ?_; refine wl (by rfl) (s_lda (cs := rcs ⟨5, z32, 0, (numV l), (numV (numL l)), [], z32, []⟩ (.slice none 0 0) (.slice none 0 0)) HS.out 2 70 (by rfl) (by rfl) (by rfl) ag56 (by exact rcs_all (⟨rfl, rfl, Nat.zero_lt_succ _, numV_lt _, numV_lt _⟩ : Req.ok ⟨5, z32, 0, (numV l), (numV (numL l)), [], z32, []⟩) _ _) (by exact rcs_length (⟨rfl, rfl, Nat.zero_lt_succ _, numV_lt _, numV_lt _⟩ : Req.ok ⟨5, z32, 0, (numV l), (numV (numL l)), [], z32, []⟩) _ _) ?_))
            | (refine sto 2 (by rfl) ?_; refine wl (by rfl) (s_sta (cs := rcs ⟨5, z32, 0, (numV l), (numV (numL l)), [], z32, []⟩ (.slice none 0 0) (.slice none 0 0)) HS.out 3 70 (by rfl) (by rfl) (by rfl) ag56 (by rfl) (by exact rcs_length (⟨rfl, rfl, Nat.zero_lt_succ _, numV_lt _, numV_lt _⟩ : Req.ok ⟨5, z32, 0, (numV l), (numV (numL l)), [], z32, []⟩) _ _) (by exact cells_rq _ rfl rfl) (by exact Nat.le_of_eq (rcs_length (zq_ok _) _ _).symm) ?_); intro Wn hS; rw [splice_all ((rcs_length (⟨rfl, rfl, Nat.zero_lt_succ _, numV_lt _, numV_lt _⟩ : Req.ok ⟨5, z32, 0, (numV l), (numV (numL l)), [], z32, []⟩) _ _).trans (rcs_length (zq_ok _) _ _).symm)] at hS; clear HS; have HS := Lib.hid hS; clear hS))
          exact bodyPost_ret (ret_ct56 (p := 2) (u := 3) rfl _ b2 _ 56 (0, 0) _ (by rfl) (by rfl) (HS.out.blk (i := 3) rfl) (by rw [List.size_toArray]; exact rcs_length (⟨rfl, rfl, Nat.zero_lt_succ _, numV_lt _, numV_lt _⟩ : Req.ok ⟨5, z32, 0, (numV l), (numV (numL l)), [], z32, []⟩) _ _)) rfl ⟨⟨5, z32, 0, (numV l), (numV (numL l)), [], z32, []⟩, (.slice none 0 0), (.slice none 0 0), 0, rfl, HP, (((((HS.out.sub 0).sub 0).sub 0).sub 0).dropF (Gs := []) (fun G hG => by cases hG)).nilRow.nilRow⟩
        · have HP := HNO.out (fun _ => hd)
          have hne : (encQ ⟨5, z32, 0, (numV l), (numV (numL l)), [], z32, []⟩ == (5 :: l)) = false := beq_eq_false_iff_ne.2 hd
          clear hd
          go_wp2_with (first
            | (refine atd 150 (by rfl) ?_; refine wl (by rfl) (wp_of_run (run_str (xs := (encQ ⟨5, z32, 0, (numV l), (numV (numL l)), [], z32, []⟩)) (by rfl) (by rfl) (Row.hb (l := (encQ ⟨5, z32, 0, (numV l), (numV (numL l)), [], z32, []⟩)) (HS.out.res (i := 0) rfl))) ?_))
            | (refine atd 152 (by rfl) ?_; refine wl (by rfl) (wp_of_run (run_str (xs := 5 :: l) (by rfl) (by rfl) (HS.out.fact (i := 0) rfl)) ?_))
            | (refine atd 155 (by rfl) ?_; refine wl (by rfl) (wp_of_run (run_b56z (by rfl)) ?_))
            | (refine sto 2 (by rfl) ?_; refine wl (by rfl) (s_sta (cs := rcs (zq 0) (.slice none 0 0) (.slice none 0 0)) HS.out 3 70 (by rfl) (by rfl) (by rfl) ag56 (by rfl) (by exact rcs_length (zq_ok 0) _ _) (by exact cells_rq _ rfl rfl) (by exact Nat.le_of_eq (rcs_length (zq_ok _) _ _).symm) ?_); intro Wn hS; rw [splice_all ((rcs_length (zq_ok 0) _ _).trans (rcs_length (zq_ok _) _ _).symm)] at hS; clear HS; have HS := Lib.hid hS; clear hS))
          exact bodyPost_ret (ret_ct56 (p := 2) (u := 3) rfl _ b2 _ 56 (0, 0) _ (by rfl) (by rfl) (HS.out.blk (i := 3) rfl) (by rw [List.size_toArray]; exact rcs_length (zq_ok 0) _ _)) rfl ⟨zq 0, (.slice none 0 0), (.slice none 0 0), 290, rfl, HP, (((((HS.out.sub 0).sub 0).sub 0).sub 0).dropF (Gs := []) (fun G hG => by cases hG)).nilRow.nilRow⟩
    have m1 : ¬ ((4 * j : Nat) : Int) + 4 ≤ (M : Int) := by omega
    have m1' : ¬ 4 * (j : Int) + 4 ≤ (M : Int) := by omega
    have HNE := Lib.hid (nums_end (R := l) hj (by rw [HRL.out]; exact hj4) (by rw [HRL.out]; exact .inr (by omega)))
    have i07 : (0 : Int) < (j : Int) + 2 := by omega
    have i17 : (1 : Int) < (j : Int) + 2 := by omega
    go_wp2_with (first
      | (refine atd 82 (by rfl) ?_; refine wl (by rfl) (s_bs (E := 48) (z := (.int .u32 0)) HS.out 2 1 [.int .u32 0, .int .u32 0] (by rfl) Try.underlying95 (by kernel_rfl) (by rfl) (by decide) (by decide) (by kernel_rfl) (by rfl) (by decide) ?_); intro b82 Wn hS; clear HS; have HS := Lib.hid hS; clear hS)
      | (refine atd 83 (by rfl) ?_; refine wl (by rfl) (s_rows (size := 1) (bytes := 4) (z := .int .u32 0) HS.out 1 0 (by rfl) Try.underlying95 (by kernel_rfl) (by rfl) (by decide) (by rfl) (by rfl) (by rfl) (by rfl) (by intro u hu; simp at hu; rcases hu with rfl | rfl <;> rfl) (by omega) (by omega) ?_); intro v83 Wn hS; replace hS := hS.sub 0; clear HS; have HS := Lib.hid hS; clear hS; obtain ⟨g7, c7, rfl⟩ := rowE_some (HS.out.res (i := 0) rfl) (by omega))
      | (refine atd 85 (by rfl) ?_; refine wl (by rfl) (s_ld (v := .int .i64 5) HS.out 1 (by rfl) (by rfl) (by rfl) (by kernel_rfl) (by exact rcs_0 _ _) ?_))
      | (refine atd 135 (by rfl) ?_; refine wl (by rfl) (wp_of_run (run_ld (v := .int .u32 ((numV l : Nat) : Int)) (by kernel_rfl) (by rfl) (by rfl) (rowE_cell (HS.out.res (i := 0) rfl) HNE.out.1)) ?_))
      | (refine sto 136 (by rfl) ?_; refine wl (by rfl) (s_st (v := .int .u32 (((numV l) : Nat) : Int)) HS.out 1 (by rfl) (by rfl) (by rfl) (by kernel_rfl) (by rfl) (by rfl) (by rw [rcs_length (⟨rfl, rfl, Nat.zero_lt_succ _, Nat.zero_lt_succ _, Nat.zero_lt_succ _⟩ : Req.ok ⟨5, z32, 0, 0, 0, [], z32, []⟩)]; decide) ?_); intro Wn hS; rw [rcs_setH (hx := rfl)] at hS; clear HS; have HS := Lib.hid hS; clear hS)
      | (refine atd 139 (by rfl) ?_; refine wl (by rfl) (wp_of_run (run_ld (v := .int .u32 ((numV (numL l) : Nat) : Int)) (by kernel_rfl) (by rfl) (by rfl) (rowE_cell (HS.out.res (i := 0) rfl) HNE.out.2)) ?_))
      | (refine sto 140 (by rfl) ?_; refine wl (by rfl) (s_st (v := .int .u32 (((numV (numL l)) : Nat) : Int)) HS.out 1 (by rfl) (by rfl) (by rfl) (by kernel_rfl) (by rfl) (by rfl) (by rw [rcs_length (⟨rfl, rfl, Nat.zero_lt_succ _, numV_lt _, Nat.zero_lt_succ _⟩ : Req.ok ⟨5, z32, 0, (numV l), 0, [], z32, []⟩)]; decide) ?_); intro Wn hS; rw [rcs_setM (hx := rfl)] at hS; clear HS; have HS := Lib.hid hS; clear hS)
      | (refine atd 142 (by rfl) ?_; refine wl (by rfl) (s_lda (cs := rcs ⟨5, z32, 0, (numV l), (numV (numL l)), [], z32, []⟩ (.slice none 0 0) (.slice none 0 0)) HS.out 1 70 (by rfl) (by rfl) (by rfl) ag56 (by exact rcs_all (⟨rfl, rfl, Nat.zero_lt_succ _, numV_lt _, numV_lt _⟩ : Req.ok ⟨5, z32, 0, (numV l), (numV (numL l)), [], z32, []⟩) _ _) (by exact rcs_length (⟨rfl, rfl, Nat.zero_lt_succ _, numV_lt _, numV_lt _⟩ : Req.ok ⟨5, z32, 0, (numV l), (numV (numL l)), [], z32, []⟩) _ _) ?_)))
    refine (enc28 ⟨5, z32, 0, (numV l), (numV (numL l)), [], z32, []⟩ (.slice none 0 0) (.slice none 0 0) _ (⟨rfl, rfl, Nat.zero_lt_succ _, numV_lt _, numV_lt _⟩ : Req.ok ⟨5, z32, 0, (numV l), (numV (numL l)), [], z32, []⟩) (HB.nil _ _ _) (HB.nil _ _ _) (by exact Nat.zero_le _) (by exact Nat.zero_le _)).mono ?_
    rintro e Wn ⟨ve, rfl, hb⟩
    have hS := HS.out.take hb
    clear hb HS
    have HS := Lib.hid hS
    clear hS
    unfold chkI encOQ at *
    obtain ⟨Ae, ke, rfl⟩ := Row.sl (HS.out.res (i := 0) rfl)
    cases hc : chkQ ⟨5, z32, 0, (numV l), (numV (numL l)), [], z32, []⟩ with
    | false =>
      rw [hc] at HS
      have HD := Lib.hid (HNO.out (fun h => by rw [hc] at h; cases h))
      simp only [Bool.false_eq_true, ↓reduceIte] at HS ⊢
      go_wp2_with (first
        | (refine atd 155 (by rfl) ?_; refine wl (by rfl) (wp_of_run (run_b56z (by rfl)) ?_))
        | (refine sto 2 (by rfl) ?_; refine wl (by rfl) (s_sta (cs := rcs (zq 0) (.slice none 0 0) (.slice none 0 0)) HS.out 3 70 (by rfl) (by rfl) (by rfl) ag56 (by rfl) (by exact rcs_length (zq_ok 0) _ _) (by exact cells_rq _ rfl rfl) (by exact Nat.le_of_eq (rcs_length (zq_ok _) _ _).symm) ?_); intro Wn hS; rw [splice_all ((rcs_length (zq_ok 0) _ _).trans (rcs_length (zq_ok _) _ _).symm)] at hS; clear HS; have HS := Lib.hid hS; clear hS))
      exact bodyPost_ret (ret_ct56 (p := 2) (u := 3) rfl _ b2 _ 56 (0, 0) _ (by rfl) (by rfl) (HS.out.blk (i := 3) rfl) (by rw [List.size_toArray]; exact rcs_length (zq_ok 0) _ _)) rfl ⟨zq 0, (.slice none 0 0), (.slice none 0 0), 290, rfl, HD.out, (((((HS.out.sub 0).sub 0).sub 0).sub 0).dropF (Gs := []) (fun G hG => by cases hG)).nilRow.nilRow⟩
    | true =>
      rw [hc] at HS
      simp only [↓reduceIte] at HS ⊢
      by_cases hd : encQ ⟨5, z32, 0, (numV l), (numV (numL l)), [], z32, []⟩ = 5 :: l
      · have HP : DecP (5 :: l) ⟨5, z32, 0, (numV l), (numV (numL l)), [], z32, []⟩ 0 := ⟨(⟨rfl, rfl, Nat.zero_lt_succ _, numV_lt _, numV_lt _⟩ : Req.ok ⟨5, z32, 0, (numV l), (numV (numL l)), [], z32, []⟩), .inl ⟨rfl, hc, hd⟩⟩
        rw [hd] at HS ⊢
        clear hd
        go_wp2_with (first
          | (refine atd 150 (by rfl) ?_; refine wl (by rfl) (wp_of_run (run_str (xs := (5 :: l)) (by rfl) (by rfl) (Row.hb (l := (5 :: l)) (HS.out.res (i := 0) rfl))) ?_))
          | (refine atd 152 (by rfl) ?_; refine wl (by rfl) (wp_of_run (run_str (xs := 5 :: l) (by rfl) (by rfl) (HS.out.fact (i := 0) rfl)) ?_))
          | (refine atd 156 (by rfl) ?_; refine wl (by rfl) (s_lda (cs := rcs ⟨5, z32, 0, (numV l), (numV (numL l)), [], z32, []⟩ (.slice none 0 0) (.slice none 0 0)) HS.out 2 70 (by rfl) (by rfl) (by rfl) ag56 (by exact rcs_all (⟨rfl, rfl, Nat.zero_lt_succ _, numV_lt _, numV_lt _⟩ : Req.ok ⟨5, z32, 0, (numV l), (numV (numL l)), [], z32, []⟩) _ _) (by exact rcs_length (⟨rfl, rfl, Nat.zero_lt_succ _, numV_lt _, numV_lt _⟩ : Req.ok ⟨5, z32, 0, (numV l), (numV (numL l)), [], z32, []⟩) _ _) ?_))
          | (refine sto 2 (by rfl) ?_; refine wl (by rfl) (s_sta (cs := rcs ⟨5, z32, 0, (numV l), (numV (numL l)), [], z32, []⟩ (.slice none 0 0) (.slice none 0 0)) HS.out 3 70 (by rfl) (by rfl) (by rfl) ag56 (by rfl) (by exact rcs_length (⟨rfl, rfl, Nat.zero_lt_succ _, numV_lt _, numV_lt _⟩ : Req.ok ⟨5, z32, 0, (numV l), (numV (numL l)), [], z32, []⟩) _ _) (by exact cells_rq _ rfl rfl) (by exact Nat.le_of_eq (rcs_length (zq_ok _) _ _).symm) ?_); intro Wn hS; rw [splice_all ((rcs_length (⟨rfl, rfl, Nat.zero_lt_succ _, numV_lt _, numV_lt _⟩ : Req.ok ⟨5, z32, 0, (numV l), (numV (numL l)), [], z32, []⟩) _ _).trans (rcs_length (zq_ok _) _ _).symm)] at hS; clear HS; have HS := Lib.hid hS; clear hS))
        exact bodyPost_ret (ret_ct56 (p := 2) (u := 3) rfl _ b2 _ 56 (0, 0) _ (by rfl) (by rfl) (HS.out.blk (i := 3) rfl) (by rw [List.size_toArray]; exact rcs_length (⟨rfl, rfl, Nat.zero_lt_succ _, numV_lt _, numV_lt _⟩ : Req.ok ⟨5, z32, 0, (numV l), (numV (numL l)), [], z32, []⟩) _ _)) rfl ⟨⟨5, z32, 0, (numV l), (numV (numL l)), [], z32, []⟩, (.slice none 0 0), (.slice none 0 0), 0, rfl, HP, (((((HS.out.sub 0).sub 0).sub 0).sub 0).dropF (Gs := []) (fun G hG => by cases hG)).nilRow.nilRow⟩
      · have HP := HNO.out (fun _ => hd)
        have hne : (encQ ⟨5, z32, 0, (numV l), (numV (numL l)), [], z32, []⟩ == (5 :: l)) = false := beq_eq_false_iff_ne.2 hd
        clear hd
        go_wp2_with (first
          | (refine atd 150 (by rfl) ?_; refine wl (by rfl) (wp_of_run (run_str (xs := (encQ ⟨5, z32, 0, (numV l), (numV (numL l)), [], z32, []⟩)) (by rfl) (by rfl) (Row.hb (l := (encQ ⟨5, z32, 0, (numV l), (numV (numL l)), [], z32, []⟩)) (HS.out.res (i := 0) rfl))) ?_))
          | (refine atd 152 (by rfl) ?_; refine wl (by rfl) (wp_of_run (run_str (xs := 5 :: l) (by rfl) (by rfl) (HS.out.fact (i := 0) rfl)) ?_))
          | (refine atd 155 (by rfl) ?_; refine wl (by rfl) (wp_of_run (run_b56z (by rfl)) ?_))
          | (refine sto 2 (by rfl) ?_; refine wl (by rfl) (s_sta (cs := rcs (zq 0) (.slice none 0 0) (.slice none 0 0)) HS.out 3 70 (by rfl) (by rfl) (by rfl) ag56 (by rfl) (by exact rcs_length (zq_ok 0) _ _) (by exact cells_rq _ rfl rfl) (by exact Nat.le_of_eq (rcs_length (zq_ok _) _ _).symm) ?_); intro Wn hS; rw [splice_all ((rcs_length (zq_ok 0) _ _).trans (rcs_length (zq_ok _) _ _).symm)] at hS; clear HS; have HS := Lib.hid hS; clear hS))
        exact bodyPost_ret (ret_ct56 (p := 2) (u := 3) rfl _ b2 _ 56 (0, 0) _ (by rfl) (by rfl) (HS.out.blk (i := 3) rfl) (by rw [List.size_toArray]; exact rcs_length (zq_ok 0) _ _)) rfl ⟨zq 0, (.slice none 0 0), (.slice none 0 0), 290, rfl, HP, (((((HS.out.sub 0).sub 0).sub 0).sub 0).dropF (Gs := []) (fun G hG => by cases hG)).nilRow.nilRow⟩
end
section
open Go Go.RowKit Go.Proofs
attribute [local irreducible] Calls
set_option maxHeartbeats 2000000 in
set_option maxRecDepth 100000 in
theorem dec30fs (ad : Addr) (N c M c1 : Nat) (A1 : Option Addr) (l : List UInt8) (w : World) (hv : HB w (.slice (some ad) N c) (6 :: l)) (hl : HB w (.slice A1 M c1) l) (hN : N = M + 1) (hM : l.length = M) (hM2 : M ≤ 5000) (hc0 : Away (Keys []) (fun W => W.cell? (ad.add 0) = some (.int .u8 6)) w) (hs1 : ∀ W, (Instr.slice 22 (.slice (some ad) N c) (some (.int .i64 1)) none none).run Try.prog W = .ok (.slice A1 M c1) W) (h32 : M < 32) :
    Calls Try.prog 30 #[.slice (some ad) N c] w fun e w' => ∃ r s b c, e = .returned (.tuple #[.agg (rcs r s b).toArray, .int .i64 c]) ∧ DecP (6 :: l) r c ∧ St w w' [Row s 5 1 r.sb.length (bs r.sb), Row b 5 1 r.bb.length (bs r.bb)] [] := by
  have z0 : ((N : Int) == 0) = false := beq_eq_false_iff_ne.2 (by omega)
  have z1 : (0 : Int) < (N : Int) := by omega
  have HS := Lib.hid (((((St.start w).addF hl.away0).addF hc0).addF hv.away0))
  have HM := Lib.hid hM
  have d32 : decide ((M : Int) < 32) = true := decide_eq_true (by omega)
  have HD := Lib.hid (show DecP (6 :: l) (zq 0) 290 from ⟨zq_ok 0, .inr ⟨rfl, rfl, fun r' hr hc he => by have := encQ_len3 hr he (by decide) hc; omega⟩⟩)
  clear hv hl hM hN hc0
  go_enter Try.func30, Try.ntmps30
  go_wp2_with (first
    | (refine atd 2 (by rfl) ?_; refine wl (by rfl) (s_al (l := rcs (zq 0) (.slice none 0 0) (.slice none 0 0)) HS.out (by rfl) z56 (by rfl) ?_); intro b2 Wn hS; clear HS; have HS := Lib.hid hS; clear hS)
    | (refine atd 20 (by rfl) ?_; refine wl (by rfl) (wp_of_run (run_ld (v := .int .u8 6) (by kernel_rfl) (by rfl) (by rfl) (HS.out.fact (i := 1) rfl)) ?_))
    | (refine atd 22 (by rfl) ?_; refine wl (by rfl) (wp_of_run (run_b56 (k := 6) (by rfl) (by rfl)) ?_))
    | (refine atd 4 (by rfl) ?_; refine wl (by rfl) (s_al (l := rcs (zq 0) (.slice none 0 0) (.slice none 0 0)) HS.out (by rfl) z56 (by rfl) ?_); intro b4 Wn hS; clear HS; have HS := Lib.hid hS; clear hS)
    | (refine sto 4 (by rfl) ?_; refine wl (by rfl) (s_sta (cs := rcs (zq 6) (.slice none 0 0) (.slice none 0 0)) HS.out 0 70 (by rfl) (by rfl) (by rfl) ag56 (by rfl) (by exact rcs_length (zq_ok _) _ _) (by exact cells_rq _ rfl rfl) (by exact Nat.le_of_eq (rcs_length (zq_ok _) _ _).symm) ?_); intro Wn hS; rw [splice_all ((rcs_length (zq_ok _) _ _).trans (rcs_length (zq_ok _) _ _).symm)] at hS; have hS : St w Wn [Blk b4 (rcs ⟨6, z32, 0, 0, 0, [], z32, []⟩ (.slice none 0 0) (.slice none 0 0)) 56, Blk b2 (rcs (zq 0) (.slice none 0 0) (.slice none 0 0)) 56] _ := hS; clear HS; have HS := Lib.hid hS; clear hS)
    | (refine atd 26 (by rfl) ?_; refine wl (by rfl) (s_ld (v := .int .i64 6) HS.out 0 (by rfl) (by rfl) (by rfl) (by kernel_rfl) (by exact rcs_0 _ _) ?_))
    | (refine atd 30 (by rfl) ?_; refine wl (by rfl) (s_ld (v := .int .i64 6) HS.out 0 (by rfl) (by rfl) (by rfl) (by kernel_rfl) (by exact rcs_0 _ _) ?_))
    | (refine atd 35 (by rfl) ?_; refine wl (by rfl) (s_ld (v := .int .i64 6) HS.out 0 (by rfl) (by rfl) (by rfl) (by kernel_rfl) (by exact rcs_0 _ _) ?_))
    | (refine atd 40 (by rfl) ?_; refine wl (by rfl) (s_ld (v := .int .i64 6) HS.out 0 (by rfl) (by rfl) (by rfl) (by kernel_rfl) (by exact rcs_0 _ _) ?_))
    | (refine atd 46 (by rfl) ?_; refine wl (by rfl) (wp_of_run (run_b56z (by rfl)) ?_))
    | (refine sto 2 (by rfl) ?_; refine wl (by rfl) (s_sta (cs := rcs (zq 0) (.slice none 0 0) (.slice none 0 0)) HS.out 1 70 (by rfl) (by rfl) (by rfl) ag56 (by rfl) (by exact rcs_length (zq_ok 0) _ _) (by exact cells_rq _ rfl rfl) (by exact Nat.le_of_eq (rcs_length (zq_ok _) _ _).symm) ?_); intro Wn hS; rw [splice_all ((rcs_length (zq_ok 0) _ _).trans (rcs_length (zq_ok _) _ _).symm)] at hS; clear HS; have HS := Lib.hid hS; clear hS))
  exact bodyPost_ret (ret_ct56 (p := 2) (u := 3) rfl _ b2 _ 56 (0, 0) _ (by rfl) (by rfl) (HS.out.blk (i := 1) rfl) (by rw [List.size_toArray]; exact rcs_length (zq_ok 0) _ _)) rfl ⟨zq 0, (.slice none 0 0), (.slice none 0 0), 290, rfl, HD.out, (((HS.out.sub 0).sub 0).dropF (Gs := []) (fun G hG => by cases hG)).nilRow.nilRow⟩
set_option maxHeartbeats 2000000 in
set_option maxRecDepth 100000 in
theorem dec30f (ad : Addr) (N c M c1 : Nat) (A1 : Option Addr) (l : List UInt8) (w : World) (hv : HB w (.slice (some ad) N c) (6 :: l)) (hl : HB w (.slice A1 M c1) l) (hN : N = M + 1) (hM : l.length = M) (hM2 : M ≤ 5000) (hc0 : Away (Keys []) (fun W => W.cell? (ad.add 0) = some (.int .u8 6)) w) (hs1 : ∀ W, (Instr.slice 22 (.slice (some ad) N c) (some (.int .i64 1)) none none).run Try.prog W = .ok (.slice A1 M c1) W) (A2 : Option Addr) (M2 c2 : Nat) (R : List UInt8) (h32 : 32 ≤ M) (hr : HB w (.slice A2 M2 c2) R) (hR : R.length = M2) (hRl : R = hshL l) (hM22 : M2 ≤ 5000) (hs32 : ∀ W, (Instr.slice 22 (.slice A1 M c1) (some (.int .i64 32)) none none).run Try.prog W = .ok (.slice A2 M2 c2) W) (a1 : Addr) (ha1 : A1 = some a1) :
    Calls Try.prog 30 #[.slice (some ad) N c] w fun e w' => ∃ r s b c, e = .returned (.tuple #[.agg (rcs r s b).toArray, .int .i64 c]) ∧ DecP (6 :: l) r c ∧ St w w' [Row s 5 1 r.sb.length (bs r.sb), Row b 5 1 r.bb.length (bs r.bb)] [] := by
  have z0 : ((N : Int) == 0) = false := beq_eq_false_iff_ne.2 (by omega)
  have z1 : (0 : Int) < (N : Int) := by omega
  have HS := Lib.hid ((((((St.start w).addF hr.away0).addF hl.away0).addF hc0).addF hv.away0))
  have HM := Lib.hid hM
  have hrq : rdF (fldK (((6 : UInt8).toNat : Nat) : Int)) (((6 : UInt8).toNat : Nat) : Int) l = ⟨6, (hshV l), (numV R), (numV (numL R)), 0, [], z32, []⟩ := by rw [hRl]; rfl
  have HNO := Lib.hid (show (chkQ ⟨6, (hshV l), (numV R), (numV (numL R)), 0, [], z32, []⟩ = true → encQ ⟨6, (hshV l), (numV R), (numV (numL R)), 0, [], z32, []⟩ ≠ 6 :: l) → DecP (6 :: l) (zq 0) 290 from fun h => DecP.no fun r e hc => by rw [hrq] at e; subst e; exact h hc)
  clear hrq
  have HHV := Lib.hid (hshV_len l)
  have d32 : decide ((M : Int) < 32) = false := decide_eq_false (by omega)
  have HFL := Lib.hid (show 32 ≤ l.length by omega)
  have HR' := Lib.hid hr
  have HRL := Lib.hid hR; have HRE := Lib.hid hRl
  clear hr hR hRl
  have hb1 := numV_lt R
  have hb8 := numV_lt (numL R)
  clear hv hl hM hN hc0
  go_enter Try.func30, Try.ntmps30
  go_wp2_with (first
    | (refine atd 2 (by rfl) ?_; refine wl (by rfl) (s_al (l := rcs (zq 0) (.slice none 0 0) (.slice none 0 0)) HS.out (by rfl) z56 (by rfl) ?_); intro b2 Wn hS; clear HS; have HS := Lib.hid hS; clear hS)
    | (refine atd 20 (by rfl) ?_; refine wl (by rfl) (wp_of_run (run_ld (v := .int .u8 6) (by kernel_rfl) (by rfl) (by rfl) (HS.out.fact (i := 1) rfl)) ?_))
    | (refine atd 22 (by rfl) ?_; refine wl (by rfl) (wp_of_run (run_b56 (k := 6) (by rfl) (by rfl)) ?_))
    | (refine atd 4 (by rfl) ?_; refine wl (by rfl) (s_al (l := rcs (zq 0) (.slice none 0 0) (.slice none 0 0)) HS.out (by rfl) z56 (by rfl) ?_); intro b4 Wn hS; clear HS; have HS := Lib.hid hS; clear hS)
    | (refine sto 4 (by rfl) ?_; refine wl (by rfl) (s_sta (cs := rcs (zq 6) (.slice none 0 0) (.slice none 0 0)) HS.out 0 70 (by rfl) (by rfl) (by rfl) ag56 (by rfl) (by exact rcs_length (zq_ok _) _ _) (by exact cells_rq _ rfl rfl) (by exact Nat.le_of_eq (rcs_length (zq_ok _) _ _).symm) ?_); intro Wn hS; rw [splice_all ((rcs_length (zq_ok _) _ _).trans (rcs_length (zq_ok _) _ _).symm)] at hS; have hS : St w Wn [Blk b4 (rcs ⟨6, z32, 0, 0, 0, [], z32, []⟩ (.slice none 0 0) (.slice none 0 0)) 56, Blk b2 (rcs (zq 0) (.slice none 0 0) (.slice none 0 0)) 56] _ := hS; clear HS; have HS := Lib.hid hS; clear hS)
    | (refine atd 26 (by rfl) ?_; refine wl (by rfl) (s_ld (v := .int .i64 6) HS.out 0 (by rfl) (by rfl) (by rfl) (by kernel_rfl) (by exact rcs_0 _ _) ?_))
    | (refine atd 30 (by rfl) ?_; refine wl (by rfl) (s_ld (v := .int .i64 6) HS.out 0 (by rfl) (by rfl) (by rfl) (by kernel_rfl) (by exact rcs_0 _ _) ?_))
    | (refine atd 35 (by rfl) ?_; refine wl (by rfl) (s_ld (v := .int .i64 6) HS.out 0 (by rfl) (by rfl) (by rfl) (by kernel_rfl) (by exact rcs_0 _ _) ?_))
    | (refine atd 40 (by rfl) ?_; refine wl (by rfl) (s_ld (v := .int .i64 6) HS.out 0 (by rfl) (by rfl) (by rfl) (by kernel_rfl) (by exact rcs_0 _ _) ?_)))
  subst ha1
  go_loopw [6] (fun s6 wr => ∃ i : Nat, i ≤ 32 ∧ s6 = .int .i64 (i : Int) ∧ St w wr [Blk b4 (rcs ⟨6, z32, 0, 0, 0, [], (hfill l i), []⟩ (.slice none 0 0) (.slice none 0 0)) 56, Blk b2 (rcs (zq 0) (.slice none 0 0) (.slice none 0 0)) 56] [fun W => HB W (.slice (some ad) N c) (6 :: l), fun W => W.cell? (ad.add 0) = some (.int .u8 6), fun W => HB W (.slice (some a1) M c1) l, fun W => HB W (.slice A2 M2 c2) R]) (fun s6 _ => 32 - (intOf s6).toNat)
  case atStart => exact ⟨0, by omega, rfl, by rw [hfill_0]; exact HS.out⟩
  case round =>
    obtain ⟨i, hi, rfl, hs⟩ := hrel
    clear HS
    have HS := Lib.hid hs
    clear hs
    by_cases hlt : i < 32
    · have j1 : (i : Int) < 32 := by omega
      have j2 : (i : Int) < (M : Int) := by omega
      have hil : i < l.length := by have := HM.out; omega
      have hx : l[i]? = some l[i] := List.getElem?_eq_getElem hil
      generalize l[i] = x at hx
      have HX := Lib.hid hx
      clear hx
      go_wp2_with (first
        | (refine atd 55 (by rfl) ?_; refine wl (by rfl) (wp_of_run (run_ld (v := .int .u8 (x.toNat : Int)) (by kernel_rfl) (by rfl) (by rfl) (hb_at (HS.out.fact (i := 2) rfl) HX.out)) ?_))
        | (refine sto 57 (by rfl) ?_; refine wl (by rfl) (s_st (k := 37 + i) (v := .int .u8 (x.toNat : Int)) HS.out 0 (by rfl) (by rfl) (by rfl) (by kernel_rfl) (by rfl) (by rfl) (by rw [rcs_length (⟨rfl, hfill_len HFL.out hi, Nat.zero_lt_succ _, Nat.zero_lt_succ _, Nat.zero_lt_succ _⟩ : Req.ok ⟨6, z32, 0, 0, 0, [], (hfill l i), []⟩)]; omega) ?_); intro Wn hS; rw [rcs_fill _ _ HFL.out hlt x HX.out] at hS; clear HS; have HS := Lib.hid hS; clear hS))
      exact ⟨⟨i + 1, by omega, by push_cast; rfl, HS.out⟩, by simp [intOf]; omega⟩
    have hi32 : i = 32 := by omega
    subst hi32
    have j1 : ¬ (((32 : Nat) : Int) < 32) := by decide
    have hS := HS.out
    rw [hfill_32 HFL.out] at hS
    clear HS
    have HS := Lib.hid hS
    clear hS hlt
    go_wp2_with fail
    go_loopw [7, 8] (fun s7 s8 wr => ∃ (j : Nat) (v7 : Value), j ≤ 2 ∧ 4 * j ≤ M2 ∧ s8 = .int .i64 ((4 * j : Nat) : Int) ∧ s7 = v7 ∧ St w wr [Row v7 48 1 j (nums R j), Blk b4 (rcs ⟨6, z32, 0, 0, 0, [], (hshV l), []⟩ (.slice none 0 0) (.slice none 0 0)) 56, Blk b2 (rcs (zq 0) (.slice none 0 0) (.slice none 0 0)) 56] [fun W => HB W (.slice (some ad) N c) (6 :: l), fun W => W.cell? (ad.add 0) = some (.int .u8 6), fun W => HB W (.slice (some a1) M c1) l, fun W => HB W (.slice A2 M2 c2) R]) (fun _ s8 _ => 8 - (intOf s8).toNat)
    case atStart => exact ⟨0, _, by omega, by omega, rfl, rfl, HS.out.nilRowE 48 1⟩
    case round =>
      obtain ⟨j, v7, hj, hj4, rfl, rfl, hs⟩ := hrel
      clear HS
      have HS := Lib.hid hs
      clear hs
      by_cases hm : 4 * j + 4 ≤ M2
      · have m1 : ((4 * j : Nat) : Int) + 4 ≤ (M2 : Int) := by omega
        have m1' : 4 * (j : Int) + 4 ≤ (M2 : Int) := by omega
        by_cases h2 : j < 2
        · have m2 : ((4 * j : Nat) : Int) < 8 := by omega
          have m2' : 4 * (j : Int) < 8 := by omega
          obtain ⟨AQ, cQ, hQs, hQ⟩ : ∃ AQ cQ, (∀ W, (Instr.slice 22 (.slice A2 M2 c2) (some (.int .i64 (4 * (j : Int)))) (some (.int .i64 (4 * (j : Int) + 4))) none).run Try.prog W = .ok (.slice AQ 4 cQ) W) ∧ ∀ W, HB W (.slice A2 M2 c2) R → HB W (.slice AQ 4 cQ) ((R.drop (4 * j)).take 4) := cut4 (HS.out.fact (i := 3) rfl) hm
          have HQ := Lib.hid hQ
          clear hQ
          have HQl := Lib.hid (show ((R.drop (4 * j)).take 4).length = 4 by rw [List.length_take, List.length_drop, HRL.out]; omega)
          have hn32 := leNum_32 _ HQl.out
          have HNS := Lib.hid (nums_succ R j)
          obtain ⟨n, hn⟩ : ∃ n, leNum ((R.drop (4 * j)).take 4) = n := ⟨_, rfl⟩
          rw [hn] at hn32 HNS
          have HNE := Lib.hid hn
          clear hn
          go_wp2_with (first
            | (go_at_call 38; refine (rnum_any _ _ _ (HQ.out _ (HS.out.fact (i := 3) rfl)) (by rw [HQl.out]; decide)).mono ?_; rw [HNE.out]; rintro e Wn ⟨rfl, hb⟩; have hS := HS.out.call hb; clear hb; clear HS; have HS := Lib.hid hS; clear hS)
            | (refine atd 79 (by rfl) ?_; refine wl (by rfl) (s_bs (E := 48) (z := (.int .u32 0)) HS.out 1 1 [.int .u32 (n : Int)] (by rfl) Try.underlying95 (by kernel_rfl) (by rfl) (by decide) (by decide) (by kernel_rfl) (by rfl) (by decide) ?_); intro b79 Wn hS; clear HS; have HS := Lib.hid hS; clear hS)
            | (refine atd 80 (by rfl) ?_; refine wl (by rfl) (s_rows (size := 1) (bytes := 4) (z := .int .u32 0) HS.out 1 0 (by rfl) Try.underlying95 (by kernel_rfl) (by rfl) (by decide) (by rfl) (by rfl) (by rfl) (by rfl) (by intro u hu; simp at hu; subst hu; rfl) (by omega) (by omega) ?_); intro v80 Wn hS; replace hS := hS.sub 0; clear HS; have HS := Lib.hid hS; clear hS))
          have hS := HS.out
          rw [show nums R j ++ [.int .u32 (n : Int)] = nums R (j + 1) from HNS.out.symm] at hS
          exact ⟨⟨j + 1, _, by omega, by omega, by push_cast; rfl, rfl, hS⟩, by simp [intOf]; omega⟩
        have m2 : ¬ ((4 * j : Nat) : Int) < 8 := by omega
        have m2' : ¬ 4 * (j : Int) < 8 := by omega
        have HNE := Lib.hid (nums_end (R := R) hj (by rw [HRL.out]; exact hj4) (by rw [HRL.out]; exact .inl (by omega)))
        have i07 : (0 : Int) < (j : Int) + 2 := by omega
        have i17 : (1 : Int) < (j : Int) + 2 := by omega
        go_wp2_with (first
          | (refine atd 82 (by rfl) ?_; refine wl (by rfl) (s_bs (E := 48) (z := (.int .u32 0)) HS.out 2 1 [.int .u32 0, .int .u32 0] (by rfl) Try.underlying95 (by kernel_rfl) (by rfl) (by decide) (by decide) (by kernel_rfl) (by rfl) (by decide) ?_); intro b82 Wn hS; clear HS; have HS := Lib.hid hS; clear hS)
          | (refine atd 83 (by rfl) ?_; refine wl (by rfl) (s_rows (size := 1) (bytes := 4) (z := .int .u32 0) HS.out 1 0 (by rfl) Try.underlying95 (by kernel_rfl) (by rfl) (by decide) (by rfl) (by rfl) (by rfl) (by rfl) (by intro u hu; simp at hu; rcases hu with rfl | rfl <;> rfl) (by omega) (by omega) ?_); intro v83 Wn hS; replace hS := hS.sub 0; clear HS; have HS := Lib.hid hS; clear hS; obtain ⟨g7, c7, rfl⟩ := rowE_some (HS.out.res (i := 0) rfl) (by omega))
          | (refine atd 85 (by rfl) ?_; refine wl (by rfl) (s_ld (v := .int .i64 6) HS.out 1 (by rfl) (by rfl) (by rfl) (by kernel_rfl) (by exact rcs_0 _ _) ?_)))
        refine wp_region_pi [(0, true), (2, true), (3, true), (4, true), (1, false), (5, true), (6, true), (7, false)] (by kernel_rfl) (by kernel_rfl) rfl (by kernel_rfl) (fun _ _ _ _ _ h => h) (fun w' => St w w' [Row (.slice (some ⟨g7, 0, none⟩) (j + 2) c7) 48 1 (j + 2) (nums R j ++ [Value.int .u32 0, Value.int .u32 0])] [fun W => HB W (.slice (some ad) N c) (6 :: l), fun W => W.cell? (ad.add 0) = some (.int .u8 6), fun W => HB W (.slice (some a1) M c1) l, fun W => HB W (.slice A2 M2 c2) R]) ((HS.out.drew.sub 1).sub 1) ?_
        intro OPS hops
        have hS := HS.out.drew
        clear HS; have HS := Lib.hid hS; clear hS
        iterate 4
          first | (refine wpPi_yield _ (by rw [hops.out]; simp only [List.getElem?_toArray, List.getElem?_cons_succ, List.getElem?_cons_zero]; rfl) (by first | rfl | (rw [hops.out]; rfl)) (fun w' hS => by first | exact run_ld (v := .int .u32 ((numV R : Nat) : Int)) (by kernel_rfl) (by rfl) (by rfl) (rowE_cell (hS.res (i := 0) rfl) HNE.out.1) | exact run_b54 (by rfl) (by rfl) (by rfl) HHV.out | (go_simp; rfl)) ?_; simp only [Act.put, List.setIfInBounds_toArray, List.set_cons_succ, List.set_cons_zero]) | (refine wpPi_skip (by rw [hops.out]; simp only [List.getElem?_toArray, List.getElem?_cons_succ, List.getElem?_cons_zero]; rfl) (by first | rfl | (rw [hops.out]; rfl)) ?_; simp only [Act.put, List.setIfInBounds_toArray, List.set_cons_succ, List.set_cons_zero])
        refine wpPi_act (by rw [hops.out]; simp only [List.getElem?_toArray, List.getElem?_cons_succ, List.getElem?_cons_zero]; rfl) (by first | rfl | (rw [hops.out]; rfl)) ?_
        refine s_lda (cs := bs (hshV l)) HS.out 1 32 (by rfl) (by rfl) (by rfl) ag52 (by exact rcs_ha (⟨rfl, HHV.out, Nat.zero_lt_succ _, Nat.zero_lt_succ _, Nat.zero_lt_succ _⟩ : Req.ok ⟨6, z32, 0, 0, 0, [], (hshV l), []⟩) _ _) (by rw [bs_length]; exact HHV.out) ?_
        refine ⟨((HS.out.sub 1).sub 1), ?_⟩
        try simp only [Act.put, List.setIfInBounds_toArray, List.set_cons_succ, List.set_cons_zero]
        iterate 2
          first | (refine wpPi_yield _ (by rw [hops.out]; simp only [List.getElem?_toArray, List.getElem?_cons_succ, List.getElem?_cons_zero]; rfl) (by first | rfl | (rw [hops.out]; rfl)) (fun w' hS => by first | exact run_ld (v := .int .u32 ((numV R : Nat) : Int)) (by kernel_rfl) (by rfl) (by rfl) (rowE_cell (hS.res (i := 0) rfl) HNE.out.1) | exact run_b54 (by rfl) (by rfl) (by rfl) HHV.out | (go_simp; rfl)) ?_; simp only [Act.put, List.setIfInBounds_toArray, List.set_cons_succ, List.set_cons_zero]) | (refine wpPi_skip (by rw [hops.out]; simp only [List.getElem?_toArray, List.getElem?_cons_succ, List.getElem?_cons_zero]; rfl) (by first | rfl | (rw [hops.out]; rfl)) ?_; simp only [Act.put, List.setIfInBounds_toArray, List.set_cons_succ, List.set_cons_zero])
        refine wpPi_act (by rw [hops.out]; simp only [List.getElem?_toArray, List.getElem?_cons_succ, List.getElem?_cons_zero]; rfl) (by first | rfl | (rw [hops.out]; rfl)) ?_
        refine s_sta (cs := bs (hshV l) ++ [.int .u32 ((numV R : Nat) : Int)]) HS.out 1 33 (by rfl) (by rfl) (by rfl) ag54 (by rfl) (by rw [List.length_append, bs_length, HHV.out]; rfl) (by exact one_pt _ _) (by rw [rcs_length (⟨rfl, HHV.out, Nat.zero_lt_succ _, Nat.zero_lt_succ _, Nat.zero_lt_succ _⟩ : Req.ok ⟨6, z32, 0, 0, 0, [], (hshV l), []⟩)]; decide) ?_
        intro Wn hS
        rw [rcs_splPt (hx := HHV.out) (ht := rfl)] at hS
        clear HS; have HS := Lib.hid hS; clear hS
        refine ⟨((HS.out.sub 1).sub 1), ?_⟩
        try simp only [Act.put, List.setIfInBounds_toArray, List.set_cons_succ, List.set_cons_zero]
        simp only [wpPi]
        clear OPS hops
        go_wp2_with (first
          | (refine atd 101 (by rfl) ?_; refine wl (by rfl) (wp_of_run (run_b52z (by rfl)) ?_))
          | (refine sto 102 (by rfl) ?_; refine wl (by rfl) (s_sta (cs := bs z32) HS.out 1 32 (by rfl) (by rfl) (by rfl) ag52 (by rfl) (by rfl) (by exact all_bs _) (by rw [rcs_length (⟨HHV.out, HHV.out, numV_lt _, Nat.zero_lt_succ _, Nat.zero_lt_succ _⟩ : Req.ok ⟨6, (hshV l), (numV R), 0, 0, [], (hshV l), []⟩)]; decide) ?_); intro Wn hS; rw [rcs_splHa (hx := rfl) (ht := HHV.out) (hh := HHV.out)] at hS; clear HS; have HS := Lib.hid hS; clear hS)
          | (refine atd 105 (by rfl) ?_; refine wl (by rfl) (wp_of_run (run_ld (v := .int .u32 ((numV (numL R) : Nat) : Int)) (by kernel_rfl) (by rfl) (by rfl) (rowE_cell (HS.out.res (i := 0) rfl) HNE.out.2)) ?_))
          | (refine sto 106 (by rfl) ?_; refine wl (by rfl) (s_st (v := .int .u32 (((numV (numL R)) : Nat) : Int)) HS.out 1 (by rfl) (by rfl) (by rfl) (by kernel_rfl) (by rfl) (by rfl) (by rw [rcs_length (⟨HHV.out, rfl, numV_lt _, Nat.zero_lt_succ _, Nat.zero_lt_succ _⟩ : Req.ok ⟨6, (hshV l), (numV R), 0, 0, [], z32, []⟩)]; decide) ?_); intro Wn hS; rw [rcs_setH (hx := HHV.out)] at hS; clear HS; have HS := Lib.hid hS; clear hS)
          | (refine atd 142 (by rfl) ?_; refine wl (by rfl) (s_lda (cs := rcs ⟨6, (hshV l), (numV R), (numV (numL R)), 0, [], z32, []⟩ (.slice none 0 0) (.slice none 0 0)) HS.out 1 70 (by rfl) (by rfl) (by rfl) ag56 (by exact rcs_all (⟨HHV.out, rfl, numV_lt _, numV_lt _, Nat.zero_lt_succ _⟩ : Req.ok ⟨6, (hshV l), (numV R), (numV (numL R)), 0, [], z32, []⟩) _ _) (by exact rcs_length (⟨HHV.out, rfl, numV_lt _, numV_lt _, Nat.zero_lt_succ _⟩ : Req.ok ⟨6, (hshV l), (numV R), (numV (numL R)), 0, [], z32, []⟩) _ _) ?_)))
        refine (enc28 ⟨6, (hshV l), (numV R), (numV (numL R)), 0, [], z32, []⟩ (.slice none 0 0) (.slice none 0 0) _ (⟨HHV.out, rfl, numV_lt _, numV_lt _, Nat.zero_lt_succ _⟩ : Req.ok ⟨6, (hshV l), (numV R), (numV (numL R)), 0, [], z32, []⟩) (HB.nil _ _ _) (HB.nil _ _ _) (by exact Nat.zero_le _) (by exact Nat.zero_le _)).mono ?_
        rintro e Wn ⟨ve, rfl, hb⟩
        have hS := HS.out.take hb
        clear hb HS
        have HS := Lib.hid hS
        clear hS
        unfold chkI encOQ at *
        obtain ⟨Ae, ke, rfl⟩ := Row.sl (HS.out.res (i := 0) rfl)
        cases hc : chkQ ⟨6, (hshV l), (numV R), (numV (numL R)), 0, [], z32, []⟩ with
        | false =>
          rw [hc] at HS
          have HD := Lib.hid (HNO.out (fun h => by rw [hc] at h; cases h))
          simp only [Bool.false_eq_true, ↓reduceIte] at HS ⊢
          go_wp2_with (first
            | (refine atd 155 (by rfl) ?_; refine wl (by rfl) (wp_of_run (run_b56z (by rfl)) ?_))
            | (refine sto 2 (by rfl) ?_; refine wl (by rfl) (s_sta (cs := rcs (zq 0) (.slice none 0 0) (.slice none 0 0)) HS.out 3 70 (by rfl) (by rfl) (by rfl) ag56 (by rfl) (by exact rcs_length (zq_ok 0) _ _) (by exact cells_rq _ rfl rfl) (by exact Nat.le_of_eq (rcs_length (zq_ok _) _ _).symm) ?_); intro Wn hS; rw [splice_all ((rcs_length (zq_ok 0) _ _).trans (rcs_length (zq_ok _) _ _).symm)] at hS; clear HS; have HS := Lib.hid hS; clear hS))
          exact bodyPost_ret (ret_ct56 (p := 2) (u := 3) rfl _ b2 _ 56 (0, 0) _ (by rfl) (by rfl) (HS.out.blk (i := 3) rfl) (by rw [List.size_toArray]; exact rcs_length (zq_ok 0) _ _)) rfl ⟨zq 0, (.slice none 0 0), (.slice none 0 0), 290, rfl, HD.out, (((((HS.out.sub 0).sub 0).sub 0).sub 0).dropF (Gs := []) (fun G hG => by cases hG)).nilRow.nilRow⟩
        | true =>
          rw [hc] at HS
          simp only [↓reduceIte] at HS ⊢
          by_cases hd : encQ ⟨6, (hshV l), (numV R), (numV (numL R)), 0, [], z32, []⟩ = 6 :: l
          · have HP : DecP (6 :: l) ⟨6, (hshV l), (numV R), (numV (numL R)), 0, [], z32, []⟩ 0 := ⟨(⟨HHV.out, rfl, numV_lt _, numV_lt _, Nat.zero_lt_succ _⟩ : Req.ok ⟨6, (hshV l), (numV R), (numV (numL R)), 0, [], z32, []⟩), .inl ⟨rfl, hc, hd⟩⟩
            rw [hd] at HS ⊢
            clear hd
            go_wp2_with (first
              | (refine atd 150 (by rfl) ?_; refine wl (by rfl) (wp_of_run (run_str (xs := (6 :: l)) (by rfl) (by rfl) (Row.hb (l := (6 :: l)) (HS.out.res (i := 0) rfl))) ?_))
              | (refine atd 152 (by rfl) ?_; refine wl (by rfl) (wp_of_run (run_str (xs := 6 :: l) (by rfl) (by rfl) (HS.out.fact (i := 0) rfl)) ?_))
              | (refine atd 156 (by rfl) ?_; refine wl (by rfl) (s_lda (cs := rcs ⟨6, (hshV l), (numV R), (numV (numL R)), 0, [], z32, []⟩ (.slice none 0 0) (.slice none 0 0)) HS.out 2 70 (by rfl) (by rfl) (by rfl) ag56 (by exact rcs_all (⟨HHV.out, rfl, numV_lt _, numV_lt _, Nat.zero_lt_succ _⟩ : Req.ok ⟨6, (hshV l), (numV R), (numV (numL R)), 0, [], z32, []⟩) _ _) (by exact rcs_length (⟨HHV.out, rfl, numV_lt _, numV_lt _, Nat.zero_lt_succ _⟩ : Req.ok ⟨6, (hshV l), (numV R), (numV (numL R)), 0, [], z32, []⟩) _ _) ?_))
              | (refine sto 2 (by rfl) ?_; refine wl (by rfl) (s_sta (cs := rcs ⟨6, (hshV l), (numV R), (numV (numL R)), 0, [], z32, []⟩ (.slice none 0 0) (.slice none 0 0)) HS.out 3 70 (by rfl) (by rfl) (by rfl) ag56 (by rfl) (by exact rcs_length (⟨HHV.out, rfl, numV_lt _, numV_lt _, Nat.zero_lt_succ _⟩ : Req.ok ⟨6, (hshV l), (numV R), (numV (numL R)), 0, [], z32, []⟩) _ _) (by exact cells_rq _ rfl rfl) (by exact Nat.le_of_eq (rcs_length (zq_ok _) _ _).symm) ?_); intro Wn hS; rw [splice_all ((rcs_length (⟨HHV.out, rfl, numV_lt _, numV_lt _, Nat.zero_lt_succ _⟩ : Req.ok ⟨6, (hshV l), (numV R), (numV (numL R)), 0, [], z32, []⟩) _ _).trans (rcs_length (zq_ok _) _ _).symm)] at hS; clear HS; have HS := Lib.hid hS; clear hS))
            exact bodyPost_ret (ret_ct56 (p := 2) (u := 3) rfl _ b2 _ 56 (0, 0) _ (by rfl) (by rfl) (HS.out.blk (i := 3) rfl) (by rw [List.size_toArray]; exact rcs_length (⟨HHV.out, rfl, numV_lt _, numV_lt _, Nat.zero_lt_succ _⟩ : Req.ok ⟨6, (hshV l), (numV R), (numV (numL R)), 0, [], z32, []⟩) _ _)) rfl ⟨⟨6, (hshV l), (numV R), (numV (numL R)), 0, [], z32, []⟩, (.slice none 0 0), (.slice none 0 0), 0, rfl, HP, (((((HS.out.sub 0).sub 0).sub 0).sub 0).dropF (Gs := []) (fun G hG => by cases hG)).nilRow.nilRow⟩
          · have HP := HNO.out (fun _ => hd)
            have hne : (encQ ⟨6, (hshV l), (numV R), (numV (numL R)), 0, [], z32, []⟩ == (6 :: l)) = false := beq_eq_false_iff_ne.2 hd
            clear hd
            go_wp2_with (first
              | (refine atd 150 (by rfl) ?_; refine wl (by rfl) (wp_of_run (run_str (xs := (encQ ⟨6, (hshV l), (numV R), (numV (numL R)), 0, [], z32, []⟩)) (by rfl) (by rfl) (Row.hb (l := (encQ ⟨6, (hshV l), (numV R), (numV (numL R)), 0, [], z32, []⟩)) (HS.out.res (i := 0) rfl))) ?_))
              | (refine atd 152 (by rfl) ?_; refine wl (by rfl) (wp_of_run (run_str (xs := 6 :: l) (by rfl) (by rfl) (HS.out.fact (i := 0) rfl)) ?_))
              | (refine atd 155 (by rfl) ?_; refine wl (by rfl) (wp_of_run (run_b56z (by rfl)) ?_))
              | (refine sto 2 (by rfl) ?_; refine wl (by rfl) (s_sta (cs := rcs (zq 0) (.slice none 0 0) (.slice none 0 0)) HS.out 3 70 (by rfl) (by rfl) (by rfl) ag56 (by rfl) (by exact rcs_length (zq_ok 0) _ _) (by exact cells_rq _ rfl rfl) (by exact Nat.le_of_eq (rcs_length (zq_ok _) _ _).symm) ?_); intro Wn hS; rw [splice_all ((rcs_length (zq_ok 0) _ _).trans (rcs_length (zq_ok _) _ _).symm)] at hS; clear HS; have HS := Lib.hid hS; clear hS))
            exact bodyPost_ret (ret_ct56 (p := 2) (u := 3) rfl _ b2 _ 56 (0, 0) _ (by rfl) (by rfl) (HS.out.blk (i := 3) rfl) (by rw [List.size_toArray]; exact rcs_length (zq_ok 0) _ _)) rfl ⟨zq 0, (.slice none 0 0), (.slice none 0 0), 290, rfl, HP, (((((HS.out.sub 0).sub 0).sub 0).sub 0).dropF (Gs := []) (fun G hG => by cases hG)).nilRow.nilRow⟩
      have m1 : ¬ ((4 * j : Nat) : Int) + 4 ≤ (M2 : Int) := by omega
      have m1' : ¬ 4 * (j : Int) + 4 ≤ (M2 : Int) := by omega
      have HNE := Lib.hid (nums_end (R := R) hj (by rw [HRL.out]; exact hj4) (by rw [HRL.out]; exact .inr (by omega)))
      have i07 : (0 : Int) < (j : Int) + 2 := by omega
      have i17 : (1 : Int) < (j : Int) + 2 := by omega
      go_wp2_with (first
        | (refine atd 82 (by rfl) ?_; refine wl (by rfl) (s_bs (E := 48) (z := (.int .u32 0)) HS.out 2 1 [.int .u32 0, .int .u32 0] (by rfl) Try.underlying95 (by kernel_rfl) (by rfl) (by decide) (by decide) (by kernel_rfl) (by rfl) (by decide) ?_); intro b82 Wn hS; clear HS; have HS := Lib.hid hS; clear hS)
        | (refine atd 83 (by rfl) ?_; refine wl (by rfl) (s_rows (size := 1) (bytes := 4) (z := .int .u32 0) HS.out 1 0 (by rfl) Try.underlying95 (by kernel_rfl) (by rfl) (by decide) (by rfl) (by rfl) (by rfl) (by rfl) (by intro u hu; simp at hu; rcases hu with rfl | rfl <;> rfl) (by omega) (by omega) ?_); intro v83 Wn hS; replace hS := hS.sub 0; clear HS; have HS := Lib.hid hS; clear hS; obtain ⟨g7, c7, rfl⟩ := rowE_some (HS.out.res (i := 0) rfl) (by omega))
        | (refine atd 85 (by rfl) ?_; refine wl (by rfl) (s_ld (v := .int .i64 6) HS.out 1 (by rfl) (by rfl) (by rfl) (by kernel_rfl) (by exact rcs_0 _ _) ?_)))
      refine wp_region_pi [(0, true), (2, true), (3, true), (4, true), (1, false), (5, true), (6, true), (7, false)] (by kernel_rfl) (by kernel_rfl) rfl (by kernel_rfl) (fun _ _ _ _ _ h => h) (fun w' => St w w' [Row (.slice (some ⟨g7, 0, none⟩) (j + 2) c7) 48 1 (j + 2) (nums R j ++ [Value.int .u32 0, Value.int .u32 0])] [fun W => HB W (.slice (some ad) N c) (6 :: l), fun W => W.cell? (ad.add 0) = some (.int .u8 6), fun W => HB W (.slice (some a1) M c1) l, fun W => HB W (.slice A2 M2 c2) R]) ((HS.out.drew.sub 1).sub 1) ?_
      intro OPS hops
      have hS := HS.out.drew
      clear HS; have HS := Lib.hid hS; clear hS
      iterate 4
        first | (refine wpPi_yield _ (by rw [hops.out]; simp only [List.getElem?_toArray, List.getElem?_cons_succ, List.getElem?_cons_zero]; rfl) (by first | rfl | (rw [hops.out]; rfl)) (fun w' hS => by first | exact run_ld (v := .int .u32 ((numV R : Nat) : Int)) (by kernel_rfl) (by rfl) (by rfl) (rowE_cell (hS.res (i := 0) rfl) HNE.out.1) | exact run_b54 (by rfl) (by rfl) (by rfl) HHV.out | (go_simp; rfl)) ?_; simp only [Act.put, List.setIfInBounds_toArray, List.set_cons_succ, List.set_cons_zero]) | (refine wpPi_skip (by rw [hops.out]; simp only [List.getElem?_toArray, List.getElem?_cons_succ, List.getElem?_cons_zero]; rfl) (by first | rfl | (rw [hops.out]; rfl)) ?_; simp only [Act.put, List.setIfInBounds_toArray, List.set_cons_succ, List.set_cons_zero])
      refine wpPi_act (by rw [hops.out]; simp only [List.getElem?_toArray, List.getElem?_cons_succ, List.getElem?_cons_zero]; rfl) (by first | rfl | (rw [hops.out]; rfl)) ?_
      refine s_lda (cs := bs (hshV l)) HS.out 1 32 (by rfl) (by rfl) (by rfl) ag52 (by exact rcs_ha (⟨rfl, HHV.out, Nat.zero_lt_succ _, Nat.zero_lt_succ _, Nat.zero_lt_succ _⟩ : Req.ok ⟨6, z32, 0, 0, 0, [], (hshV l), []⟩) _ _) (by rw [bs_length]; exact HHV.out) ?_
      refine ⟨((HS.out.sub 1).sub 1), ?_⟩
      try simp only [Act.put, List.setIfInBounds_toArray, List.set_cons_succ, List.set_cons_zero]
      iterate 2
        first | (refine wpPi_yield _ (by rw [hops.out]; simp only [List.getElem?_toArray, List.getElem?_cons_succ, List.getElem?_cons_zero]; rfl) (by first | rfl | (rw [hops.out]; rfl)) (fun w' hS => by first | exact run_ld (v := .int .u32 ((numV R : Nat) : Int)) (by kernel_rfl) (by rfl) (by rfl) (rowE_cell (hS.res (i := 0) rfl) HNE.out.1) | exact run_b54 (by rfl) (by rfl) (by rfl) HHV.out | (go_simp; rfl)) ?_; simp only [Act.put, List.setIfInBounds_toArray, List.set_cons_succ, List.set_cons_zero]) | (refine wpPi_skip (by rw [hops.out]; simp only [List.getElem?_toArray, List.getElem?_cons_succ, List.getElem?_cons_zero]; rfl) (by first | rfl | (rw [hops.out]; rfl)) ?_; simp only [Act.put, List.setIfInBounds_toArray, List.set_cons_succ, List.set_cons_zero])
      refine wpPi_act (by rw [hops.out]; simp only [List.getElem?_toArray, List.getElem?_cons_succ, List.getElem?_cons_zero]; rfl) (by first | rfl | (rw [hops.out]; rfl)) ?_
      refine s_sta (cs := bs (hshV l) ++ [.int .u32 ((numV R : Nat) : Int)]) HS.out 1 33 (by rfl) (by rfl) (by rfl) ag54 (by rfl) (by rw [List.length_append, bs_length, HHV.out]; rfl) (by exact one_pt _ _) (by rw [rcs_length (⟨rfl, HHV.out, Nat.zero_lt_succ _, Nat.zero_lt_succ _, Nat.zero_lt_succ _⟩ : Req.ok ⟨6, z32, 0, 0, 0, [], (hshV l), []⟩)]; decide) ?_
      intro Wn hS
      rw [rcs_splPt (hx := HHV.out) (ht := rfl)] at hS
      clear HS; have HS := Lib.hid hS; clear hS
      refine ⟨((HS.out.sub 1).sub 1), ?_⟩
      try simp only [Act.put, List.setIfInBounds_toArray, List.set_cons_succ, List.set_cons_zero]
      simp only [wpPi]
      clear OPS hops
      go_wp2_with (first
        | (refine atd 101 (by rfl) ?_; refine wl (by rfl) (wp_of_run (run_b52z (by rfl)) ?_))
        | (refine sto 102 (by rfl) ?_; refine wl (by rfl) (s_sta (cs := bs z32) HS.out 1 32 (by rfl) (by rfl) (by rfl) ag52 (by rfl) (by rfl) (by exact all_bs _) (by rw [rcs_length (⟨HHV.out, HHV.out, numV_lt _, Nat.zero_lt_succ _, Nat.zero_lt_succ _⟩ : Req.ok ⟨6, (hshV l), (numV R), 0, 0, [], (hshV l), []⟩)]; decide) ?_); intro Wn hS; rw [rcs_splHa (hx := rfl) (ht := HHV.out) (hh := HHV.out)] at hS; clear HS; have HS := Lib.hid hS; clear hS)
        | (refine atd 105 (by rfl) ?_; refine wl (by rfl) (wp_of_run (run_ld (v := .int .u32 ((numV (numL R) : Nat) : Int)) (by kernel_rfl) (by rfl) (by rfl) (rowE_cell (HS.out.res (i := 0) rfl) HNE.out.2)) ?_))
        | (refine sto 106 (by rfl) ?_; refine wl (by rfl) (s_st (v := .int .u32 (((numV (numL R)) : Nat) : Int)) HS.out 1 (by rfl) (by rfl) (by rfl) (by kernel_rfl) (by rfl) (by rfl) (by rw [rcs_length (⟨HHV.out, rfl, numV_lt _, Nat.zero_lt_succ _, Nat.zero_lt_succ _⟩ : Req.ok ⟨6, (hshV l), (numV R), 0, 0, [], z32, []⟩)]; decide) ?_); intro Wn hS; rw [rcs_setH (hx := HHV.out)] at hS; clear HS; have HS := Lib.hid hS; clear hS)
        | (refine atd 142 (by rfl) ?_; refine wl (by rfl) (s_lda (cs := rcs ⟨6, (hshV l), (numV R), (numV (numL R)), 0, [], z32, []⟩ (.slice none 0 0) (.slice none 0 0)) HS.out 1 70 (by rfl) (by rfl) (by rfl) ag56 (by exact rcs_all (⟨HHV.out, rfl, numV_lt _, numV_lt _, Nat.zero_lt_succ _⟩ : Req.ok ⟨6, (hshV l), (numV R), (numV (numL R)), 0, [], z32, []⟩) _ _) (by exact rcs_length (⟨HHV.out, rfl, numV_lt _, numV_lt _, Nat.zero_lt_succ _⟩ : Req.ok ⟨6, (hshV l), (numV R), (numV (numL R)), 0, [], z32, []⟩) _ _) ?_)))
      refine (enc28 ⟨6, (hshV l), (numV R), (numV (numL R)), 0, [], z32, []⟩ (.slice none 0 0) (.slice none 0 0) _ (⟨HHV.out, rfl, numV_lt _, numV_lt _, Nat.zero_lt_succ _⟩ : Req.ok ⟨6, (hshV l), (numV R), (numV (numL R)), 0, [], z32, []⟩) (HB.nil _ _ _) (HB.nil _ _ _) (by exact Nat.zero_le _) (by exact Nat.zero_le _)).mono ?_
      rintro e Wn ⟨ve, rfl, hb⟩
      have hS := HS.out.take hb
      clear hb HS
      have HS := Lib.hid hS
      clear hS
      unfold chkI encOQ at *
      obtain ⟨Ae, ke, rfl⟩ := Row.sl (HS.out.res (i := 0) rfl)
      cases hc : chkQ ⟨6, (hshV l), (numV R), (numV (numL R)), 0, [], z32, []⟩ with
      | false =>
        rw [hc] at HS
        have HD := Lib.hid (HNO.out (fun h => by rw [hc] at h; cases h))
        simp only [Bool.false_eq_true, ↓reduceIte] at HS ⊢
        go_wp2_with (first
          | (refine atd 155 (by rfl) ?_; refine wl (by rfl) (wp_of_run (run_b56z (by rfl)) ?_))
          | (refine sto 2 (by rfl) ?_; refine wl (by rfl) (s_sta (cs := rcs (zq 0) (.slice none 0 0) (.slice none 0 0)) HS.out 3 70 (by rfl) (by rfl) (by rfl) ag56 (by rfl) (by exact rcs_length (zq_ok 0) _ _) (by exact cells_rq _ rfl rfl) (by exact Nat.le_of_eq (rcs_length (zq_ok _) _ _).symm) ?_); intro Wn hS; rw [splice_all ((rcs_length (zq_ok 0) _ _).trans (rcs_length (zq_ok _) _ _).symm)] at hS; clear HS; have HS := Lib.hid hS; clear hS))
        exact bodyPost_ret (ret_ct56 (p := 2) (u := 3) rfl _ b2 _ 56 (0, 0) _ (by rfl) (by rfl) (HS.out.blk (i := 3) rfl) (by rw [List.size_toArray]; exact rcs_length (zq_ok 0) _ _)) rfl ⟨zq 0, (.slice none 0 0), (.slice none 0 0), 290, rfl, HD.out, (((((HS.out.sub 0).sub 0).sub 0).sub 0).dropF (Gs := []) (fun G hG => by cases hG)).nilRow.nilRow⟩
      | true =>
        rw [hc] at HS
        simp only [↓reduceIte] at HS ⊢
        by_cases hd : encQ ⟨6, (hshV l), (numV R), (numV (numL R)), 0, [], z32, []⟩ = 6 :: l
        · have HP : DecP (6 :: l) ⟨6, (hshV l), (numV R), (numV (numL R)), 0, [], z32, []⟩ 0 := ⟨(⟨HHV.out, rfl, numV_lt _, numV_lt _, Nat.zero_lt_succ _⟩ : Req.ok ⟨6, (hshV l), (numV R), (numV (numL R)), 0, [], z32, []⟩), .inl ⟨rfl, hc, hd⟩⟩
          rw [hd] at HS ⊢
          clear hd
          go_wp2_with (first
            | (refine atd 150 (by rfl) ?_; refine wl (by rfl) (wp_of_run (run_str (xs := (6 :: l)) (by rfl) (by rfl) (Row.hb (l := (6 :: l)) (HS.out.res (i := 0) rfl))) ?_))
            | (refine atd 152 (by rfl) ?_; refine wl (by rfl) (wp_of_run (run_str (xs := 6 :: l) (by rfl) (by rfl) (HS.out.fact (i := 0) rfl)) ?_))
            | (refine atd 156 (by rfl) ?_; refine wl (by rfl) (s_lda (cs := rcs ⟨6, (hshV l), (numV R), (numV (numL R)), 0, [], z32, []⟩ (.slice none 0 0) (.slice none 0 0)) HS.out 2 70 (by rfl) (by rfl) (by rfl) ag56 (by exact rcs_all (⟨HHV.out, rfl, numV_lt _, numV_lt _, Nat.zero_lt_succ _⟩ : Req.ok ⟨6, (hshV l), (numV R), (numV (numL R)), 0, [], z32, []⟩) _ _) (by exact rcs_length (⟨HHV.out, rfl, numV_lt _, numV_lt _, Nat.zero_lt_succ _⟩ : Req.ok ⟨6, (hshV l), (numV R), (numV (numL R)), 0, [], z32, []⟩) _ _) ?_))
            | (refine sto 2 (by rfl) ?_; refine wl (by rfl) (s_sta (cs := rcs ⟨6, (hshV l), (numV R), (numV (numL R)), 0, [], z32, []⟩ (.slice none 0 0) (.slice none 0 0)) HS.out 3 70 (by rfl) (by rfl) (by rfl) ag56 (by rfl) (by exact rcs_length (⟨HHV.out, rfl, numV_lt _, numV_lt _, Nat.zero_lt_succ _⟩ : Req.ok ⟨6, (hshV l), (numV R), (numV (numL R)), 0, [], z32, []⟩) _ _) (by exact cells_rq _ rfl rfl) (by exact Nat.le_of_eq (rcs_length (zq_ok _) _ _).symm) ?_); intro Wn hS; rw [splice_all ((rcs_length (⟨HHV.out, rfl, numV_lt _, numV_lt _, Nat.zero_lt_succ _⟩ : Req.ok ⟨6, (hshV l), (numV R), (numV (numL R)), 0, [], z32, []⟩) _ _).trans (rcs_length (zq_ok _) _ _).symm)] at hS; clear HS; have HS := Lib.hid hS; clear hS))
          exact bodyPost_ret (ret_ct56 (p := 2) (u := 3) rfl _ b2 _ 56 (0, 0) _ (by rfl) (by rfl) (HS.out.blk (i := 3) rfl) (by rw [List.size_toArray]; exact rcs_length (⟨HHV.out, rfl, numV_lt _, numV_lt _, Nat.zero_lt_succ _⟩ : Req.ok ⟨6, (hshV l), (numV R), (numV (numL R)), 0, [], z32, []⟩) _ _)) rfl ⟨⟨6, (hshV l), (numV R), (numV (numL R)), 0, [], z32, []⟩, (.slice none 0 0), (.slice none 0 0), 0, rfl, HP, (((((HS.out.sub 0).sub 0).sub 0).sub 0).dropF (Gs := []) (fun G hG => by cases hG)).nilRow.nilRow⟩
        · have HP := HNO.out (fun _ => hd)
          have hne : (encQ ⟨6, (hshV l), (numV R), (numV (numL R)), 0, [], z32, []⟩ == (6 :: l)) = false := beq_eq_false_iff_ne.2 hd
          clear hd
          go_wp2_with (first
            | (refine atd 150 (by rfl) ?_; refine wl (by rfl) (wp_of_run (run_str (xs := (encQ ⟨6, (hshV l), (numV R), (numV (numL R)), 0, [], z32, []⟩)) (by rfl) (by rfl) (Row.hb (l := (encQ ⟨6, (hshV l), (numV R), (numV (numL R)), 0, [], z32, []⟩)) (HS.out.res (i := 0) rfl))) ?_))
            | (refine atd 152 (by rfl) ?_; refine wl (by rfl) (wp_of_run (run_str (xs := 6 :: l) (by rfl) (by rfl) (HS.out.fact (i := 0) rfl)) ?_))
            | (refine atd 155 (by rfl) ?_; refine wl (by rfl) (wp_of_run (run_b56z (by rfl)) ?_))
            | (refine sto 2 (by rfl) ?_; refine wl (by rfl) (s_sta (cs := rcs (zq 0) (.slice none 0 0) (.slice none 0 0)) HS.out 3 70 (by rfl) (by rfl) (by rfl) ag56 (by rfl) (by exact rcs_length (zq_ok 0) _ _) (by exact cells_rq _ rfl rfl) (by exact Nat.le_of_eq (rcs_length (zq_ok _) _ _).symm) ?_); intro Wn hS; rw [splice_all ((rcs_length (zq_ok 0) _ _).trans (rcs_length (zq_ok _) _ _).symm)] at hS; clear HS; have HS := Lib.hid hS; clear hS))
          exact bodyPost_ret (ret_ct56 (p := 2) (u := 3) rfl _ b2 _ 56 (0, 0) _ (by rfl) (by rfl) (HS.out.blk (i := 3) rfl) (by rw [List.size_toArray]; exact rcs_length (zq_ok 0) _ _)) rfl ⟨zq 0, (.slice none 0 0), (.slice none 0 0), 290, rfl, HP, (((((HS.out.sub 0).sub 0).sub 0).sub 0).dropF (Gs := []) (fun G hG => by cases hG)).nilRow.nilRow⟩
end
end Go.Proofs.Ytlpklbpaknemaaa
