/- Contracts and words that the laws stand on (ExL). -/
import Derived.Test.YtlpklbpaknemaaaExI
set_option linter.unusedVariables false
set_option linter.unusedSimpArgs false
namespace Go.Proofs.Ytlpklbpaknemaaa
section
open Go Go.RowKit Go.Proofs
attribute [local irreducible] Calls
set_option maxHeartbeats 2000000 in
set_option maxRecDepth 100000 in
theorem dec30g (ad : Addr) (N c M c1 : Nat) (A1 : Option Addr) (l : List UInt8) (w : World) (hv : HB w (.slice (some ad) N c) (7 :: l)) (hl : HB w (.slice A1 M c1) l) (hN : N = M + 1) (hM : l.length = M) (hM2 : M ≤ 5000) (hc0 : Away (Keys []) (fun W => W.cell? (ad.add 0) = some (.int .u8 7)) w) (hs1 : ∀ W, (Instr.slice 22 (.slice (some ad) N c) (some (.int .i64 1)) none none).run Try.prog W = .ok (.slice A1 M c1) W) :
    Calls Try.prog 30 #[.slice (some ad) N c] w fun e w' => ∃ r s b c, e = .returned (.tuple #[.agg (rcs r s b).toArray, .int .i64 c]) ∧ DecP (7 :: l) r c ∧ St w w' [Row s 5 1 r.sb.length (bs r.sb), Row b 5 1 r.bb.length (bs r.bb)] [] := by
  have z0 : ((N : Int) == 0) = false := beq_eq_false_iff_ne.2 (by omega)
  have z1 : (0 : Int) < (N : Int) := by omega
  have HS := Lib.hid (((((St.start w).addF hl.away0).addF hc0).addF hv.away0))
  have HM := Lib.hid hM
  have hrq : rdF (fldK (((7 : UInt8).toNat : Nat) : Int)) (((7 : UInt8).toNat : Nat) : Int) l = ⟨7, z32, 0, (numV l), 0, [], z32, []⟩ := rfl
  have HNO := Lib.hid (show (chkQ ⟨7, z32, 0, (numV l), 0, [], z32, []⟩ = true → encQ ⟨7, z32, 0, (numV l), 0, [], z32, []⟩ ≠ 7 :: l) → DecP (7 :: l) (zq 0) 290 from fun h => DecP.no fun r e hc => by rw [hrq] at e; subst e; exact h hc)
  clear hrq
  have HHV := Lib.hid (hshV_len l)
  have HRL := Lib.hid hM
  have hb1 := numV_lt l
  have hb8 := numV_lt (numL l)
  clear hv hl hM hN hc0
  go_enter Try.func30, Try.ntmps30
  go_wp2_with (first
    | (refine atd 2 (by rfl) ?_; refine wl (by rfl) (s_al (l := rcs (zq 0) (.slice none 0 0) (.slice none 0 0)) HS.out (by rfl) z56 (by rfl) ?_); intro b2 Wn hS; clear HS; have HS := Lib.hid hS; clear hS)
    | (refine atd 20 (by rfl) ?_; refine wl (by rfl) (wp_of_run (run_ld (v := .int .u8 7) (by kernel_rfl) (by rfl) (by rfl) (HS.out.fact (i := 1) rfl)) ?_))
    | (refine atd 22 (by rfl) ?_; refine wl (by rfl) (wp_of_run (run_b56 (k := 7) (by rfl) (by rfl)) ?_))
    | (refine atd 4 (by rfl) ?_; refine wl (by rfl) (s_al (l := rcs (zq 0) (.slice none 0 0) (.slice none 0 0)) HS.out (by rfl) z56 (by rfl) ?_); intro b4 Wn hS; clear HS; have HS := Lib.hid hS; clear hS)
    | (refine sto 4 (by rfl) ?_; refine wl (by rfl) (s_sta (cs := rcs (zq 7) (.slice none 0 0) (.slice none 0 0)) HS.out 0 70 (by rfl) (by rfl) (by rfl) ag56 (by rfl) (by exact rcs_length (zq_ok _) _ _) (by exact cells_rq _ rfl rfl) (by exact Nat.le_of_eq (rcs_length (zq_ok _) _ _).symm) ?_); intro Wn hS; rw [splice_all ((rcs_length (zq_ok _) _ _).trans (rcs_length (zq_ok _) _ _).symm)] at hS; have hS : St w Wn [Blk b4 (rcs ⟨7, z32, 0, 0, 0, [], z32, []⟩ (.slice none 0 0) (.slice none 0 0)) 56, Blk b2 (rcs (zq 0) (.slice none 0 0) (.slice none 0 0)) 56] _ := hS; clear HS; have HS := Lib.hid hS; clear hS)
    | (refine atd 26 (by rfl) ?_; refine wl (by rfl) (s_ld (v := .int .i64 7) HS.out 0 (by rfl) (by rfl) (by rfl) (by kernel_rfl) (by exact rcs_0 _ _) ?_))
    | (refine atd 30 (by rfl) ?_; refine wl (by rfl) (s_ld (v := .int .i64 7) HS.out 0 (by rfl) (by rfl) (by rfl) (by kernel_rfl) (by exact rcs_0 _ _) ?_))
    | (refine atd 35 (by rfl) ?_; refine wl (by rfl) (s_ld (v := .int .i64 7) HS.out 0 (by rfl) (by rfl) (by rfl) (by kernel_rfl) (by exact rcs_0 _ _) ?_))
    | (refine atd 40 (by rfl) ?_; refine wl (by rfl) (s_ld (v := .int .i64 7) HS.out 0 (by rfl) (by rfl) (by rfl) (by kernel_rfl) (by exact rcs_0 _ _) ?_)))
  go_loopw [7, 8] (fun s7 s8 wr => ∃ (j : Nat) (v7 : Value), j ≤ 2 ∧ 4 * j ≤ M ∧ s8 = .int .i64 ((4 * j : Nat) : Int) ∧ s7 = v7 ∧ St w wr [Row v7 48 1 j (nums l j), Blk b4 (rcs ⟨7, z32, 0, 0, 0, [], z32, []⟩ (.slice none 0 0) (.slice none 0 0)) 56, Blk b2 (rcs (zq 0) (.slice none 0 0) (.slice none 0 0)) 56] [fun W => HB W (.slice (some ad) N c) (7 :: l), fun W => W.cell? (ad.add 0) = some (.int .u8 7), fun W => HB W (.slice A1 M c1) l]) (fun _ s8 _ => 8 - (intOf s8).toNat)
  case atStart => exact ⟨0, _, by omega, by omega, rfl, rfl, HS.out.nilRowE 48 1⟩
  case round =>
    obtain ⟨j, v7, hj, hj4, rfl, rfl, hs⟩ := hrel
    clear HS
    have HS := Lib.hid hs
    clear hs
    by_cases hm : 4 * j + 4 ≤ M
    · have m1 : ((4 * j : Nat) : Int) + 4 ≤ (M : Int) := by omega
      have m1' : 4 * (j : Int) + 4 ≤ (M : Int) := by omega
      by_cases h2 : j < 2
      · have m2 : ((4 * j : Nat) : Int) < 8 := by omega
        have m2' : 4 * (j : Int) < 8 := by omega
        obtain ⟨AQ, cQ, hQs, hQ⟩ : ∃ AQ cQ, (∀ W, (Instr.slice 22 (.slice A1 M c1) (some (.int .i64 (4 * (j : Int)))) (some (.int .i64 (4 * (j : Int) + 4))) none).run Try.prog W = .ok (.slice AQ 4 cQ) W) ∧ ∀ W, HB W (.slice A1 M c1) l → HB W (.slice AQ 4 cQ) ((l.drop (4 * j)).take 4) := cut4 (HS.out.fact (i := 2) rfl) hm
        have HQ := Lib.hid hQ
        clear hQ
        have HQl := Lib.hid (show ((l.drop (4 * j)).take 4).length = 4 by rw [List.length_take, List.length_drop, HRL.out]; omega)
        have hn32 := leNum_32 _ HQl.out
        have HNS := Lib.hid (nums_succ l j)
        obtain ⟨n, hn⟩ : ∃ n, leNum ((l.drop (4 * j)).take 4) = n := ⟨_, rfl⟩
        rw [hn] at hn32 HNS
        have HNE := Lib.hid hn
        clear hn
        go_wp2_with (first
          | (go_at_call 38; refine (rnum_any _ _ _ (HQ.out _ (HS.out.fact (i := 2) rfl)) (by rw [HQl.out]; decide)).mono ?_; rw [HNE.out]; rintro e Wn ⟨rfl, hb⟩; have hS := HS.out.call hb; clear hb; clear HS; have HS := Lib.hid hS; clear hS)
          | (refine atd 79 (by rfl) ?_; refine wl (by rfl) (s_bs (E := 48) (z := (.int .u32 0)) HS.out 1 1 [.int .u32 (n : Int)] (by rfl) Try.underlying95 (by kernel_rfl) (by rfl) (by decide) (by decide) (by kernel_rfl) (by rfl) (by decide) ?_); intro b79 Wn hS; clear HS; have HS := Lib.hid hS; clear hS)
          | (refine atd 80 (by rfl) ?_; refine wl (by rfl) (s_rows (size := 1) (bytes := 4) (z := .int .u32 0) HS.out 1 0 (by rfl) Try.underlying95 (by kernel_rfl) (by rfl) (by decide) (by rfl) (by rfl) (by rfl) (by rfl) (by intro u hu; simp at hu; subst hu; rfl) (by omega) (by omega) ?_); intro v80 Wn hS; replace hS := hS.sub 0; clear HS; have HS := Lib.hid hS; clear hS))
        have hS := HS.out
        rw [show nums l j ++ [.int .u32 (n : Int)] = nums l (j + 1) from HNS.out.symm] at hS
        exact ⟨⟨j + 1, _, by omega, by omega, by push_cast; rfl, rfl, hS⟩, by simp [intOf]; omega⟩
      have m2 : ¬ ((4 * j : Nat) : Int) < 8 := by omega
      have m2' : ¬ 4 * (j : Int) < 8 := by omega
      have HNE := Lib.hid (nums_end (R := l) hj (by rw [HRL.out]; exact hj4) (by rw [HRL.out]; exact .inl (by omega)))
      have i07 : (0 : Int) < (j : Int) + 2 := by omega
      have i17 : (1 : Int) < (j : Int) + 2 := by omega
      go_wp2_with (first
        | (refine atd 82 (by rfl) ?_; refine wl (by rfl) (s_bs (E := 48) (z := (.int .u32 0)) HS.out 2 1 [.int .u32 0, .int .u32 0] (by rfl) Try.underlying95 (by kernel_rfl) (by rfl) (by decide) (by decide) (by kernel_rfl) (by rfl) (by decide) ?_); intro b82 Wn hS; clear HS; have HS := Lib.hid hS; clear hS)
        | (refine atd 83 (by rfl) ?_; refine wl (by rfl) (s_rows (size := 1) (bytes := 4) (z := .int .u32 0) HS.out 1 0 (by rfl) Try.underlying95 (by kernel_rfl) (by rfl) (by decide) (by rfl) (by rfl) (by rfl) (by rfl) (by intro u hu; simp at hu; rcases hu with rfl | rfl <;> rfl) (by omega) (by omega) ?_); intro v83 Wn hS; replace hS := hS.sub 0; clear HS; have HS := Lib.hid hS; clear hS; obtain ⟨g7, c7, rfl⟩ := rowE_some (HS.out.res (i := 0) rfl) (by omega))
        | (refine atd 85 (by rfl) ?_; refine wl (by rfl) (s_ld (v := .int .i64 7) HS.out 1 (by rfl) (by rfl) (by rfl) (by kernel_rfl) (by exact rcs_0 _ _) ?_))
        | (refine atd 112 (by rfl) ?_; refine wl (by rfl) (wp_of_run (run_ld (v := .int .u32 ((numV l : Nat) : Int)) (by kernel_rfl) (by rfl) (by rfl) (rowE_cell (HS.out.res (i := 0) rfl) HNE.out.1)) ?_))
        | (refine sto 113 (by rfl) ?_; refine wl (by rfl) (s_st (v := .int .u32 (((numV l) : Nat) : Int)) HS.out 1 (by rfl) (by rfl) (by rfl) (by kernel_rfl) (by rfl) (by rfl) (by rw [rcs_length (⟨rfl, rfl, Nat.zero_lt_succ _, Nat.zero_lt_succ _, Nat.zero_lt_succ _⟩ : Req.ok ⟨7, z32, 0, 0, 0, [], z32, []⟩)]; decide) ?_); intro Wn hS; rw [rcs_setH (hx := rfl)] at hS; clear HS; have HS := Lib.hid hS; clear hS)
        | (refine atd 142 (by rfl) ?_; refine wl (by rfl) (s_lda (cs := rcs ⟨7, z32, 0, (numV l), 0, [], z32, []⟩ (.slice none 0 0) (.slice none 0 0)) HS.out 1 70 (by rfl) (by rfl) (by rfl) ag56 (by exact rcs_all (⟨rfl, rfl, Nat.zero_lt_succ _, numV_lt _, Nat.zero_lt_succ _⟩ : Req.ok ⟨7, z32, 0, (numV l), 0, [], z32, []⟩) _ _) (by exact rcs_length (⟨rfl, rfl, Nat.zero_lt_succ _, numV_lt _, Nat.zero_lt_succ _⟩ : Req.ok ⟨7, z32, 0, (numV l), 0, [], z32, []⟩) _ _) ?_)))
      refine (enc28 ⟨7, z32, 0, (numV l), 0, [], z32, []⟩ (.slice none 0 0) (.slice none 0 0) _ (⟨rfl, rfl, Nat.zero_lt_succ _, numV_lt _, Nat.zero_lt_succ _⟩ : Req.ok ⟨7, z32, 0, (numV l), 0, [], z32, []⟩) (HB.nil _ _ _) (HB.nil _ _ _) (by exact Nat.zero_le _) (by exact Nat.zero_le _)).mono ?_
      rintro e Wn ⟨ve, rfl, hb⟩
      have hS := HS.out.take hb
      clear hb HS
      have HS := Lib.hid hS
      clear hS
      unfold chkI encOQ at *
      obtain ⟨Ae, ke, rfl⟩ := Row.sl (HS.out.res (i := 0) rfl)
      cases hc : chkQ ⟨7, z32, 0, (numV l), 0, [], z32, []⟩ with
      | false =>
        rw [hc] at HS
        have HD := Lib.hid (HNO.out (fun h => by rw [hc] at h; cases h))
        simp only [Bool.false_eq_true, ↓reduceIte] at HS ⊢
        go_wp2_with (first
          | (refine atd 155 (by rfl) ?_; refine wl (by rfl) (wp_of_run (run_b56z (by rfl)) ?_))
          | (refine sto 2 (by rfl) ?_; refine wl (by rfl) (s_sta (cs := rcs (zq 0) (.slice none 0 0) (.slice none 0 0)) HS.out 3 70 (by rfl) (by rfl) (by rfl) ag56 (by rfl) (by exact rcs_length (zq_ok 0) _ _) (by exact cells_rq _ rfl rfl) (by exact Nat.le_of_eq (rcs_length (zq_ok _) _ _).symm) ?_); intro Wn hS; rw [splice_all ((rcs_length (zq_ok 0) _ _).trans (rcs_length (zq_ok _) _ _).symm)] at hS; clear HS; have HS := Lib.hid hS; clear hS))
        exact bodyPost_ret (ret_ct56 (p := 2) (u := 3) rfl _ b2 _ 56 (0, 0) _ (by rfl) (by rfl) (HS.out.blk (i := 3) rfl) (by rw [List.size_toArray]; exact rcs_length (zq_ok 0) _ _)) rfl ⟨zq 0, (.slice none 0 0), (.slice none 0 0), 290, rfl, HD.out, (((((HS.out.sub 0).sub 0).sub 0).sub 0).dropF (Gs := []) (fun G hG => by cases hG)).nilRow.nilRow⟩
      | true =>
        rw [hc] at HS
        simp only [↓reduceIte] at HS ⊢
        by_cases hd : encQ ⟨7, z32, 0, (numV l), 0, [], z32, []⟩ = 7 :: l
        · have HP : DecP (7 :: l) ⟨7, z32, 0, (numV l), 0, [], z32, []⟩ 0 := ⟨(⟨rfl, rfl, Nat.zero_lt_succ _, numV_lt _, Nat.zero_lt_succ _⟩ : Req.ok ⟨7, z32, 0, (numV l), 0, [], z32, []⟩), .inl ⟨rfl, hc, hd⟩⟩
          rw [hd] at HS ⊢
          clear hd
          go_wp2_with (first
            | (refine atd 150 (by rfl) ?_; refine wl (by rfl) (wp_of_run (run_str (xs := (7 :: l)) (by rfl) (by rfl) (Row.hb (l := (7 :: l)) (HS.out.res (i := 0) rfl))) ?_))
            | (refine atd 152 (by rfl) ?_; refine wl (by rfl) (wp_of_run (run_str (xs := 7 :: l) (by rfl) (by rfl) (HS.out.fact (i := 0) rfl)) ?_))
            | (refine atd 156 (by rfl) ?_; refine wl (by rfl) (s_lda (cs := rcs ⟨7, z32, 0, (numV l), 0, [], z32, []⟩ (.slice none 0 0) (.slice none 0 0)) HS.out 2 70 (by rfl) (by rfl) (by rfl) ag56 (by exact rcs_all (⟨rfl, rfl, Nat.zero_lt_succ _, numV_lt _, Nat.zero_lt_succ _⟩ : Req.ok ⟨7, z32, 0, (numV l), 0, [], z32, []⟩) _ _) (by exact rcs_length (⟨rfl, rfl, Nat.zero_lt_succ _, numV_lt _, Nat.zero_lt_succ _⟩ : Req.ok ⟨7, z32, 0, (numV l), 0, [], z32, []⟩) _ _) ?_))
            | (refine sto 2 (by rfl) ?_; refine wl (by rfl) (s_sta (cs := rcs ⟨7, z32, 0, (numV l), 0, [], z32, []⟩ (.slice none 0 0) (.slice none 0 0)) HS.out 3 70 (by rfl) (by rfl) (by rfl) ag56 (by rfl) (by exact rcs_length (⟨rfl, rfl, Nat.zero_lt_succ _, numV_lt _, Nat.zero_lt_succ _⟩ : Req.ok ⟨7, z32, 0, (numV l), 0, [], z32, []⟩) _ _) (by exact cells_rq _ rfl rfl) (by exact Nat.le_of_eq (rcs_length (zq_ok _) _ _).symm) ?_); intro Wn hS; rw [splice_all ((rcs_length (⟨rfl, rfl, Nat.zero_lt_succ _, numV_lt _, Nat.zero_lt_succ _⟩ : Req.ok ⟨7, z32, 0, (numV l), 0, [], z32, []⟩) _ _).trans (rcs_length (zq_ok _) _ _).symm)] at hS; clear HS; have HS := Lib.hid hS; clear hS))
          exact bodyPost_ret (ret_ct56 (p := 2) (u := 3) rfl _ b2 _ 56 (0, 0) _ (by rfl) (by rfl) (HS.out.blk (i := 3) rfl) (by rw [List.size_toArray]; exact rcs_length (⟨rfl, rfl, Nat.zero_lt_succ _, numV_lt _, Nat.zero_lt_succ _⟩ : Req.ok ⟨7, z32, 0, (numV l), 0, [], z32, []⟩) _ _)) rfl ⟨⟨7, z32, 0, (numV l), 0, [], z32, []⟩, (.slice none 0 0), (.slice none 0 0), 0, rfl, HP, (((((HS.out.sub 0).sub 0).sub 0).sub 0).dropF (Gs := []) (fun G hG => by cases hG)).nilRow.nilRow⟩
        · have HP := HNO.out (fun _ => hd)
          have hne : (encQ ⟨7, z32, 0, (numV l), 0, [], z32, []⟩ == (7 :: l)) = false := beq_eq_false_iff_ne.2 hd
          clear hd
          go_wp2_with (first
            | (refine atd 150 (by rfl) ?_; refine wl (by rfl) (wp_of_run (run_str (xs := (encQ ⟨7, z32, 0, (numV l), 0, [], z32, []⟩)) (by rfl) (by rfl) (Row.hb (l := (encQ ⟨7, z32, 0, (numV l), 0, [], z32, []⟩)) (HS.out.res (i := 0) rfl))) ?_))
            | (refine atd 152 (by rfl) ?_; refine wl (by rfl) (wp_of_run (run_str (xs := 7 :: l) (by rfl) (by rfl) (HS.out.fact (i := 0) rfl)) ?_))
            | (refine atd 155 (by rfl) ?_; refine wl (by rfl) (wp_of_run (run_b56z (by rfl)) ?_))
            | (refine sto 2 (by rfl) ?_; refine wl (by rfl) (s_sta (cs := rcs (zq 0) (.slice none 0 0) (.slice none 0 0)) HS.out 3 70 (by rfl) (by rfl) (by rfl) ag56 (by rfl) (by exact rcs_length (zq_ok 0) _ _) (by exact cells_rq _ rfl rfl) (by exact Nat.le_of_eq (rcs_length (zq_ok _) _ _).symm) ?_); intro Wn hS; rw [splice_all ((rcs_length (zq_ok 0) _ _).trans (rcs_length (zq_ok _) _ _).symm)] at hS; clear HS; have HS := Lib.hid hS; clear hS))
          exact bodyPost_ret (ret_ct56 (p := 2) (u := 3) rfl _ b2 _ 56 (0, 0) _ (by rfl) (by rfl) (HS.out.blk (i := 3) rfl) (by rw [List.size_toArray]; exact rcs_length (zq_ok 0) _ _)) rfl ⟨zq 0, (.slice none 0 0), (.slice none 0 0), 290, rfl, HP, (((((HS.out.sub 0).sub 0).sub 0).sub 0).dropF (Gs := []) (fun G hG => by cases hG)).nilRow.nilRow⟩
    have m1 : ¬ ((4 * j : Nat) : Int) + 4 ≤ (M : Int) := by omega
    have m1' : ¬ 4 * (j : Int) + 4 ≤ (M : Int) := by omega
    have HNE := Lib.hid (nums_end (R := l) hj (by rw [HRL.out]; exact hj4) (by rw [HRL.out]; exact .inr (by omega)))
    have i07 : (0 : Int) < (j : Int) + 2 := by omega
    have i17 : (1 : Int) < (j : Int) + 2 := by omega
    go_wp2_with (first
      | (refine atd 82 (by rfl) ?_; refine wl (by rfl) (s_bs (E := 48) (z := (.int .u32 0)) HS.out 2 1 [.int .u32 0, .int .u32 0] (by rfl) Try.underlying95 (by kernel_rfl) (by rfl) (by decide) (by decide) (by kernel_rfl) (by rfl) (by decide) ?_); intro b82 Wn hS; clear HS; have HS := Lib.hid hS; clear hS)
      | (refine atd 83 (by rfl) ?_; refine wl (by rfl) (s_rows (size := 1) (bytes := 4) (z := .int .u32 0) HS.out 1 0 (by rfl) Try.underlying95 (by kernel_rfl) (by rfl) (by decide) (by rfl) (by rfl) (by rfl) (by rfl) (by intro u hu; simp at hu; rcases hu with rfl | rfl <;> rfl) (by omega) (by omega) ?_); intro v83 Wn hS; replace hS := hS.sub 0; clear HS; have HS := Lib.hid hS; clear hS; obtain ⟨g7, c7, rfl⟩ := rowE_some (HS.out.res (i := 0) rfl) (by omega))
      | (refine atd 85 (by rfl) ?_; refine wl (by rfl) (s_ld (v := .int .i64 7) HS.out 1 (by rfl) (by rfl) (by rfl) (by kernel_rfl) (by exact rcs_0 _ _) ?_))
      | (refine atd 112 (by rfl) ?_; refine wl (by rfl) (wp_of_run (run_ld (v := .int .u32 ((numV l : Nat) : Int)) (by kernel_rfl) (by rfl) (by rfl) (rowE_cell (HS.out.res (i := 0) rfl) HNE.out.1)) ?_))
      | (refine sto 113 (by rfl) ?_; refine wl (by rfl) (s_st (v := .int .u32 (((numV l) : Nat) : Int)) HS.out 1 (by rfl) (by rfl) (by rfl) (by kernel_rfl) (by rfl) (by rfl) (by rw [rcs_length (⟨rfl, rfl, Nat.zero_lt_succ _, Nat.zero_lt_succ _, Nat.zero_lt_succ _⟩ : Req.ok ⟨7, z32, 0, 0, 0, [], z32, []⟩)]; decide) ?_); intro Wn hS; rw [rcs_setH (hx := rfl)] at hS; clear HS; have HS := Lib.hid hS; clear hS)
      | (refine atd 142 (by rfl) ?_; refine wl (by rfl) (s_lda (cs := rcs ⟨7, z32, 0, (numV l), 0, [], z32, []⟩ (.slice none 0 0) (.slice none 0 0)) HS.out 1 70 (by rfl) (by rfl) (by rfl) ag56 (by exact rcs_all (⟨rfl, rfl, Nat.zero_lt_succ _, numV_lt _, Nat.zero_lt_succ _⟩ : Req.ok ⟨7, z32, 0, (numV l), 0, [], z32, []⟩) _ _) (by exact rcs_length (⟨rfl, rfl, Nat.zero_lt_succ _, numV_lt _, Nat.zero_lt_succ _⟩ : Req.ok ⟨7, z32, 0, (numV l), 0, [], z32, []⟩) _ _) ?_)))
    refine (enc28 ⟨7, z32, 0, (numV l), 0, [], z32, []⟩ (.slice none 0 0) (.slice none 0 0) _ (⟨rfl, rfl, Nat.zero_lt_succ _, numV_lt _, Nat.zero_lt_succ _⟩ : Req.ok ⟨7, z32, 0, (numV l), 0, [], z32, []⟩) (HB.nil _ _ _) (HB.nil _ _ _) (by exact Nat.zero_le _) (by exact Nat.zero_le _)).mono ?_
    rintro e Wn ⟨ve, rfl, hb⟩
    have hS := HS.out.take hb
    clear hb HS
    have HS := Lib.hid hS
    clear hS
    unfold chkI encOQ at *
    obtain ⟨Ae, ke, rfl⟩ := Row.sl (HS.out.res (i := 0) rfl)
    cases hc : chkQ ⟨7, z32, 0, (numV l), 0, [], z32, []⟩ with
    | false =>
      rw [hc] at HS
      have HD := Lib.hid (HNO.out (fun h => by rw [hc] at h; cases h))
      simp only [Bool.false_eq_true, ↓reduceIte] at HS ⊢
      go_wp2_with (first
        | (refine atd 155 (by rfl) ?_; refine wl (by rfl) (wp_of_run (run_b56z (by rfl)) ?_))
        | (refine sto 2 (by rfl) ?_; refine wl (by rfl) (s_sta (cs := rcs (zq 0) (.slice none 0 0) (.slice none 0 0)) HS.out 3 70 (by rfl) (by rfl) (by rfl) ag56 (by rfl) (by exact rcs_length (zq_ok 0) _ _) (by exact cells_rq _ rfl rfl) (by exact Nat.le_of_eq (rcs_length (zq_ok _) _ _).symm) ?_); intro Wn hS; rw [splice_all ((rcs_length (zq_ok 0) _ _).trans (rcs_length (zq_ok _) _ _).symm)] at hS; clear HS; have HS := Lib.hid hS; clear hS))
      exact bodyPost_ret (ret_ct56 (p := 2) (u := 3) rfl _ b2 _ 56 (0, 0) _ (by rfl) (by rfl) (HS.out.blk (i := 3) rfl) (by rw [List.size_toArray]; exact rcs_length (zq_ok 0) _ _)) rfl ⟨zq 0, (.slice none 0 0), (.slice none 0 0), 290, rfl, HD.out, (((((HS.out.sub 0).sub 0).sub 0).sub 0).dropF (Gs := []) (fun G hG => by cases hG)).nilRow.nilRow⟩
    | true =>
      rw [hc] at HS
      simp only [↓reduceIte] at HS ⊢
      by_cases hd : encQ ⟨7, z32, 0, (numV l), 0, [], z32, []⟩ = 7 :: l
      · have HP : DecP (7 :: l) ⟨7, z32, 0, (numV l), 0, [], z32, []⟩ 0 := ⟨(⟨rfl, rfl, Nat.zero_lt_succ _, numV_lt _, Nat.zero_lt_succ _⟩ : Req.ok ⟨7, z32, 0, (numV l), 0, [], z32, []⟩), .inl ⟨rfl, hc, hd⟩⟩
        rw [hd] at HS ⊢
        clear hd
        go_wp2_with (first
          | (refine atd 150 (by rfl) ?_; refine wl (by rfl) (wp_of_run (run_str (xs := (7 :: l)) (by rfl) (by rfl) (Row.hb (l := (7 :: l)) (HS.out.res (i := 0) rfl))) ?_))
          | (refine atd 152 (by rfl) ?_; refine wl (by rfl) (wp_of_run (run_str (xs := 7 :: l) (by rfl) (by rfl) (HS.out.fact (i := 0) rfl)) ?_))
          | (refine atd 156 (by rfl) ?_; refine wl (by rfl) (s_lda (cs := rcs ⟨7, z32, 0, (numV l), 0, [], z32, []⟩ (.slice none 0 0) (.slice none 0 0)) HS.out 2 70 (by rfl) (by rfl) (by rfl) ag56 (by exact rcs_all (⟨rfl, rfl, Nat.zero_lt_succ _, numV_lt _, Nat.zero_lt_succ _⟩ : Req.ok ⟨7, z32, 0, (numV l), 0, [], z32, []⟩) _ _) (by exact rcs_length (⟨rfl, rfl, Nat.zero_lt_succ _, numV_lt _, Nat.zero_lt_succ _⟩ : Req.ok ⟨7, z32, 0, (numV l), 0, [], z32, []⟩) _ _) ?_))
          | (refine sto 2 (by rfl) ?_; refine wl (by rfl) (s_sta (cs := rcs ⟨7, z32, 0, (numV l), 0, [], z32, []⟩ (.slice none 0 0) (.slice none 0 0)) HS.out 3 70 (by rfl) (by rfl) (by rfl) ag56 (by rfl) (by exact rcs_length (⟨rfl, rfl, Nat.zero_lt_succ _, numV_lt _, Nat.zero_lt_succ _⟩ : Req.ok ⟨7, z32, 0, (numV l), 0, [], z32, []⟩) _ _) (by exact cells_rq _ rfl rfl) (by exact Nat.le_of_eq (rcs_length (zq_ok _) _ _).symm) ?_); intro Wn hS; rw [splice_all ((rcs_length (⟨rfl, rfl, Nat.zero_lt_succ _, numV_lt _, Nat.zero_lt_succ _⟩ : Req.ok ⟨7, z32, 0, (numV l), 0, [], z32, []⟩) _ _).trans (rcs_length (zq_ok _) _ _).symm)] at hS; clear HS; have HS := Lib.hid hS; clear hS))
        exact bodyPost_ret (ret_ct56 (p := 2) (u := 3) rfl _ b2 _ 56 (0, 0) _ (by rfl) (by rfl) (HS.out.blk (i := 3) rfl) (by rw [List.size_toArray]; exact rcs_length (⟨rfl, rfl, Nat.zero_lt_succ _, numV_lt _, Nat.zero_lt_succ _⟩ : Req.ok ⟨7, z32, 0, (numV l), 0, [], z32, []⟩) _ _)) rfl ⟨⟨7, z32, 0, (numV l), 0, [], z32, []⟩, (.slice none 0 0), (.slice none 0 0), 0, rfl, HP, (((((HS.out.sub 0).sub 0).sub 0).sub 0).dropF (Gs := []) (fun G hG => by cases hG)).nilRow.nilRow⟩
      · have HP := HNO.out (fun _ => hd)
        have hne : (encQ ⟨7, z32, 0, (numV l), 0, [], z32, []⟩ == (7 :: l)) = false := beq_eq_false_iff_ne.2 hd
        clear hd
        go_wp2_with (first
          | (refine atd 150 (by rfl) ?_; refine wl (by rfl) (wp_of_run (run_str (xs := (encQ ⟨7, z32, 0, (numV l), 0, [], z32, []⟩)) (by rfl) (by rfl) (Row.hb (l := (encQ ⟨7, z32, 0, (numV l), 0, [], z32, []⟩)) (HS.out.res (i := 0) rfl))) ?_))
          | (refine atd 152 (by rfl) ?_; refine wl (by rfl) (wp_of_run (run_str (xs := 7 :: l) (by rfl) (by rfl) (HS.out.fact (i := 0) rfl)) ?_))
          | (refine atd 155 (by rfl) ?_; refine wl (by rfl) (wp_of_run (run_b56z (by rfl)) ?_))
          | (refine sto 2 (by rfl) ?_; refine wl (by rfl) (s_sta (cs := rcs (zq 0) (.slice none 0 0) (.slice none 0 0)) HS.out 3 70 (by rfl) (by rfl) (by rfl) ag56 (by rfl) (by exact rcs_length (zq_ok 0) _ _) (by exact cells_rq _ rfl rfl) (by exact Nat.le_of_eq (rcs_length (zq_ok _) _ _).symm) ?_); intro Wn hS; rw [splice_all ((rcs_length (zq_ok 0) _ _).trans (rcs_length (zq_ok _) _ _).symm)] at hS; clear HS; have HS := Lib.hid hS; clear hS))
        exact bodyPost_ret (ret_ct56 (p := 2) (u := 3) rfl _ b2 _ 56 (0, 0) _ (by rfl) (by rfl) (HS.out.blk (i := 3) rfl) (by rw [List.size_toArray]; exact rcs_length (zq_ok 0) _ _)) rfl ⟨zq 0, (.slice none 0 0), (.slice none 0 0), 290, rfl, HP, (((((HS.out.sub 0).sub 0).sub 0).sub 0).dropF (Gs := []) (fun G hG => by cases hG)).nilRow.nilRow⟩
end
section
open Go Go.RowKit Go.Proofs
attribute [local irreducible] Calls
set_option maxHeartbeats 2000000 in
set_option maxRecDepth 100000 in
theorem dec30hs (ad : Addr) (N c M c1 : Nat) (A1 : Option Addr) (l : List UInt8) (w : World) (hv : HB w (.slice (some ad) N c) (8 :: l)) (hl : HB w (.slice A1 M c1) l) (hN : N = M + 1) (hM : l.length = M) (hM2 : M ≤ 5000) (hc0 : Away (Keys []) (fun W => W.cell? (ad.add 0) = some (.int .u8 8)) w) (hs1 : ∀ W, (Instr.slice 22 (.slice (some ad) N c) (some (.int .i64 1)) none none).run Try.prog W = .ok (.slice A1 M c1) W) (h32 : M < 32) :
    Calls Try.prog 30 #[.slice (some ad) N c] w fun e w' => ∃ r s b c, e = .returned (.tuple #[.agg (rcs r s b).toArray, .int .i64 c]) ∧ DecP (8 :: l) r c ∧ St w w' [Row s 5 1 r.sb.length (bs r.sb), Row b 5 1 r.bb.length (bs r.bb)] [] := by
  have z0 : ((N : Int) == 0) = false := beq_eq_false_iff_ne.2 (by omega)
  have z1 : (0 : Int) < (N : Int) := by omega
  have HS := Lib.hid (((((St.start w).addF hl.away0).addF hc0).addF hv.away0))
  have HM := Lib.hid hM
  have d32 : decide ((M : Int) < 32) = true := decide_eq_true (by omega)
  have HD := Lib.hid (show DecP (8 :: l) (zq 0) 290 from ⟨zq_ok 0, .inr ⟨rfl, rfl, fun r' hr hc he => by have := encQ_len3 hr he (by decide) hc; omega⟩⟩)
  clear hv hl hM hN hc0
  go_enter Try.func30, Try.ntmps30
  go_wp2_with (first
    | (refine atd 2 (by rfl) ?_; refine wl (by rfl) (s_al (l := rcs (zq 0) (.slice none 0 0) (.slice none 0 0)) HS.out (by rfl) z56 (by rfl) ?_); intro b2 Wn hS; clear HS; have HS := Lib.hid hS; clear hS)
    | (refine atd 20 (by rfl) ?_; refine wl (by rfl) (wp_of_run (run_ld (v := .int .u8 8) (by kernel_rfl) (by rfl) (by rfl) (HS.out.fact (i := 1) rfl)) ?_))
    | (refine atd 22 (by rfl) ?_; refine wl (by rfl) (wp_of_run (run_b56 (k := 8) (by rfl) (by rfl)) ?_))
    | (refine atd 4 (by rfl) ?_; refine wl (by rfl) (s_al (l := rcs (zq 0) (.slice none 0 0) (.slice none 0 0)) HS.out (by rfl) z56 (by rfl) ?_); intro b4 Wn hS; clear HS; have HS := Lib.hid hS; clear hS)
    | (refine sto 4 (by rfl) ?_; refine wl (by rfl) (s_sta (cs := rcs (zq 8) (.slice none 0 0) (.slice none 0 0)) HS.out 0 70 (by rfl) (by rfl) (by rfl) ag56 (by rfl) (by exact rcs_length (zq_ok _) _ _) (by exact cells_rq _ rfl rfl) (by exact Nat.le_of_eq (rcs_length (zq_ok _) _ _).symm) ?_); intro Wn hS; rw [splice_all ((rcs_length (zq_ok _) _ _).trans (rcs_length (zq_ok _) _ _).symm)] at hS; have hS : St w Wn [Blk b4 (rcs ⟨8, z32, 0, 0, 0, [], z32, []⟩ (.slice none 0 0) (.slice none 0 0)) 56, Blk b2 (rcs (zq 0) (.slice none 0 0) (.slice none 0 0)) 56] _ := hS; clear HS; have HS := Lib.hid hS; clear hS)
    | (refine atd 26 (by rfl) ?_; refine wl (by rfl) (s_ld (v := .int .i64 8) HS.out 0 (by rfl) (by rfl) (by rfl) (by kernel_rfl) (by exact rcs_0 _ _) ?_))
    | (refine atd 30 (by rfl) ?_; refine wl (by rfl) (s_ld (v := .int .i64 8) HS.out 0 (by rfl) (by rfl) (by rfl) (by kernel_rfl) (by exact rcs_0 _ _) ?_))
    | (refine atd 35 (by rfl) ?_; refine wl (by rfl) (s_ld (v := .int .i64 8) HS.out 0 (by rfl) (by rfl) (by rfl) (by kernel_rfl) (by exact rcs_0 _ _) ?_))
    | (refine atd 40 (by rfl) ?_; refine wl (by rfl) (s_ld (v := .int .i64 8) HS.out 0 (by rfl) (by rfl) (by rfl) (by kernel_rfl) (by exact rcs_0 _ _) ?_))
    | (refine atd 46 (by rfl) ?_; refine wl (by rfl) (wp_of_run (run_b56z (by rfl)) ?_))
    | (refine sto 2 (by rfl) ?_; refine wl (by rfl) (s_sta (cs := rcs (zq 0) (.slice none 0 0) (.slice none 0 0)) HS.out 1 70 (by rfl) (by rfl) (by rfl) ag56 (by rfl) (by exact rcs_length (zq_ok 0) _ _) (by exact cells_rq _ rfl rfl) (by exact Nat.le_of_eq (rcs_length (zq_ok _) _ _).symm) ?_); intro Wn hS; rw [splice_all ((rcs_length (zq_ok 0) _ _).trans (rcs_length (zq_ok _) _ _).symm)] at hS; clear HS; have HS := Lib.hid hS; clear hS))
  exact bodyPost_ret (ret_ct56 (p := 2) (u := 3) rfl _ b2 _ 56 (0, 0) _ (by rfl) (by rfl) (HS.out.blk (i := 1) rfl) (by rw [List.size_toArray]; exact rcs_length (zq_ok 0) _ _)) rfl ⟨zq 0, (.slice none 0 0), (.slice none 0 0), 290, rfl, HD.out, (((HS.out.sub 0).sub 0).dropF (Gs := []) (fun G hG => by cases hG)).nilRow.nilRow⟩
set_option maxHeartbeats 2000000 in
set_option maxRecDepth 100000 in
theorem dec30h (ad : Addr) (N c M c1 : Nat) (A1 : Option Addr) (l : List UInt8) (w : World) (hv : HB w (.slice (some ad) N c) (8 :: l)) (hl : HB w (.slice A1 M c1) l) (hN : N = M + 1) (hM : l.length = M) (hM2 : M ≤ 5000) (hc0 : Away (Keys []) (fun W => W.cell? (ad.add 0) = some (.int .u8 8)) w) (hs1 : ∀ W, (Instr.slice 22 (.slice (some ad) N c) (some (.int .i64 1)) none none).run Try.prog W = .ok (.slice A1 M c1) W) (A2 : Option Addr) (M2 c2 : Nat) (R : List UInt8) (h32 : 32 ≤ M) (hr : HB w (.slice A2 M2 c2) R) (hR : R.length = M2) (hRl : R = hshL l) (hM22 : M2 ≤ 5000) (hs32 : ∀ W, (Instr.slice 22 (.slice A1 M c1) (some (.int .i64 32)) none none).run Try.prog W = .ok (.slice A2 M2 c2) W) (a1 : Addr) (ha1 : A1 = some a1) :
    Calls Try.prog 30 #[.slice (some ad) N c] w fun e w' => ∃ r s b c, e = .returned (.tuple #[.agg (rcs r s b).toArray, .int .i64 c]) ∧ DecP (8 :: l) r c ∧ St w w' [Row s 5 1 r.sb.length (bs r.sb), Row b 5 1 r.bb.length (bs r.bb)] [] := by
  have z0 : ((N : Int) == 0) = false := beq_eq_false_iff_ne.2 (by omega)
  have z1 : (0 : Int) < (N : Int) := by omega
  have HS := Lib.hid ((((((St.start w).addF hr.away0).addF hl.away0).addF hc0).addF hv.away0))
  have HM := Lib.hid hM
  have hrq : rdF (fldK (((8 : UInt8).toNat : Nat) : Int)) (((8 : UInt8).toNat : Nat) : Int) l = ⟨8, z32, 0, 0, 0, [], (hshV l), []⟩ := rfl
  have HNO := Lib.hid (show (chkQ ⟨8, z32, 0, 0, 0, [], (hshV l), []⟩ = true → encQ ⟨8, z32, 0, 0, 0, [], (hshV l), []⟩ ≠ 8 :: l) → DecP (8 :: l) (zq 0) 290 from fun h => DecP.no fun r e hc => by rw [hrq] at e; subst e; exact h hc)
  clear hrq
  have HHV := Lib.hid (hshV_len l)
  have d32 : decide ((M : Int) < 32) = false := decide_eq_false (by omega)
  have HFL := Lib.hid (show 32 ≤ l.length by omega)
  have HR' := Lib.hid hr
  have HRL := Lib.hid hR; have HRE := Lib.hid hRl
  clear hr hR hRl
  have hb1 := numV_lt R
  have hb8 := numV_lt (numL R)
  clear hv hl hM hN hc0
  go_enter Try.func30, Try.ntmps30
  go_wp2_with (first
    | (refine atd 2 (by rfl) ?_; refine wl (by rfl) (s_al (l := rcs (zq 0) (.slice none 0 0) (.slice none 0 0)) HS.out (by rfl) z56 (by rfl) ?_); intro b2 Wn hS; clear HS; have HS := Lib.hid hS; clear hS)
    | (refine atd 20 (by rfl) ?_; refine wl (by rfl) (wp_of_run (run_ld (v := .int .u8 8) (by kernel_rfl) (by rfl) (by rfl) (HS.out.fact (i := 1) rfl)) ?_))
    | (refine atd 22 (by rfl) ?_; refine wl (by rfl) (wp_of_run (run_b56 (k := 8) (by rfl) (by rfl)) ?_))
    | (refine atd 4 (by rfl) ?_; refine wl (by rfl) (s_al (l := rcs (zq 0) (.slice none 0 0) (.slice none 0 0)) HS.out (by rfl) z56 (by rfl) ?_); intro b4 Wn hS; clear HS; have HS := Lib.hid hS; clear hS)
    | (refine sto 4 (by rfl) ?_; refine wl (by rfl) (s_sta (cs := rcs (zq 8) (.slice none 0 0) (.slice none 0 0)) HS.out 0 70 (by rfl) (by rfl) (by rfl) ag56 (by rfl) (by exact rcs_length (zq_ok _) _ _) (by exact cells_rq _ rfl rfl) (by exact Nat.le_of_eq (rcs_length (zq_ok _) _ _).symm) ?_); intro Wn hS; rw [splice_all ((rcs_length (zq_ok _) _ _).trans (rcs_length (zq_ok _) _ _).symm)] at hS; have hS : St w Wn [Blk b4 (rcs ⟨8, z32, 0, 0, 0, [], z32, []⟩ (.slice none 0 0) (.slice none 0 0)) 56, Blk b2 (rcs (zq 0) (.slice none 0 0) (.slice none 0 0)) 56] _ := hS; clear HS; have HS := Lib.hid hS; clear hS)
    | (refine atd 26 (by rfl) ?_; refine wl (by rfl) (s_ld (v := .int .i64 8) HS.out 0 (by rfl) (by rfl) (by rfl) (by kernel_rfl) (by exact rcs_0 _ _) ?_))
    | (refine atd 30 (by rfl) ?_; refine wl (by rfl) (s_ld (v := .int .i64 8) HS.out 0 (by rfl) (by rfl) (by rfl) (by kernel_rfl) (by exact rcs_0 _ _) ?_))
    | (refine atd 35 (by rfl) ?_; refine wl (by rfl) (s_ld (v := .int .i64 8) HS.out 0 (by rfl) (by rfl) (by rfl) (by kernel_rfl) (by exact rcs_0 _ _) ?_))
    | (refine atd 40 (by rfl) ?_; refine wl (by rfl) (s_ld (v := .int .i64 8) HS.out 0 (by rfl) (by rfl) (by rfl) (by kernel_rfl) (by exact rcs_0 _ _) ?_)))
  subst ha1
  go_loopw [6] (fun s6 wr => ∃ i : Nat, i ≤ 32 ∧ s6 = .int .i64 (i : Int) ∧ St w wr [Blk b4 (rcs ⟨8, z32, 0, 0, 0, [], (hfill l i), []⟩ (.slice none 0 0) (.slice none 0 0)) 56, Blk b2 (rcs (zq 0) (.slice none 0 0) (.slice none 0 0)) 56] [fun W => HB W (.slice (some ad) N c) (8 :: l), fun W => W.cell? (ad.add 0) = some (.int .u8 8), fun W => HB W (.slice (some a1) M c1) l, fun W => HB W (.slice A2 M2 c2) R]) (fun s6 _ => 32 - (intOf s6).toNat)
  case atStart => exact ⟨0, by omega, rfl, by rw [hfill_0]; exact HS.out⟩
  case round =>
    obtain ⟨i, hi, rfl, hs⟩ := hrel
    clear HS
    have HS := Lib.hid hs
    clear hs
    by_cases hlt : i < 32
    · have j1 : (i : Int) < 32 := by omega
      have j2 : (i : Int) < (M : Int) := by omega
      have hil : i < l.length := by have := HM.out; omega
      have hx : l[i]? = some l[i] := List.getElem?_eq_getElem hil
      generalize l[i] = x at hx
      have HX := Lib.hid hx
      clear hx
      go_wp2_with (first
        | (refine atd 55 (by rfl) ?_; refine wl (by rfl) (wp_of_run (run_ld (v := .int .u8 (x.toNat : Int)) (by kernel_rfl) (by rfl) (by rfl) (hb_at (HS.out.fact (i := 2) rfl) HX.out)) ?_))
        | (refine sto 57 (by rfl) ?_; refine wl (by rfl) (s_st (k := 37 + i) (v := .int .u8 (x.toNat : Int)) HS.out 0 (by rfl) (by rfl) (by rfl) (by kernel_rfl) (by rfl) (by rfl) (by rw [rcs_length (⟨rfl, hfill_len HFL.out hi, Nat.zero_lt_succ _, Nat.zero_lt_succ _, Nat.zero_lt_succ _⟩ : Req.ok ⟨8, z32, 0, 0, 0, [], (hfill l i), []⟩)]; omega) ?_); intro Wn hS; rw [rcs_fill _ _ HFL.out hlt x HX.out] at hS; clear HS; have HS := Lib.hid hS; clear hS))
      exact ⟨⟨i + 1, by omega, by push_cast; rfl, HS.out⟩, by simp [intOf]; omega⟩
    have hi32 : i = 32 := by omega
    subst hi32
    have j1 : ¬ (((32 : Nat) : Int) < 32) := by decide
    have hS := HS.out
    rw [hfill_32 HFL.out] at hS
    clear HS
    have HS := Lib.hid hS
    clear hS hlt
    go_wp2_with fail
    go_loopw [7, 8] (fun s7 s8 wr => ∃ (j : Nat) (v7 : Value), j ≤ 2 ∧ 4 * j ≤ M2 ∧ s8 = .int .i64 ((4 * j : Nat) : Int) ∧ s7 = v7 ∧ St w wr [Row v7 48 1 j (nums R j), Blk b4 (rcs ⟨8, z32, 0, 0, 0, [], (hshV l), []⟩ (.slice none 0 0) (.slice none 0 0)) 56, Blk b2 (rcs (zq 0) (.slice none 0 0) (.slice none 0 0)) 56] [fun W => HB W (.slice (some ad) N c) (8 :: l), fun W => W.cell? (ad.add 0) = some (.int .u8 8), fun W => HB W (.slice (some a1) M c1) l, fun W => HB W (.slice A2 M2 c2) R]) (fun _ s8 _ => 8 - (intOf s8).toNat)
    case atStart => exact ⟨0, _, by omega, by omega, rfl, rfl, HS.out.nilRowE 48 1⟩
    case round =>
      obtain ⟨j, v7, hj, hj4, rfl, rfl, hs⟩ := hrel
      clear HS
      have HS := Lib.hid hs
      clear hs
      by_cases hm : 4 * j + 4 ≤ M2
      · have m1 : ((4 * j : Nat) : Int) + 4 ≤ (M2 : Int) := by omega
        have m1' : 4 * (j : Int) + 4 ≤ (M2 : Int) := by omega
        by_cases h2 : j < 2
        · have m2 : ((4 * j : Nat) : Int) < 8 := by omega
          have m2' : 4 * (j : Int) < 8 := by omega
          obtain ⟨AQ, cQ, hQs, hQ⟩ : ∃ AQ cQ, (∀ W, (Instr.slice 22 (.slice A2 M2 c2) (some (.int .i64 (4 * (j : Int)))) (some (.int .i64 (4 * (j : Int) + 4))) none).run Try.prog W = .ok (.slice AQ 4 cQ) W) ∧ ∀ W, HB W (.slice A2 M2 c2) R → HB W (.slice AQ 4 cQ) ((R.drop (4 * j)).take 4) := cut4 (HS.out.fact (i := 3) rfl) hm
          have HQ := Lib.hid hQ
          clear hQ
          have HQl := Lib.hid (show ((R.drop (4 * j)).take 4).length = 4 by rw [List.length_take, List.length_drop, HRL.out]; omega)
          have hn32 := leNum_32 _ HQl.out
          have HNS := Lib.hid (nums_succ R j)
          obtain ⟨n, hn⟩ : ∃ n, leNum ((R.drop (4 * j)).take 4) = n := ⟨_, rfl⟩
          rw [hn] at hn32 HNS
          have HNE := Lib.hid hn
          clear hn
          go_wp2_with (first
            | (go_at_call 38; refine (rnum_any _ _ _ (HQ.out _ (HS.out.fact (i := 3) rfl)) (by rw [HQl.out]; decide)).mono ?_; rw [HNE.out]; rintro e Wn ⟨rfl, hb⟩; have hS := HS.out.call hb; clear hb; clear HS; have HS := Lib.hid hS; clear hS)
            | (refine atd 79 (by rfl) ?_; refine wl (by rfl) (s_bs (E := 48) (z := (.int .u32 0)) HS.out 1 1 [.int .u32 (n : Int)] (by rfl) Try.underlying95 (by kernel_rfl) (by rfl) (by decide) (by decide) (by kernel_rfl) (by rfl) (by decide) ?_); intro b79 Wn hS; clear HS; have HS := Lib.hid hS; clear hS)
            | (refine atd 80 (by rfl) ?_; refine wl (by rfl) (s_rows (size := 1) (bytes := 4) (z := .int .u32 0) HS.out 1 0 (by rfl) Try.underlying95 (by kernel_rfl) (by rfl) (by decide) (by rfl) (by rfl) (by rfl) (by rfl) (by intro u hu; simp at hu; subst hu; rfl) (by omega) (by omega) ?_); intro v80 Wn hS; replace hS := hS.sub 0; clear HS; have HS := Lib.hid hS; clear hS))
          have hS := HS.out
          rw [show nums R j ++ [.int .u32 (n : Int)] = nums R (j + 1) from HNS.out.symm] at hS
          exact ⟨⟨j + 1, _, by omega, by omega, by push_cast; rfl, rfl, hS⟩, by simp [intOf]; omega⟩
        have m2 : ¬ ((4 * j : Nat) : Int) < 8 := by omega
        have m2' : ¬ 4 * (j : Int) < 8 := by omega
        have HNE := Lib.hid (nums_end (R := R) hj (by rw [HRL.out]; exact hj4) (by rw [HRL.out]; exact .inl (by omega)))
        have i07 : (0 : Int) < (j : Int) + 2 := by omega
        have i17 : (1 : Int) < (j : Int) + 2 := by omega
        go_wp2_with (first
          | (refine atd 82 (by rfl) ?_; refine wl (by rfl) (s_bs (E := 48) (z := (.int .u32 0)) HS.out 2 1 [.int .u32 0, .int .u32 0] (by rfl) Try.underlying95 (by kernel_rfl) (by rfl) (by decide) (by decide) (by kernel_rfl) (by rfl) (by decide) ?_); intro b82 Wn hS; clear HS; have HS := Lib.hid hS; clear hS)
          | (refine atd 83 (by rfl) ?_; refine wl (by rfl) (s_rows (size := 1) (bytes := 4) (z := .int .u32 0) HS.out 1 0 (by rfl) Try.underlying95 (by kernel_rfl) (by rfl) (by decide) (by rfl) (by rfl) (by rfl) (by rfl) (by intro u hu; simp at hu; rcases hu with rfl | rfl <;> rfl) (by omega) (by omega) ?_); intro v83 Wn hS; replace hS := hS.sub 0; clear HS; have HS := Lib.hid hS; clear hS; obtain ⟨g7, c7, rfl⟩ := rowE_some (HS.out.res (i := 0) rfl) (by omega))
          | (refine atd 85 (by rfl) ?_; refine wl (by rfl) (s_ld (v := .int .i64 8) HS.out 1 (by rfl) (by rfl) (by rfl) (by kernel_rfl) (by exact rcs_0 _ _) ?_))
          | (refine atd 142 (by rfl) ?_; refine wl (by rfl) (s_lda (cs := rcs ⟨8, z32, 0, 0, 0, [], (hshV l), []⟩ (.slice none 0 0) (.slice none 0 0)) HS.out 1 70 (by rfl) (by rfl) (by rfl) ag56 (by exact rcs_all (⟨rfl, HHV.out, Nat.zero_lt_succ _, Nat.zero_lt_succ _, Nat.zero_lt_succ _⟩ : Req.ok ⟨8, z32, 0, 0, 0, [], (hshV l), []⟩) _ _) (by exact rcs_length (⟨rfl, HHV.out, Nat.zero_lt_succ _, Nat.zero_lt_succ _, Nat.zero_lt_succ _⟩ : Req.ok ⟨8, z32, 0, 0, 0, [], (hshV l), []⟩) _ _) ?_)))
        refine (enc28 ⟨8, z32, 0, 0, 0, [], (hshV l), []⟩ (.slice none 0 0) (.slice none 0 0) _ (⟨rfl, HHV.out, Nat.zero_lt_succ _, Nat.zero_lt_succ _, Nat.zero_lt_succ _⟩ : Req.ok ⟨8, z32, 0, 0, 0, [], (hshV l), []⟩) (HB.nil _ _ _) (HB.nil _ _ _) (by exact Nat.zero_le _) (by exact Nat.zero_le _)).mono ?_
        rintro e Wn ⟨ve, rfl, hb⟩
        have hS := HS.out.take hb
        clear hb HS
        have HS := Lib.hid hS
        clear hS
        unfold chkI encOQ at *
        obtain ⟨Ae, ke, rfl⟩ := Row.sl (HS.out.res (i := 0) rfl)
        cases hc : chkQ ⟨8, z32, 0, 0, 0, [], (hshV l), []⟩ with
        | false =>
          rw [hc] at HS
          have HD := Lib.hid (HNO.out (fun h => by rw [hc] at h; cases h))
          simp only [Bool.false_eq_true, ↓reduceIte] at HS ⊢
          go_wp2_with (first
            | (refine atd 155 (by rfl) ?_; refine wl (by rfl) (wp_of_run (run_b56z (by rfl)) ?_))
            | (refine sto 2 (by rfl) ?_; refine wl (by rfl) (s_sta (cs := rcs (zq 0) (.slice none 0 0) (.slice none 0 0)) HS.out 3 70 (by rfl) (by rfl) (by rfl) ag56 (by rfl) (by exact rcs_length (zq_ok 0) _ _) (by exact cells_rq _ rfl rfl) (by exact Nat.le_of_eq (rcs_length (zq_ok _) _ _).symm) ?_); intro Wn hS; rw [splice_all ((rcs_length (zq_ok 0) _ _).trans (rcs_length (zq_ok _) _ _).symm)] at hS; clear HS; have HS := Lib.hid hS; clear hS))
          exact bodyPost_ret (ret_ct56 (p := 2) (u := 3) rfl _ b2 _ 56 (0, 0) _ (by rfl) (by rfl) (HS.out.blk (i := 3) rfl) (by rw [List.size_toArray]; exact rcs_length (zq_ok 0) _ _)) rfl ⟨zq 0, (.slice none 0 0), (.slice none 0 0), 290, rfl, HD.out, (((((HS.out.sub 0).sub 0).sub 0).sub 0).dropF (Gs := []) (fun G hG => by cases hG)).nilRow.nilRow⟩
        | true =>
          rw [hc] at HS
          simp only [↓reduceIte] at HS ⊢
          by_cases hd : encQ ⟨8, z32, 0, 0, 0, [], (hshV l), []⟩ = 8 :: l
          · have HP : DecP (8 :: l) ⟨8, z32, 0, 0, 0, [], (hshV l), []⟩ 0 := ⟨(⟨rfl, HHV.out, Nat.zero_lt_succ _, Nat.zero_lt_succ _, Nat.zero_lt_succ _⟩ : Req.ok ⟨8, z32, 0, 0, 0, [], (hshV l), []⟩), .inl ⟨rfl, hc, hd⟩⟩
            rw [hd] at HS ⊢
            clear hd
            go_wp2_with (first
              | (refine atd 150 (by rfl) ?_; refine wl (by rfl) (wp_of_run (run_str (xs := (8 :: l)) (by rfl) (by rfl) (Row.hb (l := (8 :: l)) (HS.out.res (i := 0) rfl))) ?_))
              | (refine atd 152 (by rfl) ?_; refine wl (by rfl) (wp_of_run (run_str (xs := 8 :: l) (by rfl) (by rfl) (HS.out.fact (i := 0) rfl)) ?_))
              | (refine atd 156 (by rfl) ?_; refine wl (by rfl) (s_lda (cs := rcs ⟨8, z32, 0, 0, 0, [], (hshV l), []⟩ (.slice none 0 0) (.slice none 0 0)) HS.out 2 70 (by rfl) (by rfl) (by rfl) ag56 (by exact rcs_all (⟨rfl, HHV.out, Nat.zero_lt_succ _, Nat.zero_lt_succ _, Nat.zero_lt_succ _⟩ : Req.ok ⟨8, z32, 0, 0, 0, [], (hshV l), []⟩) _ _) (by exact rcs_length (⟨rfl, HHV.out, Nat.zero_lt_succ _, Nat.zero_lt_succ _, Nat.zero_lt_succ _⟩ : Req.ok ⟨8, z32, 0, 0, 0, [], (hshV l), []⟩) _ _) ?_))
              | (refine sto 2 (by rfl) ?_; refine wl (by rfl) (s_sta (cs := rcs ⟨8, z32, 0, 0, 0, [], (hshV l), []⟩ (.slice none 0 0) (.slice none 0 0)) HS.out 3 70 (by rfl) (by rfl) (by rfl) ag56 (by rfl) (by exact rcs_length (⟨rfl, HHV.out, Nat.zero_lt_succ _, Nat.zero_lt_succ _, Nat.zero_lt_succ _⟩ : Req.ok ⟨8, z32, 0, 0, 0, [], (hshV l), []⟩) _ _) (by exact cells_rq _ rfl rfl) (by exact Nat.le_of_eq (rcs_length (zq_ok _) _ _).symm) ?_); intro Wn hS; rw [splice_all ((rcs_length (⟨rfl, HHV.out, Nat.zero_lt_succ _, Nat.zero_lt_succ _, Nat.zero_lt_succ _⟩ : Req.ok ⟨8, z32, 0, 0, 0, [], (hshV l), []⟩) _ _).trans (rcs_length (zq_ok _) _ _).symm)] at hS; clear HS; have HS := Lib.hid hS; clear hS))
            exact bodyPost_ret (ret_ct56 (p := 2) (u := 3) rfl _ b2 _ 56 (0, 0) _ (by rfl) (by rfl) (HS.out.blk (i := 3) rfl) (by rw [List.size_toArray]; exact rcs_length (⟨rfl, HHV.out, Nat.zero_lt_succ _, Nat.zero_lt_succ _, Nat.zero_lt_succ _⟩ : Req.ok ⟨8, z32, 0, 0, 0, [], (hshV l), []⟩) _ _)) rfl ⟨⟨8, z32, 0, 0, 0, [], (hshV l), []⟩, (.slice none 0 0), (.slice none 0 0), 0, rfl, HP, (((((HS.out.sub 0).sub 0).sub 0).sub 0).dropF (Gs := []) (fun G hG => by cases hG)).nilRow.nilRow⟩
          · have HP := HNO.out (fun _ => hd)
            have hne : (encQ ⟨8, z32, 0, 0, 0, [], (hshV l), []⟩ == (8 :: l)) = false := beq_eq_false_iff_ne.2 hd
            clear hd
            go_wp2_with (first
              | (refine atd 150 (by rfl) ?_; refine wl (by rfl) (wp_of_run (run_str (xs := (encQ ⟨8, z32, 0, 0, 0, [], (hshV l), []⟩)) (by rfl) (by rfl) (Row.hb (l := (encQ ⟨8, z32, 0, 0, 0, [], (hshV l), []⟩)) (HS.out.res (i := 0) rfl))) ?_))
              | (refine atd 152 (by rfl) ?_; refine wl (by rfl) (wp_of_run (run_str (xs := 8 :: l) (by rfl) (by rfl) (HS.out.fact (i := 0) rfl)) ?_))
              | (refine atd 155 (by rfl) ?_; refine wl (by rfl) (wp_of_run (run_b56z (by rfl)) ?_))
              | (refine sto 2 (by rfl) ?_; refine wl (by rfl) (s_sta (cs := rcs (zq 0) (.slice none 0 0) (.slice none 0 0)) HS.out 3 70 (by rfl) (by rfl) (by rfl) ag56 (by rfl) (by exact rcs_length (zq_ok 0) _ _) (by exact cells_rq _ rfl rfl) (by exact Nat.le_of_eq (rcs_length (zq_ok _) _ _).symm) ?_); intro Wn hS; rw [splice_all ((rcs_length (zq_ok 0) _ _).trans (rcs_length (zq_ok _) _ _).symm)] at hS; clear HS; have HS := Lib.hid hS; clear hS))
            exact bodyPost_ret (ret_ct56 (p := 2) (u := 3) rfl _ b2 _ 56 (0, 0) _ (by rfl) (by rfl) (HS.out.blk (i := 3) rfl) (by rw [List.size_toArray]; exact rcs_length (zq_ok 0) _ _)) rfl ⟨zq 0, (.slice none 0 0), (.slice none 0 0), 290, rfl, HP, (((((HS.out.sub 0).sub 0).sub 0).sub 0).dropF (Gs := []) (fun G hG => by cases hG)).nilRow.nilRow⟩
      have m1 : ¬ ((4 * j : Nat) : Int) + 4 ≤ (M2 : Int) := by omega
      have m1' : ¬ 4 * (j : Int) + 4 ≤ (M2 : Int) := by omega
      have HNE := Lib.hid (nums_end (R := R) hj (by rw [HRL.out]; exact hj4) (by rw [HRL.out]; exact .inr (by omega)))
      have i07 : (0 : Int) < (j : Int) + 2 := by omega
      have i17 : (1 : Int) < (j : Int) + 2 := by omega
      go_wp2_with (first
        | (refine atd 82 (by rfl) ?_; refine wl (by rfl) (s_bs (E := 48) (z := (.int .u32 0)) HS.out 2 1 [.int .u32 0, .int .u32 0] (by rfl) Try.underlying95 (by kernel_rfl) (by rfl) (by decide) (by decide) (by kernel_rfl) (by rfl) (by decide) ?_); intro b82 Wn hS; clear HS; have HS := Lib.hid hS; clear hS)
        | (refine atd 83 (by rfl) ?_; refine wl (by rfl) (s_rows (size := 1) (bytes := 4) (z := .int .u32 0) HS.out 1 0 (by rfl) Try.underlying95 (by kernel_rfl) (by rfl) (by decide) (by rfl) (by rfl) (by rfl) (by rfl) (by intro u hu; simp at hu; rcases hu with rfl | rfl <;> rfl) (by omega) (by omega) ?_); intro v83 Wn hS; replace hS := hS.sub 0; clear HS; have HS := Lib.hid hS; clear hS; obtain ⟨g7, c7, rfl⟩ := rowE_some (HS.out.res (i := 0) rfl) (by omega))
        | (refine atd 85 (by rfl) ?_; refine wl (by rfl) (s_ld (v := .int .i64 8) HS.out 1 (by rfl) (by rfl) (by rfl) (by kernel_rfl) (by exact rcs_0 _ _) ?_))
        | (refine atd 142 (by rfl) ?_; refine wl (by rfl) (s_lda (cs := rcs ⟨8, z32, 0, 0, 0, [], (hshV l), []⟩ (.slice none 0 0) (.slice none 0 0)) HS.out 1 70 (by rfl) (by rfl) (by rfl) ag56 (by exact rcs_all (⟨rfl, HHV.out, Nat.zero_lt_succ _, Nat.zero_lt_succ _, Nat.zero_lt_succ _⟩ : Req.ok ⟨8, z32, 0, 0, 0, [], (hshV l), []⟩) _ _) (by exact rcs_length (⟨rfl, HHV.out, Nat.zero_lt_succ _, Nat.zero_lt_succ _, Nat.zero_lt_succ _⟩ : Req.ok ⟨8, z32, 0, 0, 0, [], (hshV l), []⟩) _ _) ?_)))
      refine (enc28 ⟨8, z32, 0, 0, 0, [], (hshV l), []⟩ (.slice none 0 0) (.slice none 0 0) _ (⟨rfl, HHV.out, Nat.zero_lt_succ _, Nat.zero_lt_succ _, Nat.zero_lt_succ _⟩ : Req.ok ⟨8, z32, 0, 0, 0, [], (hshV l), []⟩) (HB.nil _ _ _) (HB.nil _ _ _) (by exact Nat.zero_le _) (by exact Nat.zero_le _)).mono ?_
      rintro e Wn ⟨ve, rfl, hb⟩
      have hS := HS.out.take hb
      clear hb HS
      have HS := Lib.hid hS
      clear hS
      unfold chkI encOQ at *
      obtain ⟨Ae, ke, rfl⟩ := Row.sl (HS.out.res (i := 0) rfl)
      cases hc : chkQ ⟨8, z32, 0, 0, 0, [], (hshV l), []⟩ with
      | false =>
        rw [hc] at HS
        have HD := Lib.hid (HNO.out (fun h => by rw [hc] at h; cases h))
        simp only [Bool.false_eq_true, ↓reduceIte] at HS ⊢
        go_wp2_with (first
          | (refine atd 155 (by rfl) ?_; refine wl (by rfl) (wp_of_run (run_b56z (by rfl)) ?_))
          | (refine sto 2 (by rfl) ?_; refine wl (by rfl) (s_sta (cs := rcs (zq 0) (.slice none 0 0) (.slice none 0 0)) HS.out 3 70 (by rfl) (by rfl) (by rfl) ag56 (by rfl) (by exact rcs_length (zq_ok 0) _ _) (by exact cells_rq _ rfl rfl) (by exact Nat.le_of_eq (rcs_length (zq_ok _) _ _).symm) ?_); intro Wn hS; rw [splice_all ((rcs_length (zq_ok 0) _ _).trans (rcs_length (zq_ok _) _ _).symm)] at hS; clear HS; have HS := Lib.hid hS; clear hS))
        exact bodyPost_ret (ret_ct56 (p := 2) (u := 3) rfl _ b2 _ 56 (0, 0) _ (by rfl) (by rfl) (HS.out.blk (i := 3) rfl) (by rw [List.size_toArray]; exact rcs_length (zq_ok 0) _ _)) rfl ⟨zq 0, (.slice none 0 0), (.slice none 0 0), 290, rfl, HD.out, (((((HS.out.sub 0).sub 0).sub 0).sub 0).dropF (Gs := []) (fun G hG => by cases hG)).nilRow.nilRow⟩
      | true =>
        rw [hc] at HS
        simp only [↓reduceIte] at HS ⊢
        by_cases hd : encQ ⟨8, z32, 0, 0, 0, [], (hshV l), []⟩ = 8 :: l
        · have HP : DecP (8 :: l) ⟨8, z32, 0, 0, 0, [], (hshV l), []⟩ 0 := ⟨(⟨rfl, HHV.out, Nat.zero_lt_succ _, Nat.zero_lt_succ _, Nat.zero_lt_succ _⟩ : Req.ok ⟨8, z32, 0, 0, 0, [], (hshV l), []⟩), .inl ⟨rfl, hc, hd⟩⟩
          rw [hd] at HS ⊢
          clear hd
          go_wp2_with (first
            | (refine atd 150 (by rfl) ?_; refine wl (by rfl) (wp_of_run (run_str (xs := (8 :: l)) (by rfl) (by rfl) (Row.hb (l := (8 :: l)) (HS.out.res (i := 0) rfl))) ?_))
            | (refine atd 152 (by rfl) ?_; refine wl (by rfl) (wp_of_run (run_str (xs := 8 :: l) (by rfl) (by rfl) (HS.out.fact (i := 0) rfl)) ?_))
            | (refine atd 156 (by rfl) ?_; refine wl (by rfl) (s_lda (cs := rcs ⟨8, z32, 0, 0, 0, [], (hshV l), []⟩ (.slice none 0 0) (.slice none 0 0)) HS.out 2 70 (by rfl) (by rfl) (by rfl) ag56 (by exact rcs_all (⟨rfl, HHV.out, Nat.zero_lt_succ _, Nat.zero_lt_succ _, Nat.zero_lt_succ _⟩ : Req.ok ⟨8, z32, 0, 0, 0, [], (hshV l), []⟩) _ _) (by exact rcs_length (⟨rfl, HHV.out, Nat.zero_lt_succ _, Nat.zero_lt_succ _, Nat.zero_lt_succ _⟩ : Req.ok ⟨8, z32, 0, 0, 0, [], (hshV l), []⟩) _ _) ?_))
            | (refine sto 2 (by rfl) ?_; refine wl (by rfl) (s_sta (cs := rcs ⟨8, z32, 0, 0, 0, [], (hshV l), []⟩ (.slice none 0 0) (.slice none 0 0)) HS.out 3 70 (by rfl) (by rfl) (by rfl) ag56 (by rfl) (by exact rcs_length (⟨rfl, HHV.out, Nat.zero_lt_succ _, Nat.zero_lt_succ _, Nat.zero_lt_succ _⟩ : Req.ok ⟨8, z32, 0, 0, 0, [], (hshV l), []⟩) _ _) (by exact cells_rq _ rfl rfl) (by exact Nat.le_of_eq (rcs_length (zq_ok _) _ _).symm) ?_); intro Wn hS; rw [splice_all ((rcs_length (⟨rfl, HHV.out, Nat.zero_lt_succ _, Nat.zero_lt_succ _, Nat.zero_lt_succ _⟩ : Req.ok ⟨8, z32, 0, 0, 0, [], (hshV l), []⟩) _ _).trans (rcs_length (zq_ok _) _ _).symm)] at hS; clear HS; have HS := Lib.hid hS; clear hS))
          exact bodyPost_ret (ret_ct56 (p := 2) (u := 3) rfl _ b2 _ 56 (0, 0) _ (by rfl) (by rfl) (HS.out.blk (i := 3) rfl) (by rw [List.size_toArray]; exact rcs_length (⟨rfl, HHV.out, Nat.zero_lt_succ _, Nat.zero_lt_succ _, Nat.zero_lt_succ _⟩ : Req.ok ⟨8, z32, 0, 0, 0, [], (hshV l), []⟩) _ _)) rfl ⟨⟨8, z32, 0, 0, 0, [], (hshV l), []⟩, (.slice none 0 0), (.slice none 0 0), 0, rfl, HP, (((((HS.out.sub 0).sub 0).sub 0).sub 0).dropF (Gs := []) (fun G hG => by cases hG)).nilRow.nilRow⟩
        · have HP := HNO.out (fun _ => hd)
          have hne : (encQ ⟨8, z32, 0, 0, 0, [], (hshV l), []⟩ == (8 :: l)) = false := beq_eq_false_iff_ne.2 hd
          clear hd
          go_wp2_with (first
            | (refine atd 150 (by rfl) ?_; refine wl (by rfl) (wp_of_run (run_str (xs := (encQ ⟨8, z32, 0, 0, 0, [], (hshV l), []⟩)) (by rfl) (by rfl) (Row.hb (l := (encQ ⟨8, z32, 0, 0, 0, [], (hshV l), []⟩)) (HS.out.res (i := 0) rfl))) ?_))
            | (refine atd 152 (by rfl) ?_; refine wl (by rfl) (wp_of_run (run_str (xs := 8 :: l) (by rfl) (by rfl) (HS.out.fact (i := 0) rfl)) ?_))
            | (refine atd 155 (by rfl) ?_; refine wl (by rfl) (wp_of_run (run_b56z (by rfl)) ?_))
            | (refine sto 2 (by rfl) ?_; refine wl (by rfl) (s_sta (cs := rcs (zq 0) (.slice none 0 0) (.slice none 0 0)) HS.out 3 70 (by rfl) (by rfl) (by rfl) ag56 (by rfl) (by exact rcs_length (zq_ok 0) _ _) (by exact cells_rq _ rfl rfl) (by exact Nat.le_of_eq (rcs_length (zq_ok _) _ _).symm) ?_); intro Wn hS; rw [splice_all ((rcs_length (zq_ok 0) _ _).trans (rcs_length (zq_ok _) _ _).symm)] at hS; clear HS; have HS := Lib.hid hS; clear hS))
          exact bodyPost_ret (ret_ct56 (p := 2) (u := 3) rfl _ b2 _ 56 (0, 0) _ (by rfl) (by rfl) (HS.out.blk (i := 3) rfl) (by rw [List.size_toArray]; exact rcs_length (zq_ok 0) _ _)) rfl ⟨zq 0, (.slice none 0 0), (.slice none 0 0), 290, rfl, HP, (((((HS.out.sub 0).sub 0).sub 0).sub 0).dropF (Gs := []) (fun G hG => by cases hG)).nilRow.nilRow⟩
end
section
open Go Go.RowKit Go.Proofs
attribute [local irreducible] Calls
set_option maxHeartbeats 2000000 in
set_option maxRecDepth 100000 in
theorem dec30is (ad : Addr) (N c M c1 : Nat) (A1 : Option Addr) (l : List UInt8) (w : World) (hv : HB w (.slice (some ad) N c) (9 :: l)) (hl : HB w (.slice A1 M c1) l) (hN : N = M + 1) (hM : l.length = M) (hM2 : M ≤ 5000) (hc0 : Away (Keys []) (fun W => W.cell? (ad.add 0) = some (.int .u8 9)) w) (hs1 : ∀ W, (Instr.slice 22 (.slice (some ad) N c) (some (.int .i64 1)) none none).run Try.prog W = .ok (.slice A1 M c1) W) (h32 : M < 32) :
    Calls Try.prog 30 #[.slice (some ad) N c] w fun e w' => ∃ r s b c, e = .returned (.tuple #[.agg (rcs r s b).toArray, .int .i64 c]) ∧ DecP (9 :: l) r c ∧ St w w' [Row s 5 1 r.sb.length (bs r.sb), Row b 5 1 r.bb.length (bs r.bb)] [] := by
  have z0 : ((N : Int) == 0) = false := beq_eq_false_iff_ne.2 (by omega)
  have z1 : (0 : Int) < (N : Int) := by omega
  have HS := Lib.hid (((((St.start w).addF hl.away0).addF hc0).addF hv.away0))
  have HM := Lib.hid hM
  have d32 : decide ((M : Int) < 32) = true := decide_eq_true (by omega)
  have HD := Lib.hid (show DecP (9 :: l) (zq 0) 290 from ⟨zq_ok 0, .inr ⟨rfl, rfl, fun r' hr hc he => by have := encQ_len3 hr he (by decide) hc; omega⟩⟩)
  clear hv hl hM hN hc0
  go_enter Try.func30, Try.ntmps30
  go_wp2_with (first
    | (refine atd 2 (by rfl) ?_; refine wl (by rfl) (s_al (l := rcs (zq 0) (.slice none 0 0) (.slice none 0 0)) HS.out (by rfl) z56 (by rfl) ?_); intro b2 Wn hS; clear HS; have HS := Lib.hid hS; clear hS)
    | (refine atd 20 (by rfl) ?_; refine wl (by rfl) (wp_of_run (run_ld (v := .int .u8 9) (by kernel_rfl) (by rfl) (by rfl) (HS.out.fact (i := 1) rfl)) ?_))
    | (refine atd 22 (by rfl) ?_; refine wl (by rfl) (wp_of_run (run_b56 (k := 9) (by rfl) (by rfl)) ?_))
    | (refine atd 4 (by rfl) ?_; refine wl (by rfl) (s_al (l := rcs (zq 0) (.slice none 0 0) (.slice none 0 0)) HS.out (by rfl) z56 (by rfl) ?_); intro b4 Wn hS; clear HS; have HS := Lib.hid hS; clear hS)
    | (refine sto 4 (by rfl) ?_; refine wl (by rfl) (s_sta (cs := rcs (zq 9) (.slice none 0 0) (.slice none 0 0)) HS.out 0 70 (by rfl) (by rfl) (by rfl) ag56 (by rfl) (by exact rcs_length (zq_ok _) _ _) (by exact cells_rq _ rfl rfl) (by exact Nat.le_of_eq (rcs_length (zq_ok _) _ _).symm) ?_); intro Wn hS; rw [splice_all ((rcs_length (zq_ok _) _ _).trans (rcs_length (zq_ok _) _ _).symm)] at hS; have hS : St w Wn [Blk b4 (rcs ⟨9, z32, 0, 0, 0, [], z32, []⟩ (.slice none 0 0) (.slice none 0 0)) 56, Blk b2 (rcs (zq 0) (.slice none 0 0) (.slice none 0 0)) 56] _ := hS; clear HS; have HS := Lib.hid hS; clear hS)
    | (refine atd 26 (by rfl) ?_; refine wl (by rfl) (s_ld (v := .int .i64 9) HS.out 0 (by rfl) (by rfl) (by rfl) (by kernel_rfl) (by exact rcs_0 _ _) ?_))
    | (refine atd 30 (by rfl) ?_; refine wl (by rfl) (s_ld (v := .int .i64 9) HS.out 0 (by rfl) (by rfl) (by rfl) (by kernel_rfl) (by exact rcs_0 _ _) ?_))
    | (refine atd 35 (by rfl) ?_; refine wl (by rfl) (s_ld (v := .int .i64 9) HS.out 0 (by rfl) (by rfl) (by rfl) (by kernel_rfl) (by exact rcs_0 _ _) ?_))
    | (refine atd 40 (by rfl) ?_; refine wl (by rfl) (s_ld (v := .int .i64 9) HS.out 0 (by rfl) (by rfl) (by rfl) (by kernel_rfl) (by exact rcs_0 _ _) ?_))
    | (refine atd 46 (by rfl) ?_; refine wl (by rfl) (wp_of_run (run_b56z (by rfl)) ?_))
    | (refine sto 2 (by rfl) ?_; refine wl (by rfl) (s_sta (cs := rcs (zq 0) (.slice none 0 0) (.slice none 0 0)) HS.out 1 70 (by rfl) (by rfl) (by rfl) ag56 (by rfl) (by exact rcs_length (zq_ok 0) _ _) (by exact cells_rq _ rfl rfl) (by exact Nat.le_of_eq (rcs_length (zq_ok _) _ _).symm) ?_); intro Wn hS; rw [splice_all ((rcs_length (zq_ok 0) _ _).trans (rcs_length (zq_ok _) _ _).symm)] at hS; clear HS; have HS := Lib.hid hS; clear hS))
  exact bodyPost_ret (ret_ct56 (p := 2) (u := 3) rfl _ b2 _ 56 (0, 0) _ (by rfl) (by rfl) (HS.out.blk (i := 1) rfl) (by rw [List.size_toArray]; exact rcs_length (zq_ok 0) _ _)) rfl ⟨zq 0, (.slice none 0 0), (.slice none 0 0), 290, rfl, HD.out, (((HS.out.sub 0).sub 0).dropF (Gs := []) (fun G hG => by cases hG)).nilRow.nilRow⟩
set_option maxHeartbeats 2000000 in
set_option maxRecDepth 100000 in
theorem dec30i (ad : Addr) (N c M c1 : Nat) (A1 : Option Addr) (l : List UInt8) (w : World) (hv : HB w (.slice (some ad) N c) (9 :: l)) (hl : HB w (.slice A1 M c1) l) (hN : N = M + 1) (hM : l.length = M) (hM2 : M ≤ 5000) (hc0 : Away (Keys []) (fun W => W.cell? (ad.add 0) = some (.int .u8 9)) w) (hs1 : ∀ W, (Instr.slice 22 (.slice (some ad) N c) (some (.int .i64 1)) none none).run Try.prog W = .ok (.slice A1 M c1) W) (A2 : Option Addr) (M2 c2 : Nat) (R : List UInt8) (h32 : 32 ≤ M) (hr : HB w (.slice A2 M2 c2) R) (hR : R.length = M2) (hRl : R = hshL l) (hM22 : M2 ≤ 5000) (hs32 : ∀ W, (Instr.slice 22 (.slice A1 M c1) (some (.int .i64 32)) none none).run Try.prog W = .ok (.slice A2 M2 c2) W) (a1 : Addr) (ha1 : A1 = some a1) :
    Calls Try.prog 30 #[.slice (some ad) N c] w fun e w' => ∃ r s b c, e = .returned (.tuple #[.agg (rcs r s b).toArray, .int .i64 c]) ∧ DecP (9 :: l) r c ∧ St w w' [Row s 5 1 r.sb.length (bs r.sb), Row b 5 1 r.bb.length (bs r.bb)] [] := by
  have z0 : ((N : Int) == 0) = false := beq_eq_false_iff_ne.2 (by omega)
  have z1 : (0 : Int) < (N : Int) := by omega
  have HS := Lib.hid ((((((St.start w).addF hr.away0).addF hl.away0).addF hc0).addF hv.away0))
  have HM := Lib.hid hM
  have hrq : rdF (fldK (((9 : UInt8).toNat : Nat) : Int)) (((9 : UInt8).toNat : Nat) : Int) l = ⟨9, z32, 0, 0, 0, [], (hshV l), []⟩ := rfl
  have HNO := Lib.hid (show (chkQ ⟨9, z32, 0, 0, 0, [], (hshV l), []⟩ = true → encQ ⟨9, z32, 0, 0, 0, [], (hshV l), []⟩ ≠ 9 :: l) → DecP (9 :: l) (zq 0) 290 from fun h => DecP.no fun r e hc => by rw [hrq] at e; subst e; exact h hc)
  clear hrq
  have HHV := Lib.hid (hshV_len l)
  have d32 : decide ((M : Int) < 32) = false := decide_eq_false (by omega)
  have HFL := Lib.hid (show 32 ≤ l.length by omega)
  have HR' := Lib.hid hr
  have HRL := Lib.hid hR; have HRE := Lib.hid hRl
  clear hr hR hRl
  have hb1 := numV_lt R
  have hb8 := numV_lt (numL R)
  clear hv hl hM hN hc0
  go_enter Try.func30, Try.ntmps30
  go_wp2_with (first
    | (refine atd 2 (by rfl) ?_; refine wl (by rfl) (s_al (l := rcs (zq 0) (.slice none 0 0) (.slice none 0 0)) HS.out (by rfl) z56 (by rfl) ?_); intro b2 Wn hS; clear HS; have HS := Lib.hid hS; clear hS)
    | (refine atd 20 (by rfl) ?_; refine wl (by rfl) (wp_of_run (run_ld (v := .int .u8 9) (by kernel_rfl) (by rfl) (by rfl) (HS.out.fact (i := 1) rfl)) ?_))
    | (refine atd 22 (by rfl) ?_; refine wl (by rfl) (wp_of_run (run_b56 (k := 9) (by rfl) (by rfl)) ?_))
    | (refine atd 4 (by rfl) ?_; refine wl (by rfl) (s_al (l := rcs (zq 0) (.slice none 0 0) (.slice none 0 0)) HS.out (by rfl) z56 (by rfl) ?_); intro b4 Wn hS; clear HS; have HS := Lib.hid hS; clear hS)
    | (refine sto 4 (by rfl) ?_; refine wl (by rfl) (s_sta (cs := rcs (zq 9) (.slice none 0 0) (.slice none 0 0)) HS.out 0 70 (by rfl) (by rfl) (by rfl) ag56 (by rfl) (by exact rcs_length (zq_ok _) _ _) (by exact cells_rq _ rfl rfl) (by exact Nat.le_of_eq (rcs_length (zq_ok _) _ _).symm) ?_); intro Wn hS; rw [splice_all ((rcs_length (zq_ok _) _ _).trans (rcs_length (zq_ok _) _ _).symm)] at hS; have hS : St w Wn [Blk b4 (rcs ⟨9, z32, 0, 0, 0, [], z32, []⟩ (.slice none 0 0) (.slice none 0 0)) 56, Blk b2 (rcs (zq 0) (.slice none 0 0) (.slice none 0 0)) 56] _ := hS; clear HS; have HS := Lib.hid hS; clear hS)
    | (refine atd 26 (by rfl) ?_; refine wl (by rfl) (s_ld (v := .int .i64 9) HS.out 0 (by rfl) (by rfl) (by rfl) (by kernel_rfl) (by exact rcs_0 _ _) ?_))
    | (refine atd 30 (by rfl) ?_; refine wl (by rfl) (s_ld (v := .int .i64 9) HS.out 0 (by rfl) (by rfl) (by rfl) (by kernel_rfl) (by exact rcs_0 _ _) ?_))
    | (refine atd 35 (by rfl) ?_; refine wl (by rfl) (s_ld (v := .int .i64 9) HS.out 0 (by rfl) (by rfl) (by rfl) (by kernel_rfl) (by exact rcs_0 _ _) ?_))
    | (refine atd 40 (by rfl) ?_; refine wl (by rfl) (s_ld (v := .int .i64 9) HS.out 0 (by rfl) (by rfl) (by rfl) (by kernel_rfl) (by exact rcs_0 _ _) ?_)))
  subst ha1
  go_loopw [6] (fun s6 wr => ∃ i : Nat, i ≤ 32 ∧ s6 = .int .i64 (i : Int) ∧ St w wr [Blk b4 (rcs ⟨9, z32, 0, 0, 0, [], (hfill l i), []⟩ (.slice none 0 0) (.slice none 0 0)) 56, Blk b2 (rcs (zq 0) (.slice none 0 0) (.slice none 0 0)) 56] [fun W => HB W (.slice (some ad) N c) (9 :: l), fun W => W.cell? (ad.add 0) = some (.int .u8 9), fun W => HB W (.slice (some a1) M c1) l, fun W => HB W (.slice A2 M2 c2) R]) (fun s6 _ => 32 - (intOf s6).toNat)
  case atStart => exact ⟨0, by omega, rfl, by rw [hfill_0]; exact HS.out⟩
  case round =>
    obtain ⟨i, hi, rfl, hs⟩ := hrel
    clear HS
    have HS := Lib.hid hs
    clear hs
    by_cases hlt : i < 32
    · have j1 : (i : Int) < 32 := by omega
      have j2 : (i : Int) < (M : Int) := by omega
      have hil : i < l.length := by have := HM.out; omega
      have hx : l[i]? = some l[i] := List.getElem?_eq_getElem hil
      generalize l[i] = x at hx
      have HX := Lib.hid hx
      clear hx
      go_wp2_with (first
        | (refine atd 55 (by rfl) ?_; refine wl (by rfl) (wp_of_run (run_ld (v := .int .u8 (x.toNat : Int)) (by kernel_rfl) (by rfl) (by rfl) (hb_at (HS.out.fact (i := 2) rfl) HX.out)) ?_))
        | (refine sto 57 (by rfl) ?_; refine wl (by rfl) (s_st (k := 37 + i) (v := .int .u8 (x.toNat : Int)) HS.out 0 (by rfl) (by rfl) (by rfl) (by kernel_rfl) (by rfl) (by rfl) (by rw [rcs_length (⟨rfl, hfill_len HFL.out hi, Nat.zero_lt_succ _, Nat.zero_lt_succ _, Nat.zero_lt_succ _⟩ : Req.ok ⟨9, z32, 0, 0, 0, [], (hfill l i), []⟩)]; omega) ?_); intro Wn hS; rw [rcs_fill _ _ HFL.out hlt x HX.out] at hS; clear HS; have HS := Lib.hid hS; clear hS))
      exact ⟨⟨i + 1, by omega, by push_cast; rfl, HS.out⟩, by simp [intOf]; omega⟩
    have hi32 : i = 32 := by omega
    subst hi32
    have j1 : ¬ (((32 : Nat) : Int) < 32) := by decide
    have hS := HS.out
    rw [hfill_32 HFL.out] at hS
    clear HS
    have HS := Lib.hid hS
    clear hS hlt
    go_wp2_with fail
    go_loopw [7, 8] (fun s7 s8 wr => ∃ (j : Nat) (v7 : Value), j ≤ 2 ∧ 4 * j ≤ M2 ∧ s8 = .int .i64 ((4 * j : Nat) : Int) ∧ s7 = v7 ∧ St w wr [Row v7 48 1 j (nums R j), Blk b4 (rcs ⟨9, z32, 0, 0, 0, [], (hshV l), []⟩ (.slice none 0 0) (.slice none 0 0)) 56, Blk b2 (rcs (zq 0) (.slice none 0 0) (.slice none 0 0)) 56] [fun W => HB W (.slice (some ad) N c) (9 :: l), fun W => W.cell? (ad.add 0) = some (.int .u8 9), fun W => HB W (.slice (some a1) M c1) l, fun W => HB W (.slice A2 M2 c2) R]) (fun _ s8 _ => 8 - (intOf s8).toNat)
    case atStart => exact ⟨0, _, by omega, by omega, rfl, rfl, HS.out.nilRowE 48 1⟩
    case round =>
      obtain ⟨j, v7, hj, hj4, rfl, rfl, hs⟩ := hrel
      clear HS
      have HS := Lib.hid hs
      clear hs
      by_cases hm : 4 * j + 4 ≤ M2
      · have m1 : ((4 * j : Nat) : Int) + 4 ≤ (M2 : Int) := by omega
        have m1' : 4 * (j : Int) + 4 ≤ (M2 : Int) := by omega
        by_cases h2 : j < 2
        · have m2 : ((4 * j : Nat) : Int) < 8 := by omega
          have m2' : 4 * (j : Int) < 8 := by omega
          obtain ⟨AQ, cQ, hQs, hQ⟩ : ∃ AQ cQ, (∀ W, (Instr.slice 22 (.slice A2 M2 c2) (some (.int .i64 (4 * (j : Int)))) (some (.int .i64 (4 * (j : Int) + 4))) none).run Try.prog W = .ok (.slice AQ 4 cQ) W) ∧ ∀ W, HB W (.slice A2 M2 c2) R → HB W (.slice AQ 4 cQ) ((R.drop (4 * j)).take 4) := cut4 (HS.out.fact (i := 3) rfl) hm
          have HQ := Lib.hid hQ
          clear hQ
          have HQl := Lib.hid (show ((R.drop (4 * j)).take 4).length = 4 by rw [List.length_take, List.length_drop, HRL.out]; omega)
          have hn32 := leNum_32 _ HQl.out
          have HNS := Lib.hid (nums_succ R j)
          obtain ⟨n, hn⟩ : ∃ n, leNum ((R.drop (4 * j)).take 4) = n := ⟨_, rfl⟩
          rw [hn] at hn32 HNS
          have HNE := Lib.hid hn
          clear hn
          go_wp2_with (first
            | (go_at_call 38; refine (rnum_any _ _ _ (HQ.out _ (HS.out.fact (i := 3) rfl)) (by rw [HQl.out]; decide)).mono ?_; rw [HNE.out]; rintro e Wn ⟨rfl, hb⟩; have hS := HS.out.call hb; clear hb; clear HS; have HS := Lib.hid hS; clear hS)
            | (refine atd 79 (by rfl) ?_; refine wl (by rfl) (s_bs (E := 48) (z := (.int .u32 0)) HS.out 1 1 [.int .u32 (n : Int)] (by rfl) Try.underlying95 (by kernel_rfl) (by rfl) (by decide) (by decide) (by kernel_rfl) (by rfl) (by decide) ?_); intro b79 Wn hS; clear HS; have HS := Lib.hid hS; clear hS)
            | (refine atd 80 (by rfl) ?_; refine wl (by rfl) (s_rows (size := 1) (bytes := 4) (z := .int .u32 0) HS.out 1 0 (by rfl) Try.underlying95 (by kernel_rfl) (by rfl) (by decide) (by rfl) (by rfl) (by rfl) (by rfl) (by intro u hu; simp at hu; subst hu; rfl) (by omega) (by omega) ?_); intro v80 Wn hS; replace hS := hS.sub 0; clear HS; have HS := Lib.hid hS; clear hS))
          have hS := HS.out
          rw [show nums R j ++ [.int .u32 (n : Int)] = nums R (j + 1) from HNS.out.symm] at hS
          exact ⟨⟨j + 1, _, by omega, by omega, by push_cast; rfl, rfl, hS⟩, by simp [intOf]; omega⟩
        have m2 : ¬ ((4 * j : Nat) : Int) < 8 := by omega
        have m2' : ¬ 4 * (j : Int) < 8 := by omega
        have HNE := Lib.hid (nums_end (R := R) hj (by rw [HRL.out]; exact hj4) (by rw [HRL.out]; exact .inl (by omega)))
        have i07 : (0 : Int) < (j : Int) + 2 := by omega
        have i17 : (1 : Int) < (j : Int) + 2 := by omega
        go_wp2_with (first
          | (refine atd 82 (by rfl) ?_; refine wl (by rfl) (s_bs (E := 48) (z := (.int .u32 0)) HS.out 2 1 [.int .u32 0, .int .u32 0] (by rfl) Try.underlying95 (by kernel_rfl) (by rfl) (by decide) (by decide) (by kernel_rfl) (by rfl) (by decide) ?_); intro b82 Wn hS; clear HS; have HS := Lib.hid hS; clear hS)
          | (refine atd 83 (by rfl) ?_; refine wl (by rfl) (s_rows (size := 1) (bytes := 4) (z := .int .u32 0) HS.out 1 0 (by rfl) Try.underlying95 (by kernel_rfl) (by rfl) (by decide) (by rfl) (by rfl) (by rfl) (by rfl) (by intro u hu; simp at hu; rcases hu with rfl | rfl <;> rfl) (by omega) (by omega) ?_); intro v83 Wn hS; replace hS := hS.sub 0; clear HS; have HS := Lib.hid hS; clear hS; obtain ⟨g7, c7, rfl⟩ := rowE_some (HS.out.res (i := 0) rfl) (by omega))
          | (refine atd 85 (by rfl) ?_; refine wl (by rfl) (s_ld (v := .int .i64 9) HS.out 1 (by rfl) (by rfl) (by rfl) (by kernel_rfl) (by exact rcs_0 _ _) ?_))
          | (refine atd 142 (by rfl) ?_; refine wl (by rfl) (s_lda (cs := rcs ⟨9, z32, 0, 0, 0, [], (hshV l), []⟩ (.slice none 0 0) (.slice none 0 0)) HS.out 1 70 (by rfl) (by rfl) (by rfl) ag56 (by exact rcs_all (⟨rfl, HHV.out, Nat.zero_lt_succ _, Nat.zero_lt_succ _, Nat.zero_lt_succ _⟩ : Req.ok ⟨9, z32, 0, 0, 0, [], (hshV l), []⟩) _ _) (by exact rcs_length (⟨rfl, HHV.out, Nat.zero_lt_succ _, Nat.zero_lt_succ _, Nat.zero_lt_succ _⟩ : Req.ok ⟨9, z32, 0, 0, 0, [], (hshV l), []⟩) _ _) ?_)))
        refine (enc28 ⟨9, z32, 0, 0, 0, [], (hshV l), []⟩ (.slice none 0 0) (.slice none 0 0) _ (⟨rfl, HHV.out, Nat.zero_lt_succ _, Nat.zero_lt_succ _, Nat.zero_lt_succ _⟩ : Req.ok ⟨9, z32, 0, 0, 0, [], (hshV l), []⟩) (HB.nil _ _ _) (HB.nil _ _ _) (by exact Nat.zero_le _) (by exact Nat.zero_le _)).mono ?_
        rintro e Wn ⟨ve, rfl, hb⟩
        have hS := HS.out.take hb
        clear hb HS
        have HS := Lib.hid hS
        clear hS
        unfold chkI encOQ at *
        obtain ⟨Ae, ke, rfl⟩ := Row.sl (HS.out.res (i := 0) rfl)
        cases hc : chkQ ⟨9, z32, 0, 0, 0, [], (hshV l), []⟩ with
        | false =>
          rw [hc] at HS
          have HD := Lib.hid (HNO.out (fun h => by rw [hc] at h; cases h))
          simp only [Bool.false_eq_true, ↓reduceIte] at HS ⊢
          go_wp2_with (first
            | (refine atd 155 (by rfl) ?_; refine wl (by rfl) (wp_of_run (run_b56z (by rfl)) ?_))
            | (refine sto 2 (by rfl) ?_; refine wl (by rfl) (s_sta (cs := rcs (zq 0) (.slice none 0 0) (.slice none 0 0)) HS.out 3 70 (by rfl) (by rfl) (by rfl) ag56 (by rfl) (by exact rcs_length (zq_ok 0) _ _) (by exact cells_rq _ rfl rfl) (by exact Nat.le_of_eq (rcs_length (zq_ok _) _ _).symm) ?_); intro Wn hS; rw [splice_all ((rcs_length (zq_ok 0) _ _).trans (rcs_length (zq_ok _) _ _).symm)] at hS; clear HS; have HS := Lib.hid hS; clear hS))
          exact bodyPost_ret (ret_ct56 (p := 2) (u := 3) rfl _ b2 _ 56 (0, 0) _ (by rfl) (by rfl) (HS.out.blk (i := 3) rfl) (by rw [List.size_toArray]; exact rcs_length (zq_ok 0) _ _)) rfl ⟨zq 0, (.slice none 0 0), (.slice none 0 0), 290, rfl, HD.out, (((((HS.out.sub 0).sub 0).sub 0).sub 0).dropF (Gs := []) (fun G hG => by cases hG)).nilRow.nilRow⟩
        | true =>
          rw [hc] at HS
          simp only [↓reduceIte] at HS ⊢
          by_cases hd : encQ ⟨9, z32, 0, 0, 0, [], (hshV l), []⟩ = 9 :: l
          · have HP : DecP (9 :: l) ⟨9, z32, 0, 0, 0, [], (hshV l), []⟩ 0 := ⟨(⟨rfl, HHV.out, Nat.zero_lt_succ _, Nat.zero_lt_succ _, Nat.zero_lt_succ _⟩ : Req.ok ⟨9, z32, 0, 0, 0, [], (hshV l), []⟩), .inl ⟨rfl, hc, hd⟩⟩
            rw [hd] at HS ⊢
            clear hd
            go_wp2_with (first
              | (refine atd 150 (by rfl) ?_; refine wl (by rfl) (wp_of_run (run_str (xs := (9 :: l)) (by rfl) (by rfl) (Row.hb (l := (9 :: l)) (HS.out.res (i := 0) rfl))) ?_))
              | (refine atd 152 (by rfl) ?_; refine wl (by rfl) (wp_of_run (run_str (xs := 9 :: l) (by rfl) (by rfl) (HS.out.fact (i := 0) rfl)) ?_))
              | (refine atd 156 (by rfl) ?_; refine wl (by rfl) (s_lda (cs := rcs ⟨9, z32, 0, 0, 0, [], (hshV l), []⟩ (.slice none 0 0) (.slice none 0 0)) HS.out 2 70 (by rfl) (by rfl) (by rfl) ag56 (by exact rcs_all (⟨rfl, HHV.out, Nat.zero_lt_succ _, Nat.zero_lt_succ _, Nat.zero_lt_succ _⟩ : Req.ok ⟨9, z32, 0, 0, 0, [], (hshV l), []⟩) _ _) (by exact rcs_length (⟨rfl, HHV.out, Nat.zero_lt_succ _, Nat.zero_lt_succ _, Nat.zero_lt_succ _⟩ : Req.ok ⟨9, z32, 0, 0, 0, [], (hshV l), []⟩) _ _) ?_))
              | (refine sto 2 (by rfl) ?_; refine wl (by rfl) (s_sta (cs := rcs ⟨9, z32, 0, 0, 0, [], (hshV l), []⟩ (.slice none 0 0) (.slice none 0 0)) HS.out 3 70 (by rfl) (by rfl) (by rfl) ag56 (by rfl) (by exact rcs_length (⟨rfl, HHV.out, Nat.zero_lt_succ _, Nat.zero_lt_succ _, Nat.zero_lt_succ _⟩ : Req.ok ⟨9, z32, 0, 0, 0, [], (hshV l), []⟩) _ _) (by exact cells_rq _ rfl rfl) (by exact Nat.le_of_eq (rcs_length (zq_ok _) _ _).symm) ?_); intro Wn hS; rw [splice_all ((rcs_length (⟨rfl, HHV.out, Nat.zero_lt_succ _, Nat.zero_lt_succ _, Nat.zero_lt_succ _⟩ : Req.ok ⟨9, z32, 0, 0, 0, [], (hshV l), []⟩) _ _).trans (rcs_length (zq_ok _) _ _).symm)] at hS; clear HS; have HS := Lib.hid hS; clear hS))
            exact bodyPost_ret (ret_ct56 (p := 2) (u := 3) rfl _ b2 _ 56 (0, 0) _ (by rfl) (by rfl) (HS.out.blk (i := 3) rfl) (by rw [List.size_toArray]; exact rcs_length (⟨rfl, HHV.out, Nat.zero_lt_succ _, Nat.zero_lt_succ _, Nat.zero_lt_succ _⟩ : Req.ok ⟨9, z32, 0, 0, 0, [], (hshV l), []⟩) _ _)) rfl ⟨⟨9, z32, 0, 0, 0, [], (hshV l), []⟩, (.slice none 0 0), (.slice none 0 0), 0, rfl, HP, (((((HS.out.sub 0).sub 0).sub 0).sub 0).dropF (Gs := []) (fun G hG => by cases hG)).nilRow.nilRow⟩
          · have HP := HNO.out (fun _ => hd)
            have hne : (encQ ⟨9, z32, 0, 0, 0, [], (hshV l), []⟩ == (9 :: l)) = false := beq_eq_false_iff_ne.2 hd
            clear hd
            go_wp2_with (first
              | (refine atd 150 (by rfl) ?_; refine wl (by rfl) (wp_of_run (run_str (xs := (encQ ⟨9, z32, 0, 0, 0, [], (hshV l), []⟩)) (by rfl) (by rfl) (Row.hb (l := (encQ ⟨9, z32, 0, 0, 0, [], (hshV l), []⟩)) (HS.out.res (i := 0) rfl))) ?_))
              | (refine atd 152 (by rfl) ?_; refine wl (by rfl) (wp_of_run (run_str (xs := 9 :: l) (by rfl) (by rfl) (HS.out.fact (i := 0) rfl)) ?_))
              | (refine atd 155 (by rfl) ?_; refine wl (by rfl) (wp_of_run (run_b56z (by rfl)) ?_))
              | (refine sto 2 (by rfl) ?_; refine wl (by rfl) (s_sta (cs := rcs (zq 0) (.slice none 0 0) (.slice none 0 0)) HS.out 3 70 (by rfl) (by rfl) (by rfl) ag56 (by rfl) (by exact rcs_length (zq_ok 0) _ _) (by exact cells_rq _ rfl rfl) (by exact Nat.le_of_eq (rcs_length (zq_ok _) _ _).symm) ?_); intro Wn hS; rw [splice_all ((rcs_length (zq_ok 0) _ _).trans (rcs_length (zq_ok _) _ _).symm)] at hS; clear HS; have HS := Lib.hid hS; clear hS))
            exact bodyPost_ret (ret_ct56 (p := 2) (u := 3) rfl _ b2 _ 56 (0, 0) _ (by rfl) (by rfl) (HS.out.blk (i := 3) rfl) (by rw [List.size_toArray]; exact rcs_length (zq_ok 0) _ _)) rfl ⟨zq 0, (.slice none 0 0), (.slice none 0 0), 290, rfl, HP, (((((HS.out.sub 0).sub 0).sub 0).sub 0).dropF (Gs := []) (fun G hG => by cases hG)).nilRow.nilRow⟩
      have m1 : ¬ ((4 * j : Nat) : Int) + 4 ≤ (M2 : Int) := by omega
      have m1' : ¬ 4 * (j : Int) + 4 ≤ (M2 : Int) := by omega
      have HNE := Lib.hid (nums_end (R := R) hj (by rw [HRL.out]; exact hj4) (by rw [HRL.out]; exact .inr (by omega)))
      have i07 : (0 : Int) < (j : Int) + 2 := by omega
      have i17 : (1 : Int) < (j : Int) + 2 := by omega
      go_wp2_with (first
        | (refine atd 82 (by rfl) ?_; refine wl (by rfl) (s_bs (E := 48) (z := (.int .u32 0)) HS.out 2 1 [.int .u32 0, .int .u32 0] (by rfl) Try.underlying95 (by kernel_rfl) (by rfl) (by decide) (by decide) (by kernel_rfl) (by rfl) (by decide) ?_); intro b82 Wn hS; clear HS; have HS := Lib.hid hS; clear hS)
        | (refine atd 83 (by rfl) ?_; refine wl (by rfl) (s_rows (size := 1) (bytes := 4) (z := .int .u32 0) HS.out 1 0 (by rfl) Try.underlying95 (by kernel_rfl) (by rfl) (by decide) (by rfl) (by rfl) (by rfl) (by rfl) (by intro u hu; simp at hu; rcases hu with rfl | rfl <;> rfl) (by omega) (by omega) ?_); intro v83 Wn hS; replace hS := hS.sub 0; clear HS; have HS := Lib.hid hS; clear hS; obtain ⟨g7, c7, rfl⟩ := rowE_some (HS.out.res (i := 0) rfl) (by omega))
        | (refine atd 85 (by rfl) ?_; refine wl (by rfl) (s_ld (v := .int .i64 9) HS.out 1 (by rfl) (by rfl) (by rfl) (by kernel_rfl) (by exact rcs_0 _ _) ?_))
        | (refine atd 142 (by rfl) ?_; refine wl (by rfl) (s_lda (cs := rcs ⟨9, z32, 0, 0, 0, [], (hshV l), []⟩ (.slice none 0 0) (.slice none 0 0)) HS.out 1 70 (by rfl) (by rfl) (by rfl) ag56 (by exact rcs_all (⟨rfl, HHV.out, Nat.zero_lt_succ _, Nat.zero_lt_succ _, Nat.zero_lt_succ _⟩ : Req.ok ⟨9, z32, 0, 0, 0, [], (hshV l), []⟩) _ _) (by exact rcs_length (⟨rfl, HHV.out, Nat.zero_lt_succ _, Nat.zero_lt_succ _, Nat.zero_lt_succ _⟩ : Req.ok ⟨9, z32, 0, 0, 0, [], (hshV l), []⟩) _ _) ?_)))
      refine (enc28 ⟨9, z32, 0, 0, 0, [], (hshV l), []⟩ (.slice none 0 0) (.slice none 0 0) _ (⟨rfl, HHV.out, Nat.zero_lt_succ _, Nat.zero_lt_succ _, Nat.zero_lt_succ _⟩ : Req.ok ⟨9, z32, 0, 0, 0, [], (hshV l), []⟩) (HB.nil _ _ _) (HB.nil _ _ _) (by exact Nat.zero_le _) (by exact Nat.zero_le _)).mono ?_
      rintro e Wn ⟨ve, rfl, hb⟩
      have hS := HS.out.take hb
      clear hb HS
      have HS := Lib.hid hS
      clear hS
      unfold chkI encOQ at *
      obtain ⟨Ae, ke, rfl⟩ := Row.sl (HS.out.res (i := 0) rfl)
      cases hc : chkQ ⟨9, z32, 0, 0, 0, [], (hshV l), []⟩ with
      | false =>
        rw [hc] at HS
        have HD := Lib.hid (HNO.out (fun h => by rw [hc] at h; cases h))
        simp only [Bool.false_eq_true, ↓reduceIte] at HS ⊢
        go_wp2_with (first
          | (refine atd 155 (by rfl) ?_; refine wl (by rfl) (wp_of_run (run_b56z (by rfl)) ?_))
          | (refine sto 2 (by rfl) ?_; refine wl (by rfl) (s_sta (cs := rcs (zq 0) (.slice none 0 0) (.slice none 0 0)) HS.out 3 70 (by rfl) (by rfl) (by rfl) ag56 (by rfl) (by exact rcs_length (zq_ok 0) _ _) (by exact cells_rq _ rfl rfl) (by exact Nat.le_of_eq (rcs_length (zq_ok _) _ _).symm) ?_); intro Wn hS; rw [splice_all ((rcs_length (zq_ok 0) _ _).trans (rcs_length (zq_ok _) _ _).symm)] at hS; clear HS; have HS := Lib.hid hS; clear hS))
        exact bodyPost_ret (ret_ct56 (p := 2) (u := 3) rfl _ b2 _ 56 (0, 0) _ (by rfl) (by rfl) (HS.out.blk (i := 3) rfl) (by rw [List.size_toArray]; exact rcs_length (zq_ok 0) _ _)) rfl ⟨zq 0, (.slice none 0 0), (.slice none 0 0), 290, rfl, HD.out, (((((HS.out.sub 0).sub 0).sub 0).sub 0).dropF (Gs := []) (fun G hG => by cases hG)).nilRow.nilRow⟩
      | true =>
        rw [hc] at HS
        simp only [↓reduceIte] at HS ⊢
        by_cases hd : encQ ⟨9, z32, 0, 0, 0, [], (hshV l), []⟩ = 9 :: l
        · have HP : DecP (9 :: l) ⟨9, z32, 0, 0, 0, [], (hshV l), []⟩ 0 := ⟨(⟨rfl, HHV.out, Nat.zero_lt_succ _, Nat.zero_lt_succ _, Nat.zero_lt_succ _⟩ : Req.ok ⟨9, z32, 0, 0, 0, [], (hshV l), []⟩), .inl ⟨rfl, hc, hd⟩⟩
          rw [hd] at HS ⊢
          clear hd
          go_wp2_with (first
            | (refine atd 150 (by rfl) ?_; refine wl (by rfl) (wp_of_run (run_str (xs := (9 :: l)) (by rfl) (by rfl) (Row.hb (l := (9 :: l)) (HS.out.res (i := 0) rfl))) ?_))
            | (refine atd 152 (by rfl) ?_; refine wl (by rfl) (wp_of_run (run_str (xs := 9 :: l) (by rfl) (by rfl) (HS.out.fact (i := 0) rfl)) ?_))
            | (refine atd 156 (by rfl) ?_; refine wl (by rfl) (s_lda (cs := rcs ⟨9, z32, 0, 0, 0, [], (hshV l), []⟩ (.slice none 0 0) (.slice none 0 0)) HS.out 2 70 (by rfl) (by rfl) (by rfl) ag56 (by exact rcs_all (⟨rfl, HHV.out, Nat.zero_lt_succ _, Nat.zero_lt_succ _, Nat.zero_lt_succ _⟩ : Req.ok ⟨9, z32, 0, 0, 0, [], (hshV l), []⟩) _ _) (by exact rcs_length (⟨rfl, HHV.out, Nat.zero_lt_succ _, Nat.zero_lt_succ _, Nat.zero_lt_succ _⟩ : Req.ok ⟨9, z32, 0, 0, 0, [], (hshV l), []⟩) _ _) ?_))
            | (refine sto 2 (by rfl) ?_; refine wl (by rfl) (s_sta (cs := rcs ⟨9, z32, 0, 0, 0, [], (hshV l), []⟩ (.slice none 0 0) (.slice none 0 0)) HS.out 3 70 (by rfl) (by rfl) (by rfl) ag56 (by rfl) (by exact rcs_length (⟨rfl, HHV.out, Nat.zero_lt_succ _, Nat.zero_lt_succ _, Nat.zero_lt_succ _⟩ : Req.ok ⟨9, z32, 0, 0, 0, [], (hshV l), []⟩) _ _) (by exact cells_rq _ rfl rfl) (by exact Nat.le_of_eq (rcs_length (zq_ok _) _ _).symm) ?_); intro Wn hS; rw [splice_all ((rcs_length (⟨rfl, HHV.out, Nat.zero_lt_succ _, Nat.zero_lt_succ _, Nat.zero_lt_succ _⟩ : Req.ok ⟨9, z32, 0, 0, 0, [], (hshV l), []⟩) _ _).trans (rcs_length (zq_ok _) _ _).symm)] at hS; clear HS; have HS := Lib.hid hS; clear hS))
          exact bodyPost_ret (ret_ct56 (p := 2) (u := 3) rfl _ b2 _ 56 (0, 0) _ (by rfl) (by rfl) (HS.out.blk (i := 3) rfl) (by rw [List.size_toArray]; exact rcs_length (⟨rfl, HHV.out, Nat.zero_lt_succ _, Nat.zero_lt_succ _, Nat.zero_lt_succ _⟩ : Req.ok ⟨9, z32, 0, 0, 0, [], (hshV l), []⟩) _ _)) rfl ⟨⟨9, z32, 0, 0, 0, [], (hshV l), []⟩, (.slice none 0 0), (.slice none 0 0), 0, rfl, HP, (((((HS.out.sub 0).sub 0).sub 0).sub 0).dropF (Gs := []) (fun G hG => by cases hG)).nilRow.nilRow⟩
        · have HP := HNO.out (fun _ => hd)
          have hne : (encQ ⟨9, z32, 0, 0, 0, [], (hshV l), []⟩ == (9 :: l)) = false := beq_eq_false_iff_ne.2 hd
          clear hd
          go_wp2_with (first
            | (refine atd 150 (by rfl) ?_; refine wl (by rfl) (wp_of_run (run_str (xs := (encQ ⟨9, z32, 0, 0, 0, [], (hshV l), []⟩)) (by rfl) (by rfl) (Row.hb (l := (encQ ⟨9, z32, 0, 0, 0, [], (hshV l), []⟩)) (HS.out.res (i := 0) rfl))) ?_))
            | (refine atd 152 (by rfl) ?_; refine wl (by rfl) (wp_of_run (run_str (xs := 9 :: l) (by rfl) (by rfl) (HS.out.fact (i := 0) rfl)) ?_))
            | (refine atd 155 (by rfl) ?_; refine wl (by rfl) (wp_of_run (run_b56z (by rfl)) ?_))
            | (refine sto 2 (by rfl) ?_; refine wl (by rfl) (s_sta (cs := rcs (zq 0) (.slice none 0 0) (.slice none 0 0)) HS.out 3 70 (by rfl) (by rfl) (by rfl) ag56 (by rfl) (by exact rcs_length (zq_ok 0) _ _) (by exact cells_rq _ rfl rfl) (by exact Nat.le_of_eq (rcs_length (zq_ok _) _ _).symm) ?_); intro Wn hS; rw [splice_all ((rcs_length (zq_ok 0) _ _).trans (rcs_length (zq_ok _) _ _).symm)] at hS; clear HS; have HS := Lib.hid hS; clear hS))
          exact bodyPost_ret (ret_ct56 (p := 2) (u := 3) rfl _ b2 _ 56 (0, 0) _ (by rfl) (by rfl) (HS.out.blk (i := 3) rfl) (by rw [List.size_toArray]; exact rcs_length (zq_ok 0) _ _)) rfl ⟨zq 0, (.slice none 0 0), (.slice none 0 0), 290, rfl, HP, (((((HS.out.sub 0).sub 0).sub 0).sub 0).dropF (Gs := []) (fun G hG => by cases hG)).nilRow.nilRow⟩
end
end Go.Proofs.Ytlpklbpaknemaaa
