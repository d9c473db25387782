/- Contracts and words that the laws stand on (ExM). -/
import Derived.Test.YtlpklbpaknemaaaExI
import Derived.Test.YtlpklbpaknemaaaExJ
import Derived.Test.YtlpklbpaknemaaaExL
set_option linter.unusedVariables false
set_option linter.unusedSimpArgs false
namespace Go.Proofs.Ytlpklbpaknemaaa
section
open Go Go.RowKit Go.Proofs
attribute [local irreducible] Calls
set_option maxHeartbeats 2000000 in
set_option maxRecDepth 100000 in
theorem dec30j (ad : Addr) (N c M c1 : Nat) (A1 : Option Addr) (l : List UInt8) (w : World) (hv : HB w (.slice (some ad) N c) (10 :: l)) (hl : HB w (.slice A1 M c1) l) (hN : N = M + 1) (hM : l.length = M) (hM2 : M ≤ 5000) (hc0 : Away (Keys []) (fun W => W.cell? (ad.add 0) = some (.int .u8 10)) w) (hs1 : ∀ W, (Instr.slice 22 (.slice (some ad) N c) (some (.int .i64 1)) none none).run Try.prog W = .ok (.slice A1 M c1) W) :
    Calls Try.prog 30 #[.slice (some ad) N c] w fun e w' => ∃ r s b c, e = .returned (.tuple #[.agg (rcs r s b).toArray, .int .i64 c]) ∧ DecP (10 :: l) r c ∧ St w w' [Row s 5 1 r.sb.length (bs r.sb), Row b 5 1 r.bb.length (bs r.bb)] [] := by
  have z0 : ((N : Int) == 0) = false := beq_eq_false_iff_ne.2 (by omega)
  have z1 : (0 : Int) < (N : Int) := by omega
  have HS := Lib.hid (((((St.start w).addF hl.away0).addF hc0).addF hv.away0))
  have HM := Lib.hid hM
  have hrq : rdF (fldK (((10 : UInt8).toNat : Nat) : Int)) (((10 : UInt8).toNat : Nat) : Int) l = ⟨10, z32, 0, 0, 0, [], z32, []⟩ := rfl
  have HNO := Lib.hid (show (chkQ ⟨10, z32, 0, 0, 0, [], z32, []⟩ = true → encQ ⟨10, z32, 0, 0, 0, [], z32, []⟩ ≠ 10 :: l) → DecP (10 :: l) (zq 0) 290 from fun h => DecP.no fun r e hc => by rw [hrq] at e; subst e; exact h hc)
  clear hrq
  have HHV := Lib.hid (hshV_len l)
  have HRL := Lib.hid hM
  have hb1 := numV_lt l
  have hb8 := numV_lt (numL l)
  clear hv hl hM hN hc0
  go_enter Try.func30, Try.ntmps30
  go_wp2_with (first
    | (refine atd 2 (by rfl) ?_; refine wl (by rfl) (s_al (l := rcs (zq 0) (.slice none 0 0) (.slice none 0 0)) HS.out (by rfl) z56 (by rfl) ?_); intro b2 Wn hS; clear HS; have HS := Lib.hid hS; clear hS)
    | (refine atd 20 (by rfl) ?_; refine wl (by rfl) (wp_of_run (run_ld (v := .int .u8 10) (by kernel_rfl) (by rfl) (by rfl) (HS.out.fact (i := 1) rfl)) ?_))
    | (refine atd 22 (by rfl) ?_; refine wl (by rfl) (wp_of_run (run_b56 (k := 10) (by rfl) (by rfl)) ?_))
    | (refine atd 4 (by rfl) ?_; refine wl (by rfl) (s_al (l := rcs (zq 0) (.slice none 0 0) (.slice none 0 0)) HS.out (by rfl) z56 (by rfl) ?_); intro b4 Wn hS; clear HS; have HS := Lib.hid hS; clear hS)
    | (refine sto 4 (by rfl) ?_; refine wl (by rfl) (s_sta (cs := rcs (zq 10) (.slice none 0 0) (.slice none 0 0)) HS.out 0 70 (by rfl) (by rfl) (by rfl) ag56 (by rfl) (by exact rcs_length (zq_ok _) _ _) (by exact cells_rq _ rfl rfl) (by exact Nat.le_of_eq (rcs_length (zq_ok _) _ _).symm) ?_); intro Wn hS; rw [splice_all ((rcs_length (zq_ok _) _ _).trans (rcs_length (zq_ok _) _ _).symm)] at hS; have hS : St w Wn [Blk b4 (rcs ⟨10, z32, 0, 0, 0, [], z32, []⟩ (.slice none 0 0) (.slice none 0 0)) 56, Blk b2 (rcs (zq 0) (.slice none 0 0) (.slice none 0 0)) 56] _ := hS; clear HS; have HS := Lib.hid hS; clear hS)
    | (refine atd 26 (by rfl) ?_; refine wl (by rfl) (s_ld (v := .int .i64 10) HS.out 0 (by rfl) (by rfl) (by rfl) (by kernel_rfl) (by exact rcs_0 _ _) ?_))
    | (refine atd 30 (by rfl) ?_; refine wl (by rfl) (s_ld (v := .int .i64 10) HS.out 0 (by rfl) (by rfl) (by rfl) (by kernel_rfl) (by exact rcs_0 _ _) ?_))
    | (refine atd 35 (by rfl) ?_; refine wl (by rfl) (s_ld (v := .int .i64 10) HS.out 0 (by rfl) (by rfl) (by rfl) (by kernel_rfl) (by exact rcs_0 _ _) ?_))
    | (refine atd 40 (by rfl) ?_; refine wl (by rfl) (s_ld (v := .int .i64 10) HS.out 0 (by rfl) (by rfl) (by rfl) (by kernel_rfl) (by exact rcs_0 _ _) ?_)))
  go_loopw [7, 8] (fun s7 s8 wr => ∃ (j : Nat) (v7 : Value), j ≤ 2 ∧ 4 * j ≤ M ∧ s8 = .int .i64 ((4 * j : Nat) : Int) ∧ s7 = v7 ∧ St w wr [Row v7 48 1 j (nums l j), Blk b4 (rcs ⟨10, z32, 0, 0, 0, [], z32, []⟩ (.slice none 0 0) (.slice none 0 0)) 56, Blk b2 (rcs (zq 0) (.slice none 0 0) (.slice none 0 0)) 56] [fun W => HB W (.slice (some ad) N c) (10 :: l), fun W => W.cell? (ad.add 0) = some (.int .u8 10), fun W => HB W (.slice A1 M c1) l]) (fun _ s8 _ => 8 - (intOf s8).toNat)
  case atStart => exact ⟨0, _, by omega, by omega, rfl, rfl, HS.out.nilRowE 48 1⟩
  case round =>
    obtain ⟨j, v7, hj, hj4, rfl, rfl, hs⟩ := hrel
    clear HS
    have HS := Lib.hid hs
    clear hs
    by_cases hm : 4 * j + 4 ≤ M
    · have m1 : ((4 * j : Nat) : Int) + 4 ≤ (M : Int) := by omega
      have m1' : 4 * (j : Int) + 4 ≤ (M : Int) := by omega
      by_cases h2 : j < 2
      · have m2 : ((4 * j : Nat) : Int) < 8 := by omega
        have m2' : 4 * (j : Int) < 8 := by omega
        obtain ⟨AQ, cQ, hQs, hQ⟩ : ∃ AQ cQ, (∀ W, (Instr.slice 22 (.slice A1 M c1) (some (.int .i64 (4 * (j : Int)))) (some (.int .i64 (4 * (j : Int) + 4))) none).run Try.prog W = .ok (.slice AQ 4 cQ) W) ∧ ∀ W, HB W (.slice A1 M c1) l → HB W (.slice AQ 4 cQ) ((l.drop (4 * j)).take 4) := cut4 (HS.out.fact (i := 2) rfl) hm
        have HQ := Lib.hid hQ
        clear hQ
        have HQl := Lib.hid (show ((l.drop (4 * j)).take 4).length = 4 by rw [List.length_take, List.length_drop, HRL.out]; omega)
        have hn32 := leNum_32 _ HQl.out
        have HNS := Lib.hid (nums_succ l j)
        obtain ⟨n, hn⟩ : ∃ n, leNum ((l.drop (4 * j)).take 4) = n := ⟨_, rfl⟩
        rw [hn] at hn32 HNS
        have HNE := Lib.hid hn
        clear hn
        go_wp2_with (first
          | (go_at_call 38; refine (rnum_any _ _ _ (HQ.out _ (HS.out.fact (i := 2) rfl)) (by rw [HQl.out]; decide)).mono ?_; rw [HNE.out]; rintro e Wn ⟨rfl, hb⟩; have hS := HS.out.call hb; clear hb; clear HS; have HS := Lib.hid hS; clear hS)
          | (refine atd 79 (by rfl) ?_; refine wl (by rfl) (s_bs (E := 48) (z := (.int .u32 0)) HS.out 1 1 [.int .u32 (n : Int)] (by rfl) Try.underlying95 (by kernel_rfl) (by rfl) (by decide) (by decide) (by kernel_rfl) (by rfl) (by decide) ?_); intro b79 Wn hS; clear HS; have HS := Lib.hid hS; clear hS)
          | (refine atd 80 (by rfl) ?_; refine wl (by rfl) (s_rows (size := 1) (bytes := 4) (z := .int .u32 0) HS.out 1 0 (by rfl) Try.underlying95 (by kernel_rfl) (by rfl) (by decide) (by rfl) (by rfl) (by rfl) (by rfl) (by intro u hu; simp at hu; subst hu; rfl) (by omega) (by omega) ?_); intro v80 Wn hS; replace hS := hS.sub 0; clear HS; have HS := Lib.hid hS; clear hS))
        have hS := HS.out
        rw [show nums l j ++ [.int .u32 (n : Int)] = nums l (j + 1) from HNS.out.symm] at hS
        exact ⟨⟨j + 1, _, by omega, by omega, by push_cast; rfl, rfl, hS⟩, by simp [intOf]; omega⟩
      have m2 : ¬ ((4 * j : Nat) : Int) < 8 := by omega
      have m2' : ¬ 4 * (j : Int) < 8 := by omega
      have HNE := Lib.hid (nums_end (R := l) hj (by rw [HRL.out]; exact hj4) (by rw [HRL.out]; exact .inl (by omega)))
      have i07 : (0 : Int) < (j : Int) + 2 := by omega
      have i17 : (1 : Int) < (j : Int) + 2 := by omega
      go_wp2_with (first
        | (refine atd 82 (by rfl) ?_; refine wl (by rfl) (s_bs (E := 48) (z := (.int .u32 0)) HS.out 2 1 [.int .u32 0, .int .u32 0] (by rfl) Try.underlying95 (by kernel_rfl) (by rfl) (by decide) (by decide) (by kernel_rfl) (by rfl) (by decide) ?_); intro b82 Wn hS; clear HS; have HS := Lib.hid hS; clear hS)
        | (refine atd 83 (by rfl) ?_; refine wl (by rfl) (s_rows (size := 1) (bytes := 4) (z := .int .u32 0) HS.out 1 0 (by rfl) Try.underlying95 (by kernel_rfl) (by rfl) (by decide) (by rfl) (by rfl) (by rfl) (by rfl) (by intro u hu; simp at hu; rcases hu with rfl | rfl <;> rfl) (by omega) (by omega) ?_); intro v83 Wn hS; replace hS := hS.sub 0; clear HS; have HS := Lib.hid hS; clear hS; obtain ⟨g7, c7, rfl⟩ := rowE_some (HS.out.res (i := 0) rfl) (by omega))
        | (refine atd 85 (by rfl) ?_; refine wl (by rfl) (s_ld (v := .int .i64 10) HS.out 1 (by rfl) (by rfl) (by rfl) (by kernel_rfl) (by exact rcs_0 _ _) ?_))
        | (refine atd 142 (by rfl) ?_; refine wl (by rfl) (s_lda (cs := rcs ⟨10, z32, 0, 0, 0, [], z32, []⟩ (.slice none 0 0) (.slice none 0 0)) HS.out 1 70 (by rfl) (by rfl) (by rfl) ag56 (by exact rcs_all (⟨rfl, rfl, Nat.zero_lt_succ _, Nat.zero_lt_succ _, Nat.zero_lt_succ _⟩ : Req.ok ⟨10, z32, 0, 0, 0, [], z32, []⟩) _ _) (by exact rcs_length (⟨rfl, rfl, Nat.zero_lt_succ _, Nat.zero_lt_succ _, Nat.zero_lt_succ _⟩ : Req.ok ⟨10, z32, 0, 0, 0, [], z32, []⟩) _ _) ?_)))
      refine (enc28 ⟨10, z32, 0, 0, 0, [], z32, []⟩ (.slice none 0 0) (.slice none 0 0) _ (⟨rfl, rfl, Nat.zero_lt_succ _, Nat.zero_lt_succ _, Nat.zero_lt_succ _⟩ : Req.ok ⟨10, z32, 0, 0, 0, [], z32, []⟩) (HB.nil _ _ _) (HB.nil _ _ _) (by exact Nat.zero_le _) (by exact Nat.zero_le _)).mono ?_
      rintro e Wn ⟨ve, rfl, hb⟩
      have hS := HS.out.take hb
      clear hb HS
      have HS := Lib.hid hS
      clear hS
      unfold chkI encOQ at *
      obtain ⟨Ae, ke, rfl⟩ := Row.sl (HS.out.res (i := 0) rfl)
      cases hc : chkQ ⟨10, z32, 0, 0, 0, [], z32, []⟩ with
      | false =>
        rw [hc] at HS
        have HD := Lib.hid (HNO.out (fun h => by rw [hc] at h; cases h))
        simp only [Bool.false_eq_true, ↓reduceIte] at HS ⊢
        go_wp2_with (first
          | (refine atd 155 (by rfl) ?_; refine wl (by rfl) (wp_of_run (run_b56z (by rfl)) ?_))
          | (refine sto 2 (by rfl) ?_; refine wl (by rfl) (s_sta (cs := rcs (zq 0) (.slice none 0 0) (.slice none 0 0)) HS.out 3 70 (by rfl) (by rfl) (by rfl) ag56 (by rfl) (by exact rcs_length (zq_ok 0) _ _) (by exact cells_rq _ rfl rfl) (by exact Nat.le_of_eq (rcs_length (zq_ok _) _ _).symm) ?_); intro Wn hS; rw [splice_all ((rcs_length (zq_ok 0) _ _).trans (rcs_length (zq_ok _) _ _).symm)] at hS; clear HS; have HS := Lib.hid hS; clear hS))
        exact bodyPost_ret (ret_ct56 (p := 2) (u := 3) rfl _ b2 _ 56 (0, 0) _ (by rfl) (by rfl) (HS.out.blk (i := 3) rfl) (by rw [List.size_toArray]; exact rcs_length (zq_ok 0) _ _)) rfl ⟨zq 0, (.slice none 0 0), (.slice none 0 0), 290, rfl, HD.out, (((((HS.out.sub 0).sub 0).sub 0).sub 0).dropF (Gs := []) (fun G hG => by cases hG)).nilRow.nilRow⟩
      | true =>
        rw [hc] at HS
        simp only [↓reduceIte] at HS ⊢
        by_cases hd : encQ ⟨10, z32, 0, 0, 0, [], z32, []⟩ = 10 :: l
        · have HP : DecP (10 :: l) ⟨10, z32, 0, 0, 0, [], z32, []⟩ 0 := ⟨(⟨rfl, rfl, Nat.zero_lt_succ _, Nat.zero_lt_succ _, Nat.zero_lt_succ _⟩ : Req.ok ⟨10, z32, 0, 0, 0, [], z32, []⟩), .inl ⟨rfl, hc, hd⟩⟩
          rw [hd] at HS ⊢
          clear hd
          go_wp2_with (first
            | (refine atd 150 (by rfl) ?_; refine wl (by rfl) (wp_of_run (run_str (xs := (10 :: l)) (by rfl) (by rfl) (Row.hb (l := (10 :: l)) (HS.out.res (i := 0) rfl))) ?_))
            | (refine atd 152 (by rfl) ?_; refine wl (by rfl) (wp_of_run (run_str (xs := 10 :: l) (by rfl) (by rfl) (HS.out.fact (i := 0) rfl)) ?_))
            | (refine atd 156 (by rfl) ?_; refine wl (by rfl) (s_lda (cs := rcs ⟨10, z32, 0, 0, 0, [], z32, []⟩ (.slice none 0 0) (.slice none 0 0)) HS.out 2 70 (by rfl) (by rfl) (by rfl) ag56 (by exact rcs_all (⟨rfl, rfl, Nat.zero_lt_succ _, Nat.zero_lt_succ _, Nat.zero_lt_succ _⟩ : Req.ok ⟨10, z32, 0, 0, 0, [], z32, []⟩) _ _) (by exact rcs_length (⟨rfl, rfl, Nat.zero_lt_succ _, Nat.zero_lt_succ _, Nat.zero_lt_succ _⟩ : Req.ok ⟨10, z32, 0, 0, 0, [], z32, []⟩) _ _) ?_))
            | (refine sto 2 (by rfl) ?_; refine wl (by rfl) (s_sta (cs := rcs ⟨10, z32, 0, 0, 0, [], z32, []⟩ (.slice none 0 0) (.slice none 0 0)) HS.out 3 70 (by rfl) (by rfl) (by rfl) ag56 (by rfl) (by exact rcs_length (⟨rfl, rfl, Nat.zero_lt_succ _, Nat.zero_lt_succ _, Nat.zero_lt_succ _⟩ : Req.ok ⟨10, z32, 0, 0, 0, [], z32, []⟩) _ _) (by exact cells_rq _ rfl rfl) (by exact Nat.le_of_eq (rcs_length (zq_ok _) _ _).symm) ?_); intro Wn hS; rw [splice_all ((rcs_length (⟨rfl, rfl, Nat.zero_lt_succ _, Nat.zero_lt_succ _, Nat.zero_lt_succ _⟩ : Req.ok ⟨10, z32, 0, 0, 0, [], z32, []⟩) _ _).trans (rcs_length (zq_ok _) _ _).symm)] at hS; clear HS; have HS := Lib.hid hS; clear hS))
          exact bodyPost_ret (ret_ct56 (p := 2) (u := 3) rfl _ b2 _ 56 (0, 0) _ (by rfl) (by rfl) (HS.out.blk (i := 3) rfl) (by rw [List.size_toArray]; exact rcs_length (⟨rfl, rfl, Nat.zero_lt_succ _, Nat.zero_lt_succ _, Nat.zero_lt_succ _⟩ : Req.ok ⟨10, z32, 0, 0, 0, [], z32, []⟩) _ _)) rfl ⟨⟨10, z32, 0, 0, 0, [], z32, []⟩, (.slice none 0 0), (.slice none 0 0), 0, rfl, HP, (((((HS.out.sub 0).sub 0).sub 0).sub 0).dropF (Gs := []) (fun G hG => by cases hG)).nilRow.nilRow⟩
        · have HP := HNO.out (fun _ => hd)
          have hne : (encQ ⟨10, z32, 0, 0, 0, [], z32, []⟩ == (10 :: l)) = false := beq_eq_false_iff_ne.2 hd
          clear hd
          go_wp2_with (first
            | (refine atd 150 (by rfl) ?_; refine wl (by rfl) (wp_of_run (run_str (xs := (encQ ⟨10, z32, 0, 0, 0, [], z32, []⟩)) (by rfl) (by rfl) (Row.hb (l := (encQ ⟨10, z32, 0, 0, 0, [], z32, []⟩)) (HS.out.res (i := 0) rfl))) ?_))
            | (refine atd 152 (by rfl) ?_; refine wl (by rfl) (wp_of_run (run_str (xs := 10 :: l) (by rfl) (by rfl) (HS.out.fact (i := 0) rfl)) ?_))
            | (refine atd 155 (by rfl) ?_; refine wl (by rfl) (wp_of_run (run_b56z (by rfl)) ?_))
            | (refine sto 2 (by rfl) ?_; refine wl (by rfl) (s_sta (cs := rcs (zq 0) (.slice none 0 0) (.slice none 0 0)) HS.out 3 70 (by rfl) (by rfl) (by rfl) ag56 (by rfl) (by exact rcs_length (zq_ok 0) _ _) (by exact cells_rq _ rfl rfl) (by exact Nat.le_of_eq (rcs_length (zq_ok _) _ _).symm) ?_); intro Wn hS; rw [splice_all ((rcs_length (zq_ok 0) _ _).trans (rcs_length (zq_ok _) _ _).symm)] at hS; clear HS; have HS := Lib.hid hS; clear hS))
          exact bodyPost_ret (ret_ct56 (p := 2) (u := 3) rfl _ b2 _ 56 (0, 0) _ (by rfl) (by rfl) (HS.out.blk (i := 3) rfl) (by rw [List.size_toArray]; exact rcs_length (zq_ok 0) _ _)) rfl ⟨zq 0, (.slice none 0 0), (.slice none 0 0), 290, rfl, HP, (((((HS.out.sub 0).sub 0).sub 0).sub 0).dropF (Gs := []) (fun G hG => by cases hG)).nilRow.nilRow⟩
    have m1 : ¬ ((4 * j : Nat) : Int) + 4 ≤ (M : Int) := by omega
    have m1' : ¬ 4 * (j : Int) + 4 ≤ (M : Int) := by omega
    have HNE := Lib.hid (nums_end (R := l) hj (by rw [HRL.out]; exact hj4) (by rw [HRL.out]; exact .inr (by omega)))
    have i07 : (0 : Int) < (j : Int) + 2 := by omega
    have i17 : (1 : Int) < (j : Int) + 2 := by omega
    go_wp2_with (first
      | (refine atd 82 (by rfl) ?_; refine wl (by rfl) (s_bs (E := 48) (z := (.int .u32 0)) HS.out 2 1 [.int .u32 0, .int .u32 0] (by rfl) Try.underlying95 (by kernel_rfl) (by rfl) (by decide) (by decide) (by kernel_rfl) (by rfl) (by decide) ?_); intro b82 Wn hS; clear HS; have HS := Lib.hid hS; clear hS)
      | (refine atd 83 (by rfl) ?_; refine wl (by rfl) (s_rows (size := 1) (bytes := 4) (z := .int .u32 0) HS.out 1 0 (by rfl) Try.underlying95 (by kernel_rfl) (by rfl) (by decide) (by rfl) (by rfl) (by rfl) (by rfl) (by intro u hu; simp at hu; rcases hu with rfl | rfl <;> rfl) (by omega) (by omega) ?_); intro v83 Wn hS; replace hS := hS.sub 0; clear HS; have HS := Lib.hid hS; clear hS; obtain ⟨g7, c7, rfl⟩ := rowE_some (HS.out.res (i := 0) rfl) (by omega))
      | (refine atd 85 (by rfl) ?_; refine wl (by rfl) (s_ld (v := .int .i64 10) HS.out 1 (by rfl) (by rfl) (by rfl) (by kernel_rfl) (by exact rcs_0 _ _) ?_))
      | (refine atd 142 (by rfl) ?_; refine wl (by rfl) (s_lda (cs := rcs ⟨10, z32, 0, 0, 0, [], z32, []⟩ (.slice none 0 0) (.slice none 0 0)) HS.out 1 70 (by rfl) (by rfl) (by rfl) ag56 (by exact rcs_all (⟨rfl, rfl, Nat.zero_lt_succ _, Nat.zero_lt_succ _, Nat.zero_lt_succ _⟩ : Req.ok ⟨10, z32, 0, 0, 0, [], z32, []⟩) _ _) (by exact rcs_length (⟨rfl, rfl, Nat.zero_lt_succ _, Nat.zero_lt_succ _, Nat.zero_lt_succ _⟩ : Req.ok ⟨10, z32, 0, 0, 0, [], z32, []⟩) _ _) ?_)))
    refine (enc28 ⟨10, z32, 0, 0, 0, [], z32, []⟩ (.slice none 0 0) (.slice none 0 0) _ (⟨rfl, rfl, Nat.zero_lt_succ _, Nat.zero_lt_succ _, Nat.zero_lt_succ _⟩ : Req.ok ⟨10, z32, 0, 0, 0, [], z32, []⟩) (HB.nil _ _ _) (HB.nil _ _ _) (by exact Nat.zero_le _) (by exact Nat.zero_le _)).mono ?_
    rintro e Wn ⟨ve, rfl, hb⟩
    have hS := HS.out.take hb
    clear hb HS
    have HS := Lib.hid hS
    clear hS
    unfold chkI encOQ at *
    obtain ⟨Ae, ke, rfl⟩ := Row.sl (HS.out.res (i := 0) rfl)
    cases hc : chkQ ⟨10, z32, 0, 0, 0, [], z32, []⟩ with
    | false =>
      rw [hc] at HS
      have HD := Lib.hid (HNO.out (fun h => by rw [hc] at h; cases h))
      simp only [Bool.false_eq_true, ↓reduceIte] at HS ⊢
      go_wp2_with (first
        | (refine atd 155 (by rfl) ?_; refine wl (by rfl) (wp_of_run (run_b56z (by rfl)) ?_))
        | (refine sto 2 (by rfl) ?_; refine wl (by rfl) (s_sta (cs := rcs (zq 0) (.slice none 0 0) (.slice none 0 0)) HS.out 3 70 (by rfl) (by rfl) (by rfl) ag56 (by rfl) (by exact rcs_length (zq_ok 0) _ _) (by exact cells_rq _ rfl rfl) (by exact Nat.le_of_eq (rcs_length (zq_ok _) _ _).symm) ?_); intro Wn hS; rw [splice_all ((rcs_length (zq_ok 0) _ _).trans (rcs_length (zq_ok _) _ _).symm)] at hS; clear HS; have HS := Lib.hid hS; clear hS))
      exact bodyPost_ret (ret_ct56 (p := 2) (u := 3) rfl _ b2 _ 56 (0, 0) _ (by rfl) (by rfl) (HS.out.blk (i := 3) rfl) (by rw [List.size_toArray]; exact rcs_length (zq_ok 0) _ _)) rfl ⟨zq 0, (.slice none 0 0), (.slice none 0 0), 290, rfl, HD.out, (((((HS.out.sub 0).sub 0).sub 0).sub 0).dropF (Gs := []) (fun G hG => by cases hG)).nilRow.nilRow⟩
    | true =>
      rw [hc] at HS
      simp only [↓reduceIte] at HS ⊢
      by_cases hd : encQ ⟨10, z32, 0, 0, 0, [], z32, []⟩ = 10 :: l
      · have HP : DecP (10 :: l) ⟨10, z32, 0, 0, 0, [], z32, []⟩ 0 := ⟨(⟨rfl, rfl, Nat.zero_lt_succ _, Nat.zero_lt_succ _, Nat.zero_lt_succ _⟩ : Req.ok ⟨10, z32, 0, 0, 0, [], z32, []⟩), .inl ⟨rfl, hc, hd⟩⟩
        rw [hd] at HS ⊢
        clear hd
        go_wp2_with (first
          | (refine atd 150 (by rfl) ?_; refine wl (by rfl) (wp_of_run (run_str (xs := (10 :: l)) (by rfl) (by rfl) (Row.hb (l := (10 :: l)) (HS.out.res (i := 0) rfl))) ?_))
          | (refine atd 152 (by rfl) ?_; refine wl (by rfl) (wp_of_run (run_str (xs := 10 :: l) (by rfl) (by rfl) (HS.out.fact (i := 0) rfl)) ?_))
          | (refine atd 156 (by rfl) ?_; refine wl (by rfl) (s_lda (cs := rcs ⟨10, z32, 0, 0, 0, [], z32, []⟩ (.slice none 0 0) (.slice none 0 0)) HS.out 2 70 (by rfl) (by rfl) (by rfl) ag56 (by exact rcs_all (⟨rfl, rfl, Nat.zero_lt_succ _, Nat.zero_lt_succ _, Nat.zero_lt_succ _⟩ : Req.ok ⟨10, z32, 0, 0, 0, [], z32, []⟩) _ _) (by exact rcs_length (⟨rfl, rfl, Nat.zero_lt_succ _, Nat.zero_lt_succ _, Nat.zero_lt_succ _⟩ : Req.ok ⟨10, z32, 0, 0, 0, [], z32, []⟩) _ _) ?_))
          | (refine sto 2 (by rfl) ?_; refine wl (by rfl) (s_sta (cs := rcs ⟨10, z32, 0, 0, 0, [], z32, []⟩ (.slice none 0 0) (.slice none 0 0)) HS.out 3 70 (by rfl) (by rfl) (by rfl) ag56 (by rfl) (by exact rcs_length (⟨rfl, rfl, Nat.zero_lt_succ _, Nat.zero_lt_succ _, Nat.zero_lt_succ _⟩ : Req.ok ⟨10, z32, 0, 0, 0, [], z32, []⟩) _ _) (by exact cells_rq _ rfl rfl) (by exact Nat.le_of_eq (rcs_length (zq_ok _) _ _).symm) ?_); intro Wn hS; rw [splice_all ((rcs_length (⟨rfl, rfl, Nat.zero_lt_succ _, Nat.zero_lt_succ _, Nat.zero_lt_succ _⟩ : Req.ok ⟨10, z32, 0, 0, 0, [], z32, []⟩) _ _).trans (rcs_length (zq_ok _) _ _).symm)] at hS; clear HS; have HS := Lib.hid hS; clear hS))
        exact bodyPost_ret (ret_ct56 (p := 2) (u := 3) rfl _ b2 _ 56 (0, 0) _ (by rfl) (by rfl) (HS.out.blk (i := 3) rfl) (by rw [List.size_toArray]; exact rcs_length (⟨rfl, rfl, Nat.zero_lt_succ _, Nat.zero_lt_succ _, Nat.zero_lt_succ _⟩ : Req.ok ⟨10, z32, 0, 0, 0, [], z32, []⟩) _ _)) rfl ⟨⟨10, z32, 0, 0, 0, [], z32, []⟩, (.slice none 0 0), (.slice none 0 0), 0, rfl, HP, (((((HS.out.sub 0).sub 0).sub 0).sub 0).dropF (Gs := []) (fun G hG => by cases hG)).nilRow.nilRow⟩
      · have HP := HNO.out (fun _ => hd)
        have hne : (encQ ⟨10, z32, 0, 0, 0, [], z32, []⟩ == (10 :: l)) = false := beq_eq_false_iff_ne.2 hd
        clear hd
        go_wp2_with (first
          | (refine atd 150 (by rfl) ?_; refine wl (by rfl) (wp_of_run (run_str (xs := (encQ ⟨10, z32, 0, 0, 0, [], z32, []⟩)) (by rfl) (by rfl) (Row.hb (l := (encQ ⟨10, z32, 0, 0, 0, [], z32, []⟩)) (HS.out.res (i := 0) rfl))) ?_))
          | (refine atd 152 (by rfl) ?_; refine wl (by rfl) (wp_of_run (run_str (xs := 10 :: l) (by rfl) (by rfl) (HS.out.fact (i := 0) rfl)) ?_))
          | (refine atd 155 (by rfl) ?_; refine wl (by rfl) (wp_of_run (run_b56z (by rfl)) ?_))
          | (refine sto 2 (by rfl) ?_; refine wl (by rfl) (s_sta (cs := rcs (zq 0) (.slice none 0 0) (.slice none 0 0)) HS.out 3 70 (by rfl) (by rfl) (by rfl) ag56 (by rfl) (by exact rcs_length (zq_ok 0) _ _) (by exact cells_rq _ rfl rfl) (by exact Nat.le_of_eq (rcs_length (zq_ok _) _ _).symm) ?_); intro Wn hS; rw [splice_all ((rcs_length (zq_ok 0) _ _).trans (rcs_length (zq_ok _) _ _).symm)] at hS; clear HS; have HS := Lib.hid hS; clear hS))
        exact bodyPost_ret (ret_ct56 (p := 2) (u := 3) rfl _ b2 _ 56 (0, 0) _ (by rfl) (by rfl) (HS.out.blk (i := 3) rfl) (by rw [List.size_toArray]; exact rcs_length (zq_ok 0) _ _)) rfl ⟨zq 0, (.slice none 0 0), (.slice none 0 0), 290, rfl, HP, (((((HS.out.sub 0).sub 0).sub 0).sub 0).dropF (Gs := []) (fun G hG => by cases hG)).nilRow.nilRow⟩
end
section
open Go Go.RowKit Go.Proofs
attribute [local irreducible] Calls
set_option maxHeartbeats 2000000 in
set_option maxRecDepth 100000 in
theorem dec30k (ad : Addr) (N c M c1 : Nat) (A1 : Option Addr) (l : List UInt8) (w : World) (hv : HB w (.slice (some ad) N c) (11 :: l)) (hl : HB w (.slice A1 M c1) l) (hN : N = M + 1) (hM : l.length = M) (hM2 : M ≤ 5000) (hc0 : Away (Keys []) (fun W => W.cell? (ad.add 0) = some (.int .u8 11)) w) (hs1 : ∀ W, (Instr.slice 22 (.slice (some ad) N c) (some (.int .i64 1)) none none).run Try.prog W = .ok (.slice A1 M c1) W) :
    Calls Try.prog 30 #[.slice (some ad) N c] w fun e w' => ∃ r s b c, e = .returned (.tuple #[.agg (rcs r s b).toArray, .int .i64 c]) ∧ DecP (11 :: l) r c ∧ St w w' [Row s 5 1 r.sb.length (bs r.sb), Row b 5 1 r.bb.length (bs r.bb)] [] := by
  have z0 : ((N : Int) == 0) = false := beq_eq_false_iff_ne.2 (by omega)
  have z1 : (0 : Int) < (N : Int) := by omega
  have HS := Lib.hid (((((St.start w).addF hl.away0).addF hc0).addF hv.away0))
  have HM := Lib.hid hM
  have hrq : rdF (fldK (((11 : UInt8).toNat : Nat) : Int)) (((11 : UInt8).toNat : Nat) : Int) l = ⟨11, z32, 0, 0, 0, [], z32, []⟩ := rfl
  have HNO := Lib.hid (show (chkQ ⟨11, z32, 0, 0, 0, [], z32, []⟩ = true → encQ ⟨11, z32, 0, 0, 0, [], z32, []⟩ ≠ 11 :: l) → DecP (11 :: l) (zq 0) 290 from fun h => DecP.no fun r e hc => by rw [hrq] at e; subst e; exact h hc)
  clear hrq
  have HHV := Lib.hid (hshV_len l)
  have HRL := Lib.hid hM
  have hb1 := numV_lt l
  have hb8 := numV_lt (numL l)
  clear hv hl hM hN hc0
  go_enter Try.func30, Try.ntmps30
  go_wp2_with (first
    | (refine atd 2 (by rfl) ?_; refine wl (by rfl) (s_al (l := rcs (zq 0) (.slice none 0 0) (.slice none 0 0)) HS.out (by rfl) z56 (by rfl) ?_); intro b2 Wn hS; clear HS; have HS := Lib.hid hS; clear hS)
    | (refine atd 20 (by rfl) ?_; refine wl (by rfl) (wp_of_run (run_ld (v := .int .u8 11) (by kernel_rfl) (by rfl) (by rfl) (HS.out.fact (i := 1) rfl)) ?_))
    | (refine atd 22 (by rfl) ?_; refine wl (by rfl) (wp_of_run (run_b56 (k := 11) (by rfl) (by rfl)) ?_))
    | (refine atd 4 (by rfl) ?_; refine wl (by rfl) (s_al (l := rcs (zq 0) (.slice none 0 0) (.slice none 0 0)) HS.out (by rfl) z56 (by rfl) ?_); intro b4 Wn hS; clear HS; have HS := Lib.hid hS; clear hS)
    | (refine sto 4 (by rfl) ?_; refine wl (by rfl) (s_sta (cs := rcs (zq 11) (.slice none 0 0) (.slice none 0 0)) HS.out 0 70 (by rfl) (by rfl) (by rfl) ag56 (by rfl) (by exact rcs_length (zq_ok _) _ _) (by exact cells_rq _ rfl rfl) (by exact Nat.le_of_eq (rcs_length (zq_ok _) _ _).symm) ?_); intro Wn hS; rw [splice_all ((rcs_length (zq_ok _) _ _).trans (rcs_length (zq_ok _) _ _).symm)] at hS; have hS : St w Wn [Blk b4 (rcs ⟨11, z32, 0, 0, 0, [], z32, []⟩ (.slice none 0 0) (.slice none 0 0)) 56, Blk b2 (rcs (zq 0) (.slice none 0 0) (.slice none 0 0)) 56] _ := hS; clear HS; have HS := Lib.hid hS; clear hS)
    | (refine atd 26 (by rfl) ?_; refine wl (by rfl) (s_ld (v := .int .i64 11) HS.out 0 (by rfl) (by rfl) (by rfl) (by kernel_rfl) (by exact rcs_0 _ _) ?_))
    | (refine atd 30 (by rfl) ?_; refine wl (by rfl) (s_ld (v := .int .i64 11) HS.out 0 (by rfl) (by rfl) (by rfl) (by kernel_rfl) (by exact rcs_0 _ _) ?_))
    | (refine atd 35 (by rfl) ?_; refine wl (by rfl) (s_ld (v := .int .i64 11) HS.out 0 (by rfl) (by rfl) (by rfl) (by kernel_rfl) (by exact rcs_0 _ _) ?_))
    | (refine atd 40 (by rfl) ?_; refine wl (by rfl) (s_ld (v := .int .i64 11) HS.out 0 (by rfl) (by rfl) (by rfl) (by kernel_rfl) (by exact rcs_0 _ _) ?_)))
  go_loopw [7, 8] (fun s7 s8 wr => ∃ (j : Nat) (v7 : Value), j ≤ 2 ∧ 4 * j ≤ M ∧ s8 = .int .i64 ((4 * j : Nat) : Int) ∧ s7 = v7 ∧ St w wr [Row v7 48 1 j (nums l j), Blk b4 (rcs ⟨11, z32, 0, 0, 0, [], z32, []⟩ (.slice none 0 0) (.slice none 0 0)) 56, Blk b2 (rcs (zq 0) (.slice none 0 0) (.slice none 0 0)) 56] [fun W => HB W (.slice (some ad) N c) (11 :: l), fun W => W.cell? (ad.add 0) = some (.int .u8 11), fun W => HB W (.slice A1 M c1) l]) (fun _ s8 _ => 8 - (intOf s8).toNat)
  case atStart => exact ⟨0, _, by omega, by omega, rfl, rfl, HS.out.nilRowE 48 1⟩
  case round =>
    obtain ⟨j, v7, hj, hj4, rfl, rfl, hs⟩ := hrel
    clear HS
    have HS := Lib.hid hs
    clear hs
    by_cases hm : 4 * j + 4 ≤ M
    · have m1 : ((4 * j : Nat) : Int) + 4 ≤ (M : Int) := by omega
      have m1' : 4 * (j : Int) + 4 ≤ (M : Int) := by omega
      by_cases h2 : j < 2
      · have m2 : ((4 * j : Nat) : Int) < 8 := by omega
        have m2' : 4 * (j : Int) < 8 := by omega
        obtain ⟨AQ, cQ, hQs, hQ⟩ : ∃ AQ cQ, (∀ W, (Instr.slice 22 (.slice A1 M c1) (some (.int .i64 (4 * (j : Int)))) (some (.int .i64 (4 * (j : Int) + 4))) none).run Try.prog W = .ok (.slice AQ 4 cQ) W) ∧ ∀ W, HB W (.slice A1 M c1) l → HB W (.slice AQ 4 cQ) ((l.drop (4 * j)).take 4) := cut4 (HS.out.fact (i := 2) rfl) hm
        have HQ := Lib.hid hQ
        clear hQ
        have HQl := Lib.hid (show ((l.drop (4 * j)).take 4).length = 4 by rw [List.length_take, List.length_drop, HRL.out]; omega)
        have hn32 := leNum_32 _ HQl.out
        have HNS := Lib.hid (nums_succ l j)
        obtain ⟨n, hn⟩ : ∃ n, leNum ((l.drop (4 * j)).take 4) = n := ⟨_, rfl⟩
        rw [hn] at hn32 HNS
        have HNE := Lib.hid hn
        clear hn
        go_wp2_with (first
          | (go_at_call 38; refine (rnum_any _ _ _ (HQ.out _ (HS.out.fact (i := 2) rfl)) (by rw [HQl.out]; decide)).mono ?_; rw [HNE.out]; rintro e Wn ⟨rfl, hb⟩; have hS := HS.out.call hb; clear hb; clear HS; have HS := Lib.hid hS; clear hS)
          | (refine atd 79 (by rfl) ?_; refine wl (by rfl) (s_bs (E := 48) (z := (.int .u32 0)) HS.out 1 1 [.int .u32 (n : Int)] (by rfl) Try.underlying95 (by kernel_rfl) (by rfl) (by decide) (by decide) (by kernel_rfl) (by rfl) (by decide) ?_); intro b79 Wn hS; clear HS; have HS := Lib.hid hS; clear hS)
          | (refine atd 80 (by rfl) ?_; refine wl (by rfl) (s_rows (size := 1) (bytes := 4) (z := .int .u32 0) HS.out 1 0 (by rfl) Try.underlying95 (by kernel_rfl) (by rfl) (by decide) (by rfl) (by rfl) (by rfl) (by rfl) (by intro u hu; simp at hu; subst hu; rfl) (by omega) (by omega) ?_); intro v80 Wn hS; replace hS := hS.sub 0; clear HS; have HS := Lib.hid hS; clear hS))
        have hS := HS.out
        rw [show nums l j ++ [.int .u32 (n : Int)] = nums l (j + 1) from HNS.out.symm] at hS
        exact ⟨⟨j + 1, _, by omega, by omega, by push_cast; rfl, rfl, hS⟩, by simp [intOf]; omega⟩
      have m2 : ¬ ((4 * j : Nat) : Int) < 8 := by omega
      have m2' : ¬ 4 * (j : Int) < 8 := by omega
      have HNE := Lib.hid (nums_end (R := l) hj (by rw [HRL.out]; exact hj4) (by rw [HRL.out]; exact .inl (by omega)))
      have i07 : (0 : Int) < (j : Int) + 2 := by omega
      have i17 : (1 : Int) < (j : Int) + 2 := by omega
      go_wp2_with (first
        | (refine atd 82 (by rfl) ?_; refine wl (by rfl) (s_bs (E := 48) (z := (.int .u32 0)) HS.out 2 1 [.int .u32 0, .int .u32 0] (by rfl) Try.underlying95 (by kernel_rfl) (by rfl) (by decide) (by decide) (by kernel_rfl) (by rfl) (by decide) ?_); intro b82 Wn hS; clear HS; have HS := Lib.hid hS; clear hS)
        | (refine atd 83 (by rfl) ?_; refine wl (by rfl) (s_rows (size := 1) (bytes := 4) (z := .int .u32 0) HS.out 1 0 (by rfl) Try.underlying95 (by kernel_rfl) (by rfl) (by decide) (by rfl) (by rfl) (by rfl) (by rfl) (by intro u hu; simp at hu; rcases hu with rfl | rfl <;> rfl) (by omega) (by omega) ?_); intro v83 Wn hS; replace hS := hS.sub 0; clear HS; have HS := Lib.hid hS; clear hS; obtain ⟨g7, c7, rfl⟩ := rowE_some (HS.out.res (i := 0) rfl) (by omega))
        | (refine atd 85 (by rfl) ?_; refine wl (by rfl) (s_ld (v := .int .i64 11) HS.out 1 (by rfl) (by rfl) (by rfl) (by kernel_rfl) (by exact rcs_0 _ _) ?_))
        | (refine atd 142 (by rfl) ?_; refine wl (by rfl) (s_lda (cs := rcs ⟨11, z32, 0, 0, 0, [], z32, []⟩ (.slice none 0 0) (.slice none 0 0)) HS.out 1 70 (by rfl) (by rfl) (by rfl) ag56 (by exact rcs_all (⟨rfl, rfl, Nat.zero_lt_succ _, Nat.zero_lt_succ _, Nat.zero_lt_succ _⟩ : Req.ok ⟨11, z32, 0, 0, 0, [], z32, []⟩) _ _) (by exact rcs_length (⟨rfl, rfl, Nat.zero_lt_succ _, Nat.zero_lt_succ _, Nat.zero_lt_succ _⟩ : Req.ok ⟨11, z32, 0, 0, 0, [], z32, []⟩) _ _) ?_)))
      refine (enc28 ⟨11, z32, 0, 0, 0, [], z32, []⟩ (.slice none 0 0) (.slice none 0 0) _ (⟨rfl, rfl, Nat.zero_lt_succ _, Nat.zero_lt_succ _, Nat.zero_lt_succ _⟩ : Req.ok ⟨11, z32, 0, 0, 0, [], z32, []⟩) (HB.nil _ _ _) (HB.nil _ _ _) (by exact Nat.zero_le _) (by exact Nat.zero_le _)).mono ?_
      rintro e Wn ⟨ve, rfl, hb⟩
      have hS := HS.out.take hb
      clear hb HS
      have HS := Lib.hid hS
      clear hS
      unfold chkI encOQ at *
      obtain ⟨Ae, ke, rfl⟩ := Row.sl (HS.out.res (i := 0) rfl)
      cases hc : chkQ ⟨11, z32, 0, 0, 0, [], z32, []⟩ with
      | false =>
        rw [hc] at HS
        have HD := Lib.hid (HNO.out (fun h => by rw [hc] at h; cases h))
        simp only [Bool.false_eq_true, ↓reduceIte] at HS ⊢
        go_wp2_with (first
          | (refine atd 155 (by rfl) ?_; refine wl (by rfl) (wp_of_run (run_b56z (by rfl)) ?_))
          | (refine sto 2 (by rfl) ?_; refine wl (by rfl) (s_sta (cs := rcs (zq 0) (.slice none 0 0) (.slice none 0 0)) HS.out 3 70 (by rfl) (by rfl) (by rfl) ag56 (by rfl) (by exact rcs_length (zq_ok 0) _ _) (by exact cells_rq _ rfl rfl) (by exact Nat.le_of_eq (rcs_length (zq_ok _) _ _).symm) ?_); intro Wn hS; rw [splice_all ((rcs_length (zq_ok 0) _ _).trans (rcs_length (zq_ok _) _ _).symm)] at hS; clear HS; have HS := Lib.hid hS; clear hS))
        exact bodyPost_ret (ret_ct56 (p := 2) (u := 3) rfl _ b2 _ 56 (0, 0) _ (by rfl) (by rfl) (HS.out.blk (i := 3) rfl) (by rw [List.size_toArray]; exact rcs_length (zq_ok 0) _ _)) rfl ⟨zq 0, (.slice none 0 0), (.slice none 0 0), 290, rfl, HD.out, (((((HS.out.sub 0).sub 0).sub 0).sub 0).dropF (Gs := []) (fun G hG => by cases hG)).nilRow.nilRow⟩
      | true =>
        rw [hc] at HS
        simp only [↓reduceIte] at HS ⊢
        by_cases hd : encQ ⟨11, z32, 0, 0, 0, [], z32, []⟩ = 11 :: l
        · have HP : DecP (11 :: l) ⟨11, z32, 0, 0, 0, [], z32, []⟩ 0 := ⟨(⟨rfl, rfl, Nat.zero_lt_succ _, Nat.zero_lt_succ _, Nat.zero_lt_succ _⟩ : Req.ok ⟨11, z32, 0, 0, 0, [], z32, []⟩), .inl ⟨rfl, hc, hd⟩⟩
          rw [hd] at HS ⊢
          clear hd
          go_wp2_with (first
            | (refine atd 150 (by rfl) ?_; refine wl (by rfl) (wp_of_run (run_str (xs := (11 :: l)) (by rfl) (by rfl) (Row.hb (l := (11 :: l)) (HS.out.res (i := 0) rfl))) ?_))
            | (refine atd 152 (by rfl) ?_; refine wl (by rfl) (wp_of_run (run_str (xs := 11 :: l) (by rfl) (by rfl) (HS.out.fact (i := 0) rfl)) ?_))
            | (refine atd 156 (by rfl) ?_; refine wl (by rfl) (s_lda (cs := rcs ⟨11, z32, 0, 0, 0, [], z32, []⟩ (.slice none 0 0) (.slice none 0 0)) HS.out 2 70 (by rfl) (by rfl) (by rfl) ag56 (by exact rcs_all (⟨rfl, rfl, Nat.zero_lt_succ _, Nat.zero_lt_succ _, Nat.zero_lt_succ _⟩ : Req.ok ⟨11, z32, 0, 0, 0, [], z32, []⟩) _ _) (by exact rcs_length (⟨rfl, rfl, Nat.zero_lt_succ _, Nat.zero_lt_succ _, Nat.zero_lt_succ _⟩ : Req.ok ⟨11, z32, 0, 0, 0, [], z32, []⟩) _ _) ?_))
            | (refine sto 2 (by rfl) ?_; refine wl (by rfl) (s_sta (cs := rcs ⟨11, z32, 0, 0, 0, [], z32, []⟩ (.slice none 0 0) (.slice none 0 0)) HS.out 3 70 (by rfl) (by rfl) (by rfl) ag56 (by rfl) (by exact rcs_length (⟨rfl, rfl, Nat.zero_lt_succ _, Nat.zero_lt_succ _, Nat.zero_lt_succ _⟩ : Req.ok ⟨11, z32, 0, 0, 0, [], z32, []⟩) _ _) (by exact cells_rq _ rfl rfl) (by exact Nat.le_of_eq (rcs_length (zq_ok _) _ _).symm) ?_); intro Wn hS; rw [splice_all ((rcs_length (⟨rfl, rfl, Nat.zero_lt_succ _, Nat.zero_lt_succ _, Nat.zero_lt_succ _⟩ : Req.ok ⟨11, z32, 0, 0, 0, [], z32, []⟩) _ _).trans (rcs_length (zq_ok _) _ _).symm)] at hS; clear HS; have HS := Lib.hid hS; clear hS))
          exact bodyPost_ret (ret_ct56 (p := 2) (u := 3) rfl _ b2 _ 56 (0, 0) _ (by rfl) (by rfl) (HS.out.blk (i := 3) rfl) (by rw [List.size_toArray]; exact rcs_length (⟨rfl, rfl, Nat.zero_lt_succ _, Nat.zero_lt_succ _, Nat.zero_lt_succ _⟩ : Req.ok ⟨11, z32, 0, 0, 0, [], z32, []⟩) _ _)) rfl ⟨⟨11, z32, 0, 0, 0, [], z32, []⟩, (.slice none 0 0), (.slice none 0 0), 0, rfl, HP, (((((HS.out.sub 0).sub 0).sub 0).sub 0).dropF (Gs := []) (fun G hG => by cases hG)).nilRow.nilRow⟩
        · have HP := HNO.out (fun _ => hd)
          have hne : (encQ ⟨11, z32, 0, 0, 0, [], z32, []⟩ == (11 :: l)) = false := beq_eq_false_iff_ne.2 hd
          clear hd
          go_wp2_with (first
            | (refine atd 150 (by rfl) ?_; refine wl (by rfl) (wp_of_run (run_str (xs := (encQ ⟨11, z32, 0, 0, 0, [], z32, []⟩)) (by rfl) (by rfl) (Row.hb (l := (encQ ⟨11, z32, 0, 0, 0, [], z32, []⟩)) (HS.out.res (i := 0) rfl))) ?_))
            | (refine atd 152 (by rfl) ?_; refine wl (by rfl) (wp_of_run (run_str (xs := 11 :: l) (by rfl) (by rfl) (HS.out.fact (i := 0) rfl)) ?_))
            | (refine atd 155 (by rfl) ?_; refine wl (by rfl) (wp_of_run (run_b56z (by rfl)) ?_))
            | (refine sto 2 (by rfl) ?_; refine wl (by rfl) (s_sta (cs := rcs (zq 0) (.slice none 0 0) (.slice none 0 0)) HS.out 3 70 (by rfl) (by rfl) (by rfl) ag56 (by rfl) (by exact rcs_length (zq_ok 0) _ _) (by exact cells_rq _ rfl rfl) (by exact Nat.le_of_eq (rcs_length (zq_ok _) _ _).symm) ?_); intro Wn hS; rw [splice_all ((rcs_length (zq_ok 0) _ _).trans (rcs_length (zq_ok _) _ _).symm)] at hS; clear HS; have HS := Lib.hid hS; clear hS))
          exact bodyPost_ret (ret_ct56 (p := 2) (u := 3) rfl _ b2 _ 56 (0, 0) _ (by rfl) (by rfl) (HS.out.blk (i := 3) rfl) (by rw [List.size_toArray]; exact rcs_length (zq_ok 0) _ _)) rfl ⟨zq 0, (.slice none 0 0), (.slice none 0 0), 290, rfl, HP, (((((HS.out.sub 0).sub 0).sub 0).sub 0).dropF (Gs := []) (fun G hG => by cases hG)).nilRow.nilRow⟩
    have m1 : ¬ ((4 * j : Nat) : Int) + 4 ≤ (M : Int) := by omega
    have m1' : ¬ 4 * (j : Int) + 4 ≤ (M : Int) := by omega
    have HNE := Lib.hid (nums_end (R := l) hj (by rw [HRL.out]; exact hj4) (by rw [HRL.out]; exact .inr (by omega)))
    have i07 : (0 : Int) < (j : Int) + 2 := by omega
    have i17 : (1 : Int) < (j : Int) + 2 := by omega
    go_wp2_with (first
      | (refine atd 82 (by rfl) ?_; refine wl (by rfl) (s_bs (E := 48) (z := (.int .u32 0)) HS.out 2 1 [.int .u32 0, .int .u32 0] (by rfl) Try.underlying95 (by kernel_rfl) (by rfl) (by decide) (by decide) (by kernel_rfl) (by rfl) (by decide) ?_); intro b82 Wn hS; clear HS; have HS := Lib.hid hS; clear hS)
      | (refine atd 83 (by rfl) ?_; refine wl (by rfl) (s_rows (size := 1) (bytes := 4) (z := .int .u32 0) HS.out 1 0 (by rfl) Try.underlying95 (by kernel_rfl) (by rfl) (by decide) (by rfl) (by rfl) (by rfl) (by rfl) (by intro u hu; simp at hu; rcases hu with rfl | rfl <;> rfl) (by omega) (by omega) ?_); intro v83 Wn hS; replace hS := hS.sub 0; clear HS; have HS := Lib.hid hS; clear hS; obtain ⟨g7, c7, rfl⟩ := rowE_some (HS.out.res (i := 0) rfl) (by omega))
      | (refine atd 85 (by rfl) ?_; refine wl (by rfl) (s_ld (v := .int .i64 11) HS.out 1 (by rfl) (by rfl) (by rfl) (by kernel_rfl) (by exact rcs_0 _ _) ?_))
      | (refine atd 142 (by rfl) ?_; refine wl (by rfl) (s_lda (cs := rcs ⟨11, z32, 0, 0, 0, [], z32, []⟩ (.slice none 0 0) (.slice none 0 0)) HS.out 1 70 (by rfl) (by rfl) (by rfl) ag56 (by exact rcs_all (⟨rfl, rfl, Nat.zero_lt_succ _, Nat.zero_lt_succ _, Nat.zero_lt_succ _⟩ : Req.ok ⟨11, z32, 0, 0, 0, [], z32, []⟩) _ _) (by exact rcs_length (⟨rfl, rfl, Nat.zero_lt_succ _, Nat.zero_lt_succ _, Nat.zero_lt_succ _⟩ : Req.ok ⟨11, z32, 0, 0, 0, [], z32, []⟩) _ _) ?_)))
    refine (enc28 ⟨11, z32, 0, 0, 0, [], z32, []⟩ (.slice none 0 0) (.slice none 0 0) _ (⟨rfl, rfl, Nat.zero_lt_succ _, Nat.zero_lt_succ _, Nat.zero_lt_succ _⟩ : Req.ok ⟨11, z32, 0, 0, 0, [], z32, []⟩) (HB.nil _ _ _) (HB.nil _ _ _) (by exact Nat.zero_le _) (by exact Nat.zero_le _)).mono ?_
    rintro e Wn ⟨ve, rfl, hb⟩
    have hS := HS.out.take hb
    clear hb HS
    have HS := Lib.hid hS
    clear hS
    unfold chkI encOQ at *
    obtain ⟨Ae, ke, rfl⟩ := Row.sl (HS.out.res (i := 0) rfl)
    cases hc : chkQ ⟨11, z32, 0, 0, 0, [], z32, []⟩ with
    | false =>
      rw [hc] at HS
      have HD := Lib.hid (HNO.out (fun h => by rw [hc] at h; cases h))
      simp only [Bool.false_eq_true, ↓reduceIte] at HS ⊢
      go_wp2_with (first
        | (refine atd 155 (by rfl) ?_; refine wl (by rfl) (wp_of_run (run_b56z (by rfl)) ?_))
        | (refine sto 2 (by rfl) ?_; refine wl (by rfl) (s_sta (cs := rcs (zq 0) (.slice none 0 0) (.slice none 0 0)) HS.out 3 70 (by rfl) (by rfl) (by rfl) ag56 (by rfl) (by exact rcs_length (zq_ok 0) _ _) (by exact cells_rq _ rfl rfl) (by exact Nat.le_of_eq (rcs_length (zq_ok _) _ _).symm) ?_); intro Wn hS; rw [splice_all ((rcs_length (zq_ok 0) _ _).trans (rcs_length (zq_ok _) _ _).symm)] at hS; clear HS; have HS := Lib.hid hS; clear hS))
      exact bodyPost_ret (ret_ct56 (p := 2) (u := 3) rfl _ b2 _ 56 (0, 0) _ (by rfl) (by rfl) (HS.out.blk (i := 3) rfl) (by rw [List.size_toArray]; exact rcs_length (zq_ok 0) _ _)) rfl ⟨zq 0, (.slice none 0 0), (.slice none 0 0), 290, rfl, HD.out, (((((HS.out.sub 0).sub 0).sub 0).sub 0).dropF (Gs := []) (fun G hG => by cases hG)).nilRow.nilRow⟩
    | true =>
      rw [hc] at HS
      simp only [↓reduceIte] at HS ⊢
      by_cases hd : encQ ⟨11, z32, 0, 0, 0, [], z32, []⟩ = 11 :: l
      · have HP : DecP (11 :: l) ⟨11, z32, 0, 0, 0, [], z32, []⟩ 0 := ⟨(⟨rfl, rfl, Nat.zero_lt_succ _, Nat.zero_lt_succ _, Nat.zero_lt_succ _⟩ : Req.ok ⟨11, z32, 0, 0, 0, [], z32, []⟩), .inl ⟨rfl, hc, hd⟩⟩
        rw [hd] at HS ⊢
        clear hd
        go_wp2_with (first
          | (refine atd 150 (by rfl) ?_; refine wl (by rfl) (wp_of_run (run_str (xs := (11 :: l)) (by rfl) (by rfl) (Row.hb (l := (11 :: l)) (HS.out.res (i := 0) rfl))) ?_))
          | (refine atd 152 (by rfl) ?_; refine wl (by rfl) (wp_of_run (run_str (xs := 11 :: l) (by rfl) (by rfl) (HS.out.fact (i := 0) rfl)) ?_))
          | (refine atd 156 (by rfl) ?_; refine wl (by rfl) (s_lda (cs := rcs ⟨11, z32, 0, 0, 0, [], z32, []⟩ (.slice none 0 0) (.slice none 0 0)) HS.out 2 70 (by rfl) (by rfl) (by rfl) ag56 (by exact rcs_all (⟨rfl, rfl, Nat.zero_lt_succ _, Nat.zero_lt_succ _, Nat.zero_lt_succ _⟩ : Req.ok ⟨11, z32, 0, 0, 0, [], z32, []⟩) _ _) (by exact rcs_length (⟨rfl, rfl, Nat.zero_lt_succ _, Nat.zero_lt_succ _, Nat.zero_lt_succ _⟩ : Req.ok ⟨11, z32, 0, 0, 0, [], z32, []⟩) _ _) ?_))
          | (refine sto 2 (by rfl) ?_; refine wl (by rfl) (s_sta (cs := rcs ⟨11, z32, 0, 0, 0, [], z32, []⟩ (.slice none 0 0) (.slice none 0 0)) HS.out 3 70 (by rfl) (by rfl) (by rfl) ag56 (by rfl) (by exact rcs_length (⟨rfl, rfl, Nat.zero_lt_succ _, Nat.zero_lt_succ _, Nat.zero_lt_succ _⟩ : Req.ok ⟨11, z32, 0, 0, 0, [], z32, []⟩) _ _) (by exact cells_rq _ rfl rfl) (by exact Nat.le_of_eq (rcs_length (zq_ok _) _ _).symm) ?_); intro Wn hS; rw [splice_all ((rcs_length (⟨rfl, rfl, Nat.zero_lt_succ _, Nat.zero_lt_succ _, Nat.zero_lt_succ _⟩ : Req.ok ⟨11, z32, 0, 0, 0, [], z32, []⟩) _ _).trans (rcs_length (zq_ok _) _ _).symm)] at hS; clear HS; have HS := Lib.hid hS; clear hS))
        exact bodyPost_ret (ret_ct56 (p := 2) (u := 3) rfl _ b2 _ 56 (0, 0) _ (by rfl) (by rfl) (HS.out.blk (i := 3) rfl) (by rw [List.size_toArray]; exact rcs_length (⟨rfl, rfl, Nat.zero_lt_succ _, Nat.zero_lt_succ _, Nat.zero_lt_succ _⟩ : Req.ok ⟨11, z32, 0, 0, 0, [], z32, []⟩) _ _)) rfl ⟨⟨11, z32, 0, 0, 0, [], z32, []⟩, (.slice none 0 0), (.slice none 0 0), 0, rfl, HP, (((((HS.out.sub 0).sub 0).sub 0).sub 0).dropF (Gs := []) (fun G hG => by cases hG)).nilRow.nilRow⟩
      · have HP := HNO.out (fun _ => hd)
        have hne : (encQ ⟨11, z32, 0, 0, 0, [], z32, []⟩ == (11 :: l)) = false := beq_eq_false_iff_ne.2 hd
        clear hd
        go_wp2_with (first
          | (refine atd 150 (by rfl) ?_; refine wl (by rfl) (wp_of_run (run_str (xs := (encQ ⟨11, z32, 0, 0, 0, [], z32, []⟩)) (by rfl) (by rfl) (Row.hb (l := (encQ ⟨11, z32, 0, 0, 0, [], z32, []⟩)) (HS.out.res (i := 0) rfl))) ?_))
          | (refine atd 152 (by rfl) ?_; refine wl (by rfl) (wp_of_run (run_str (xs := 11 :: l) (by rfl) (by rfl) (HS.out.fact (i := 0) rfl)) ?_))
          | (refine atd 155 (by rfl) ?_; refine wl (by rfl) (wp_of_run (run_b56z (by rfl)) ?_))
          | (refine sto 2 (by rfl) ?_; refine wl (by rfl) (s_sta (cs := rcs (zq 0) (.slice none 0 0) (.slice none 0 0)) HS.out 3 70 (by rfl) (by rfl) (by rfl) ag56 (by rfl) (by exact rcs_length (zq_ok 0) _ _) (by exact cells_rq _ rfl rfl) (by exact Nat.le_of_eq (rcs_length (zq_ok _) _ _).symm) ?_); intro Wn hS; rw [splice_all ((rcs_length (zq_ok 0) _ _).trans (rcs_length (zq_ok _) _ _).symm)] at hS; clear HS; have HS := Lib.hid hS; clear hS))
        exact bodyPost_ret (ret_ct56 (p := 2) (u := 3) rfl _ b2 _ 56 (0, 0) _ (by rfl) (by rfl) (HS.out.blk (i := 3) rfl) (by rw [List.size_toArray]; exact rcs_length (zq_ok 0) _ _)) rfl ⟨zq 0, (.slice none 0 0), (.slice none 0 0), 290, rfl, HP, (((((HS.out.sub 0).sub 0).sub 0).sub 0).dropF (Gs := []) (fun G hG => by cases hG)).nilRow.nilRow⟩
end
section
open Go Go.RowKit Go.Proofs
attribute [local irreducible] Calls
set_option maxHeartbeats 2000000 in
set_option maxRecDepth 100000 in
theorem dec30z (kb : UInt8) (hf : fldK (kb.toNat : Int) = -1) (ad : Addr) (N c M c1 : Nat) (A1 : Option Addr) (l : List UInt8) (w : World) (hv : HB w (.slice (some ad) N c) (kb :: l)) (hl : HB w (.slice A1 M c1) l) (hN : N = M + 1) (hM : l.length = M) (hM2 : M ≤ 5000) (hc0 : Away (Keys []) (fun W => W.cell? (ad.add 0) = some (.int .u8 (kb.toNat : Int))) w) (hs1 : ∀ W, (Instr.slice 22 (.slice (some ad) N c) (some (.int .i64 1)) none none).run Try.prog W = .ok (.slice A1 M c1) W) :
    Calls Try.prog 30 #[.slice (some ad) N c] w fun e w' => ∃ r s b c, e = .returned (.tuple #[.agg (rcs r s b).toArray, .int .i64 c]) ∧ DecP (kb :: l) r c ∧ St w w' [Row s 5 1 r.sb.length (bs r.sb), Row b 5 1 r.bb.length (bs r.bb)] [] := by
  have z0 : ((N : Int) == 0) = false := beq_eq_false_iff_ne.2 (by omega)
  have z1 : (0 : Int) < (N : Int) := by omega
  have HS := Lib.hid (((((St.start w).addF hl.away0).addF hc0).addF hv.away0))
  have HM := Lib.hid hM
  have hrq : rdF (fldK (kb.toNat : Int)) (kb.toNat : Int) l = ⟨(kb.toNat : Int), z32, 0, 0, 0, [], z32, []⟩ := by rw [hf]; rfl
  have HNO := Lib.hid (show (chkQ ⟨(kb.toNat : Int), z32, 0, 0, 0, [], z32, []⟩ = true → encQ ⟨(kb.toNat : Int), z32, 0, 0, 0, [], z32, []⟩ ≠ kb :: l) → DecP (kb :: l) (zq 0) 290 from fun h => DecP.no fun r e hc => by rw [hrq] at e; subst e; exact h hc)
  clear hrq
  have HHV := Lib.hid (hshV_len l)
  have HRL := Lib.hid hM
  have hb1 := numV_lt l
  have hb8 := numV_lt (numL l)
  have b1 : ((kb.toNat : Int) == 1) = false := beq_eq_false_iff_ne.2 (by intro e; rw [e] at hf; revert hf; decide)
  have b2 : ((kb.toNat : Int) == 2) = false := beq_eq_false_iff_ne.2 (by intro e; rw [e] at hf; revert hf; decide)
  have b3 : ((kb.toNat : Int) == 3) = false := beq_eq_false_iff_ne.2 (by intro e; rw [e] at hf; revert hf; decide)
  have b4 : ((kb.toNat : Int) == 4) = false := beq_eq_false_iff_ne.2 (by intro e; rw [e] at hf; revert hf; decide)
  have b5 : ((kb.toNat : Int) == 5) = false := beq_eq_false_iff_ne.2 (by intro e; rw [e] at hf; revert hf; decide)
  have b6 : ((kb.toNat : Int) == 6) = false := beq_eq_false_iff_ne.2 (by intro e; rw [e] at hf; revert hf; decide)
  have b7 : ((kb.toNat : Int) == 7) = false := beq_eq_false_iff_ne.2 (by intro e; rw [e] at hf; revert hf; decide)
  have b8 : ((kb.toNat : Int) == 8) = false := beq_eq_false_iff_ne.2 (by intro e; rw [e] at hf; revert hf; decide)
  have b9 : ((kb.toNat : Int) == 9) = false := beq_eq_false_iff_ne.2 (by intro e; rw [e] at hf; revert hf; decide)
  have b10 : ((kb.toNat : Int) == 10) = false := beq_eq_false_iff_ne.2 (by intro e; rw [e] at hf; revert hf; decide)
  have b11 : ((kb.toNat : Int) == 11) = false := beq_eq_false_iff_ne.2 (by intro e; rw [e] at hf; revert hf; decide)
  have hkb := kb.toNat_lt
  clear hf
  clear hv hl hM hN hc0
  go_enter Try.func30, Try.ntmps30
  go_wp2_with (first
    | (refine atd 2 (by rfl) ?_; refine wl (by rfl) (s_al (l := rcs (zq 0) (.slice none 0 0) (.slice none 0 0)) HS.out (by rfl) z56 (by rfl) ?_); intro b2 Wn hS; clear HS; have HS := Lib.hid hS; clear hS)
    | (refine atd 20 (by rfl) ?_; refine wl (by rfl) (wp_of_run (run_ld (v := .int .u8 (kb.toNat : Int)) (by kernel_rfl) (by rfl) (by rfl) (HS.out.fact (i := 1) rfl)) ?_))
    | (refine atd 22 (by rfl) ?_; refine wl (by rfl) (wp_of_run (run_b56 (k := (kb.toNat : Int)) (by rfl) (by rfl)) ?_))
    | (refine atd 4 (by rfl) ?_; refine wl (by rfl) (s_al (l := rcs (zq 0) (.slice none 0 0) (.slice none 0 0)) HS.out (by rfl) z56 (by rfl) ?_); intro b4 Wn hS; clear HS; have HS := Lib.hid hS; clear hS)
    | (refine sto 4 (by rfl) ?_; refine wl (by rfl) (s_sta (cs := rcs (zq (kb.toNat : Int)) (.slice none 0 0) (.slice none 0 0)) HS.out 0 70 (by rfl) (by rfl) (by rfl) ag56 (by rfl) (by exact rcs_length (zq_ok _) _ _) (by exact cells_rq _ rfl rfl) (by exact Nat.le_of_eq (rcs_length (zq_ok _) _ _).symm) ?_); intro Wn hS; rw [splice_all ((rcs_length (zq_ok _) _ _).trans (rcs_length (zq_ok _) _ _).symm)] at hS; have hS : St w Wn [Blk b4 (rcs ⟨(kb.toNat : Int), z32, 0, 0, 0, [], z32, []⟩ (.slice none 0 0) (.slice none 0 0)) 56, Blk b2 (rcs (zq 0) (.slice none 0 0) (.slice none 0 0)) 56] _ := hS; clear HS; have HS := Lib.hid hS; clear hS)
    | (refine atd 26 (by rfl) ?_; refine wl (by rfl) (s_ld (v := .int .i64 (kb.toNat : Int)) HS.out 0 (by rfl) (by rfl) (by rfl) (by kernel_rfl) (by exact rcs_0 _ _) ?_))
    | (refine atd 30 (by rfl) ?_; refine wl (by rfl) (s_ld (v := .int .i64 (kb.toNat : Int)) HS.out 0 (by rfl) (by rfl) (by rfl) (by kernel_rfl) (by exact rcs_0 _ _) ?_))
    | (refine atd 35 (by rfl) ?_; refine wl (by rfl) (s_ld (v := .int .i64 (kb.toNat : Int)) HS.out 0 (by rfl) (by rfl) (by rfl) (by kernel_rfl) (by exact rcs_0 _ _) ?_))
    | (refine atd 40 (by rfl) ?_; refine wl (by rfl) (s_ld (v := .int .i64 (kb.toNat : Int)) HS.out 0 (by rfl) (by rfl) (by rfl) (by kernel_rfl) (by exact rcs_0 _ _) ?_)))
  go_loopw [7, 8] (fun s7 s8 wr => ∃ (j : Nat) (v7 : Value), j ≤ 2 ∧ 4 * j ≤ M ∧ s8 = .int .i64 ((4 * j : Nat) : Int) ∧ s7 = v7 ∧ St w wr [Row v7 48 1 j (nums l j), Blk b4 (rcs ⟨(kb.toNat : Int), z32, 0, 0, 0, [], z32, []⟩ (.slice none 0 0) (.slice none 0 0)) 56, Blk b2 (rcs (zq 0) (.slice none 0 0) (.slice none 0 0)) 56] [fun W => HB W (.slice (some ad) N c) (kb :: l), fun W => W.cell? (ad.add 0) = some (.int .u8 (kb.toNat : Int)), fun W => HB W (.slice A1 M c1) l]) (fun _ s8 _ => 8 - (intOf s8).toNat)
  case atStart => exact ⟨0, _, by omega, by omega, rfl, rfl, HS.out.nilRowE 48 1⟩
  case round =>
    obtain ⟨j, v7, hj, hj4, rfl, rfl, hs⟩ := hrel
    clear HS
    have HS := Lib.hid hs
    clear hs
    by_cases hm : 4 * j + 4 ≤ M
    · have m1 : ((4 * j : Nat) : Int) + 4 ≤ (M : Int) := by omega
      have m1' : 4 * (j : Int) + 4 ≤ (M : Int) := by omega
      by_cases h2 : j < 2
      · have m2 : ((4 * j : Nat) : Int) < 8 := by omega
        have m2' : 4 * (j : Int) < 8 := by omega
        obtain ⟨AQ, cQ, hQs, hQ⟩ : ∃ AQ cQ, (∀ W, (Instr.slice 22 (.slice A1 M c1) (some (.int .i64 (4 * (j : Int)))) (some (.int .i64 (4 * (j : Int) + 4))) none).run Try.prog W = .ok (.slice AQ 4 cQ) W) ∧ ∀ W, HB W (.slice A1 M c1) l → HB W (.slice AQ 4 cQ) ((l.drop (4 * j)).take 4) := cut4 (HS.out.fact (i := 2) rfl) hm
        have HQ := Lib.hid hQ
        clear hQ
        have HQl := Lib.hid (show ((l.drop (4 * j)).take 4).length = 4 by rw [List.length_take, List.length_drop, HRL.out]; omega)
        have hn32 := leNum_32 _ HQl.out
        have HNS := Lib.hid (nums_succ l j)
        obtain ⟨n, hn⟩ : ∃ n, leNum ((l.drop (4 * j)).take 4) = n := ⟨_, rfl⟩
        rw [hn] at hn32 HNS
        have HNE := Lib.hid hn
        clear hn
        go_wp2_with (first
          | (go_at_call 38; refine (rnum_any _ _ _ (HQ.out _ (HS.out.fact (i := 2) rfl)) (by rw [HQl.out]; decide)).mono ?_; rw [HNE.out]; rintro e Wn ⟨rfl, hb⟩; have hS := HS.out.call hb; clear hb; clear HS; have HS := Lib.hid hS; clear hS)
          | (refine atd 79 (by rfl) ?_; refine wl (by rfl) (s_bs (E := 48) (z := (.int .u32 0)) HS.out 1 1 [.int .u32 (n : Int)] (by rfl) Try.underlying95 (by kernel_rfl) (by rfl) (by decide) (by decide) (by kernel_rfl) (by rfl) (by decide) ?_); intro b79 Wn hS; clear HS; have HS := Lib.hid hS; clear hS)
          | (refine atd 80 (by rfl) ?_; refine wl (by rfl) (s_rows (size := 1) (bytes := 4) (z := .int .u32 0) HS.out 1 0 (by rfl) Try.underlying95 (by kernel_rfl) (by rfl) (by decide) (by rfl) (by rfl) (by rfl) (by rfl) (by intro u hu; simp at hu; subst hu; rfl) (by omega) (by omega) ?_); intro v80 Wn hS; replace hS := hS.sub 0; clear HS; have HS := Lib.hid hS; clear hS))
        have hS := HS.out
        rw [show nums l j ++ [.int .u32 (n : Int)] = nums l (j + 1) from HNS.out.symm] at hS
        exact ⟨⟨j + 1, _, by omega, by omega, by push_cast; rfl, rfl, hS⟩, by simp [intOf]; omega⟩
      have m2 : ¬ ((4 * j : Nat) : Int) < 8 := by omega
      have m2' : ¬ 4 * (j : Int) < 8 := by omega
      have HNE := Lib.hid (nums_end (R := l) hj (by rw [HRL.out]; exact hj4) (by rw [HRL.out]; exact .inl (by omega)))
      have i07 : (0 : Int) < (j : Int) + 2 := by omega
      have i17 : (1 : Int) < (j : Int) + 2 := by omega
      go_wp2_with (first
        | (refine atd 82 (by rfl) ?_; refine wl (by rfl) (s_bs (E := 48) (z := (.int .u32 0)) HS.out 2 1 [.int .u32 0, .int .u32 0] (by rfl) Try.underlying95 (by kernel_rfl) (by rfl) (by decide) (by decide) (by kernel_rfl) (by rfl) (by decide) ?_); intro b82 Wn hS; clear HS; have HS := Lib.hid hS; clear hS)
        | (refine atd 83 (by rfl) ?_; refine wl (by rfl) (s_rows (size := 1) (bytes := 4) (z := .int .u32 0) HS.out 1 0 (by rfl) Try.underlying95 (by kernel_rfl) (by rfl) (by decide) (by rfl) (by rfl) (by rfl) (by rfl) (by intro u hu; simp at hu; rcases hu with rfl | rfl <;> rfl) (by omega) (by omega) ?_); intro v83 Wn hS; replace hS := hS.sub 0; clear HS; have HS := Lib.hid hS; clear hS; obtain ⟨g7, c7, rfl⟩ := rowE_some (HS.out.res (i := 0) rfl) (by omega))
        | (refine atd 85 (by rfl) ?_; refine wl (by rfl) (s_ld (v := .int .i64 (kb.toNat : Int)) HS.out 1 (by rfl) (by rfl) (by rfl) (by kernel_rfl) (by exact rcs_0 _ _) ?_))
        | (refine atd 142 (by rfl) ?_; refine wl (by rfl) (s_lda (cs := rcs ⟨(kb.toNat : Int), z32, 0, 0, 0, [], z32, []⟩ (.slice none 0 0) (.slice none 0 0)) HS.out 1 70 (by rfl) (by rfl) (by rfl) ag56 (by exact rcs_all (⟨rfl, rfl, Nat.zero_lt_succ _, Nat.zero_lt_succ _, Nat.zero_lt_succ _⟩ : Req.ok ⟨(kb.toNat : Int), z32, 0, 0, 0, [], z32, []⟩) _ _) (by exact rcs_length (⟨rfl, rfl, Nat.zero_lt_succ _, Nat.zero_lt_succ _, Nat.zero_lt_succ _⟩ : Req.ok ⟨(kb.toNat : Int), z32, 0, 0, 0, [], z32, []⟩) _ _) ?_)))
      refine (enc28 ⟨(kb.toNat : Int), z32, 0, 0, 0, [], z32, []⟩ (.slice none 0 0) (.slice none 0 0) _ (⟨rfl, rfl, Nat.zero_lt_succ _, Nat.zero_lt_succ _, Nat.zero_lt_succ _⟩ : Req.ok ⟨(kb.toNat : Int), z32, 0, 0, 0, [], z32, []⟩) (HB.nil _ _ _) (HB.nil _ _ _) (by exact Nat.zero_le _) (by exact Nat.zero_le _)).mono ?_
      rintro e Wn ⟨ve, rfl, hb⟩
      have hS := HS.out.take hb
      clear hb HS
      have HS := Lib.hid hS
      clear hS
      unfold chkI encOQ at *
      obtain ⟨Ae, ke, rfl⟩ := Row.sl (HS.out.res (i := 0) rfl)
      cases hc : chkQ ⟨(kb.toNat : Int), z32, 0, 0, 0, [], z32, []⟩ with
      | false =>
        rw [hc] at HS
        have HD := Lib.hid (HNO.out (fun h => by rw [hc] at h; cases h))
        simp only [Bool.false_eq_true, ↓reduceIte] at HS ⊢
        go_wp2_with (first
          | (refine atd 155 (by rfl) ?_; refine wl (by rfl) (wp_of_run (run_b56z (by rfl)) ?_))
          | (refine sto 2 (by rfl) ?_; refine wl (by rfl) (s_sta (cs := rcs (zq 0) (.slice none 0 0) (.slice none 0 0)) HS.out 3 70 (by rfl) (by rfl) (by rfl) ag56 (by rfl) (by exact rcs_length (zq_ok 0) _ _) (by exact cells_rq _ rfl rfl) (by exact Nat.le_of_eq (rcs_length (zq_ok _) _ _).symm) ?_); intro Wn hS; rw [splice_all ((rcs_length (zq_ok 0) _ _).trans (rcs_length (zq_ok _) _ _).symm)] at hS; clear HS; have HS := Lib.hid hS; clear hS))
        exact bodyPost_ret (ret_ct56 (p := 2) (u := 3) rfl _ b2 _ 56 (0, 0) _ (by rfl) (by rfl) (HS.out.blk (i := 3) rfl) (by rw [List.size_toArray]; exact rcs_length (zq_ok 0) _ _)) rfl ⟨zq 0, (.slice none 0 0), (.slice none 0 0), 290, rfl, HD.out, (((((HS.out.sub 0).sub 0).sub 0).sub 0).dropF (Gs := []) (fun G hG => by cases hG)).nilRow.nilRow⟩
      | true =>
        rw [hc] at HS
        simp only [↓reduceIte] at HS ⊢
        by_cases hd : encQ ⟨(kb.toNat : Int), z32, 0, 0, 0, [], z32, []⟩ = kb :: l
        · have HP : DecP (kb :: l) ⟨(kb.toNat : Int), z32, 0, 0, 0, [], z32, []⟩ 0 := ⟨(⟨rfl, rfl, Nat.zero_lt_succ _, Nat.zero_lt_succ _, Nat.zero_lt_succ _⟩ : Req.ok ⟨(kb.toNat : Int), z32, 0, 0, 0, [], z32, []⟩), .inl ⟨rfl, hc, hd⟩⟩
          rw [hd] at HS ⊢
          clear hd
          go_wp2_with (first
            | (refine atd 150 (by rfl) ?_; refine wl (by rfl) (wp_of_run (run_str (xs := (kb :: l)) (by rfl) (by rfl) (Row.hb (l := (kb :: l)) (HS.out.res (i := 0) rfl))) ?_))
            | (refine atd 152 (by rfl) ?_; refine wl (by rfl) (wp_of_run (run_str (xs := kb :: l) (by rfl) (by rfl) (HS.out.fact (i := 0) rfl)) ?_))
            | (refine atd 156 (by rfl) ?_; refine wl (by rfl) (s_lda (cs := rcs ⟨(kb.toNat : Int), z32, 0, 0, 0, [], z32, []⟩ (.slice none 0 0) (.slice none 0 0)) HS.out 2 70 (by rfl) (by rfl) (by rfl) ag56 (by exact rcs_all (⟨rfl, rfl, Nat.zero_lt_succ _, Nat.zero_lt_succ _, Nat.zero_lt_succ _⟩ : Req.ok ⟨(kb.toNat : Int), z32, 0, 0, 0, [], z32, []⟩) _ _) (by exact rcs_length (⟨rfl, rfl, Nat.zero_lt_succ _, Nat.zero_lt_succ _, Nat.zero_lt_succ _⟩ : Req.ok ⟨(kb.toNat : Int), z32, 0, 0, 0, [], z32, []⟩) _ _) ?_))
            | (refine sto 2 (by rfl) ?_; refine wl (by rfl) (s_sta (cs := rcs ⟨(kb.toNat : Int), z32, 0, 0, 0, [], z32, []⟩ (.slice none 0 0) (.slice none 0 0)) HS.out 3 70 (by rfl) (by rfl) (by rfl) ag56 (by rfl) (by exact rcs_length (⟨rfl, rfl, Nat.zero_lt_succ _, Nat.zero_lt_succ _, Nat.zero_lt_succ _⟩ : Req.ok ⟨(kb.toNat : Int), z32, 0, 0, 0, [], z32, []⟩) _ _) (by exact cells_rq _ rfl rfl) (by exact Nat.le_of_eq (rcs_length (zq_ok _) _ _).symm) ?_); intro Wn hS; rw [splice_all ((rcs_length (⟨rfl, rfl, Nat.zero_lt_succ _, Nat.zero_lt_succ _, Nat.zero_lt_succ _⟩ : Req.ok ⟨(kb.toNat : Int), z32, 0, 0, 0, [], z32, []⟩) _ _).trans (rcs_length (zq_ok _) _ _).symm)] at hS; clear HS; have HS := Lib.hid hS; clear hS))
          exact bodyPost_ret (ret_ct56 (p := 2) (u := 3) rfl _ b2 _ 56 (0, 0) _ (by rfl) (by rfl) (HS.out.blk (i := 3) rfl) (by rw [List.size_toArray]; exact rcs_length (⟨rfl, rfl, Nat.zero_lt_succ _, Nat.zero_lt_succ _, Nat.zero_lt_succ _⟩ : Req.ok ⟨(kb.toNat : Int), z32, 0, 0, 0, [], z32, []⟩) _ _)) rfl ⟨⟨(kb.toNat : Int), z32, 0, 0, 0, [], z32, []⟩, (.slice none 0 0), (.slice none 0 0), 0, rfl, HP, (((((HS.out.sub 0).sub 0).sub 0).sub 0).dropF (Gs := []) (fun G hG => by cases hG)).nilRow.nilRow⟩
        · have HP := HNO.out (fun _ => hd)
          have hne : (encQ ⟨(kb.toNat : Int), z32, 0, 0, 0, [], z32, []⟩ == (kb :: l)) = false := beq_eq_false_iff_ne.2 hd
          clear hd
          go_wp2_with (first
            | (refine atd 150 (by rfl) ?_; refine wl (by rfl) (wp_of_run (run_str (xs := (encQ ⟨(kb.toNat : Int), z32, 0, 0, 0, [], z32, []⟩)) (by rfl) (by rfl) (Row.hb (l := (encQ ⟨(kb.toNat : Int), z32, 0, 0, 0, [], z32, []⟩)) (HS.out.res (i := 0) rfl))) ?_))
            | (refine atd 152 (by rfl) ?_; refine wl (by rfl) (wp_of_run (run_str (xs := kb :: l) (by rfl) (by rfl) (HS.out.fact (i := 0) rfl)) ?_))
            | (refine atd 155 (by rfl) ?_; refine wl (by rfl) (wp_of_run (run_b56z (by rfl)) ?_))
            | (refine sto 2 (by rfl) ?_; refine wl (by rfl) (s_sta (cs := rcs (zq 0) (.slice none 0 0) (.slice none 0 0)) HS.out 3 70 (by rfl) (by rfl) (by rfl) ag56 (by rfl) (by exact rcs_length (zq_ok 0) _ _) (by exact cells_rq _ rfl rfl) (by exact Nat.le_of_eq (rcs_length (zq_ok _) _ _).symm) ?_); intro Wn hS; rw [splice_all ((rcs_length (zq_ok 0) _ _).trans (rcs_length (zq_ok _) _ _).symm)] at hS; clear HS; have HS := Lib.hid hS; clear hS))
          exact bodyPost_ret (ret_ct56 (p := 2) (u := 3) rfl _ b2 _ 56 (0, 0) _ (by rfl) (by rfl) (HS.out.blk (i := 3) rfl) (by rw [List.size_toArray]; exact rcs_length (zq_ok 0) _ _)) rfl ⟨zq 0, (.slice none 0 0), (.slice none 0 0), 290, rfl, HP, (((((HS.out.sub 0).sub 0).sub 0).sub 0).dropF (Gs := []) (fun G hG => by cases hG)).nilRow.nilRow⟩
    have m1 : ¬ ((4 * j : Nat) : Int) + 4 ≤ (M : Int) := by omega
    have m1' : ¬ 4 * (j : Int) + 4 ≤ (M : Int) := by omega
    have HNE := Lib.hid (nums_end (R := l) hj (by rw [HRL.out]; exact hj4) (by rw [HRL.out]; exact .inr (by omega)))
    have i07 : (0 : Int) < (j : Int) + 2 := by omega
    have i17 : (1 : Int) < (j : Int) + 2 := by omega
    go_wp2_with (first
      | (refine atd 82 (by rfl) ?_; refine wl (by rfl) (s_bs (E := 48) (z := (.int .u32 0)) HS.out 2 1 [.int .u32 0, .int .u32 0] (by rfl) Try.underlying95 (by kernel_rfl) (by rfl) (by decide) (by decide) (by kernel_rfl) (by rfl) (by decide) ?_); intro b82 Wn hS; clear HS; have HS := Lib.hid hS; clear hS)
      | (refine atd 83 (by rfl) ?_; refine wl (by rfl) (s_rows (size := 1) (bytes := 4) (z := .int .u32 0) HS.out 1 0 (by rfl) Try.underlying95 (by kernel_rfl) (by rfl) (by decide) (by rfl) (by rfl) (by rfl) (by rfl) (by intro u hu; simp at hu; rcases hu with rfl | rfl <;> rfl) (by omega) (by omega) ?_); intro v83 Wn hS; replace hS := hS.sub 0; clear HS; have HS := Lib.hid hS; clear hS; obtain ⟨g7, c7, rfl⟩ := rowE_some (HS.out.res (i := 0) rfl) (by omega))
      | (refine atd 85 (by rfl) ?_; refine wl (by rfl) (s_ld (v := .int .i64 (kb.toNat : Int)) HS.out 1 (by rfl) (by rfl) (by rfl) (by kernel_rfl) (by exact rcs_0 _ _) ?_))
      | (refine atd 142 (by rfl) ?_; refine wl (by rfl) (s_lda (cs := rcs ⟨(kb.toNat : Int), z32, 0, 0, 0, [], z32, []⟩ (.slice none 0 0) (.slice none 0 0)) HS.out 1 70 (by rfl) (by rfl) (by rfl) ag56 (by exact rcs_all (⟨rfl, rfl, Nat.zero_lt_succ _, Nat.zero_lt_succ _, Nat.zero_lt_succ _⟩ : Req.ok ⟨(kb.toNat : Int), z32, 0, 0, 0, [], z32, []⟩) _ _) (by exact rcs_length (⟨rfl, rfl, Nat.zero_lt_succ _, Nat.zero_lt_succ _, Nat.zero_lt_succ _⟩ : Req.ok ⟨(kb.toNat : Int), z32, 0, 0, 0, [], z32, []⟩) _ _) ?_)))
    refine (enc28 ⟨(kb.toNat : Int), z32, 0, 0, 0, [], z32, []⟩ (.slice none 0 0) (.slice none 0 0) _ (⟨rfl, rfl, Nat.zero_lt_succ _, Nat.zero_lt_succ _, Nat.zero_lt_succ _⟩ : Req.ok ⟨(kb.toNat : Int), z32, 0, 0, 0, [], z32, []⟩) (HB.nil _ _ _) (HB.nil _ _ _) (by exact Nat.zero_le _) (by exact Nat.zero_le _)).mono ?_
    rintro e Wn ⟨ve, rfl, hb⟩
    have hS := HS.out.take hb
    clear hb HS
    have HS := Lib.hid hS
    clear hS
    unfold chkI encOQ at *
    obtain ⟨Ae, ke, rfl⟩ := Row.sl (HS.out.res (i := 0) rfl)
    cases hc : chkQ ⟨(kb.toNat : Int), z32, 0, 0, 0, [], z32, []⟩ with
    | false =>
      rw [hc] at HS
      have HD := Lib.hid (HNO.out (fun h => by rw [hc] at h; cases h))
      simp only [Bool.false_eq_true, ↓reduceIte] at HS ⊢
      go_wp2_with (first
        | (refine atd 155 (by rfl) ?_; refine wl (by rfl) (wp_of_run (run_b56z (by rfl)) ?_))
        | (refine sto 2 (by rfl) ?_; refine wl (by rfl) (s_sta (cs := rcs (zq 0) (.slice none 0 0) (.slice none 0 0)) HS.out 3 70 (by rfl) (by rfl) (by rfl) ag56 (by rfl) (by exact rcs_length (zq_ok 0) _ _) (by exact cells_rq _ rfl rfl) (by exact Nat.le_of_eq (rcs_length (zq_ok _) _ _).symm) ?_); intro Wn hS; rw [splice_all ((rcs_length (zq_ok 0) _ _).trans (rcs_length (zq_ok _) _ _).symm)] at hS; clear HS; have HS := Lib.hid hS; clear hS))
      exact bodyPost_ret (ret_ct56 (p := 2) (u := 3) rfl _ b2 _ 56 (0, 0) _ (by rfl) (by rfl) (HS.out.blk (i := 3) rfl) (by rw [List.size_toArray]; exact rcs_length (zq_ok 0) _ _)) rfl ⟨zq 0, (.slice none 0 0), (.slice none 0 0), 290, rfl, HD.out, (((((HS.out.sub 0).sub 0).sub 0).sub 0).dropF (Gs := []) (fun G hG => by cases hG)).nilRow.nilRow⟩
    | true =>
      rw [hc] at HS
      simp only [↓reduceIte] at HS ⊢
      by_cases hd : encQ ⟨(kb.toNat : Int), z32, 0, 0, 0, [], z32, []⟩ = kb :: l
      · have HP : DecP (kb :: l) ⟨(kb.toNat : Int), z32, 0, 0, 0, [], z32, []⟩ 0 := ⟨(⟨rfl, rfl, Nat.zero_lt_succ _, Nat.zero_lt_succ _, Nat.zero_lt_succ _⟩ : Req.ok ⟨(kb.toNat : Int), z32, 0, 0, 0, [], z32, []⟩), .inl ⟨rfl, hc, hd⟩⟩
        rw [hd] at HS ⊢
        clear hd
        go_wp2_with (first
          | (refine atd 150 (by rfl) ?_; refine wl (by rfl) (wp_of_run (run_str (xs := (kb :: l)) (by rfl) (by rfl) (Row.hb (l := (kb :: l)) (HS.out.res (i := 0) rfl))) ?_))
          | (refine atd 152 (by rfl) ?_; refine wl (by rfl) (wp_of_run (run_str (xs := kb :: l) (by rfl) (by rfl) (HS.out.fact (i := 0) rfl)) ?_))
          | (refine atd 156 (by rfl) ?_; refine wl (by rfl) (s_lda (cs := rcs ⟨(kb.toNat : Int), z32, 0, 0, 0, [], z32, []⟩ (.slice none 0 0) (.slice none 0 0)) HS.out 2 70 (by rfl) (by rfl) (by rfl) ag56 (by exact rcs_all (⟨rfl, rfl, Nat.zero_lt_succ _, Nat.zero_lt_succ _, Nat.zero_lt_succ _⟩ : Req.ok ⟨(kb.toNat : Int), z32, 0, 0, 0, [], z32, []⟩) _ _) (by exact rcs_length (⟨rfl, rfl, Nat.zero_lt_succ _, Nat.zero_lt_succ _, Nat.zero_lt_succ _⟩ : Req.ok ⟨(kb.toNat : Int), z32, 0, 0, 0, [], z32, []⟩) _ _) ?_))
          | (refine sto 2 (by rfl) ?_; refine wl (by rfl) (s_sta (cs := rcs ⟨(kb.toNat : Int), z32, 0, 0, 0, [], z32, []⟩ (.slice none 0 0) (.slice none 0 0)) HS.out 3 70 (by rfl) (by rfl) (by rfl) ag56 (by rfl) (by exact rcs_length (⟨rfl, rfl, Nat.zero_lt_succ _, Nat.zero_lt_succ _, Nat.zero_lt_succ _⟩ : Req.ok ⟨(kb.toNat : Int), z32, 0, 0, 0, [], z32, []⟩) _ _) (by exact cells_rq _ rfl rfl) (by exact Nat.le_of_eq (rcs_length (zq_ok _) _ _).symm) ?_); intro Wn hS; rw [splice_all ((rcs_length (⟨rfl, rfl, Nat.zero_lt_succ _, Nat.zero_lt_succ _, Nat.zero_lt_succ _⟩ : Req.ok ⟨(kb.toNat : Int), z32, 0, 0, 0, [], z32, []⟩) _ _).trans (rcs_length (zq_ok _) _ _).symm)] at hS; clear HS; have HS := Lib.hid hS; clear hS))
        exact bodyPost_ret (ret_ct56 (p := 2) (u := 3) rfl _ b2 _ 56 (0, 0) _ (by rfl) (by rfl) (HS.out.blk (i := 3) rfl) (by rw [List.size_toArray]; exact rcs_length (⟨rfl, rfl, Nat.zero_lt_succ _, Nat.zero_lt_succ _, Nat.zero_lt_succ _⟩ : Req.ok ⟨(kb.toNat : Int), z32, 0, 0, 0, [], z32, []⟩) _ _)) rfl ⟨⟨(kb.toNat : Int), z32, 0, 0, 0, [], z32, []⟩, (.slice none 0 0), (.slice none 0 0), 0, rfl, HP, (((((HS.out.sub 0).sub 0).sub 0).sub 0).dropF (Gs := []) (fun G hG => by cases hG)).nilRow.nilRow⟩
      · have HP := HNO.out (fun _ => hd)
        have hne : (encQ ⟨(kb.toNat : Int), z32, 0, 0, 0, [], z32, []⟩ == (kb :: l)) = false := beq_eq_false_iff_ne.2 hd
        clear hd
        go_wp2_with (first
          | (refine atd 150 (by rfl) ?_; refine wl (by rfl) (wp_of_run (run_str (xs := (encQ ⟨(kb.toNat : Int), z32, 0, 0, 0, [], z32, []⟩)) (by rfl) (by rfl) (Row.hb (l := (encQ ⟨(kb.toNat : Int), z32, 0, 0, 0, [], z32, []⟩)) (HS.out.res (i := 0) rfl))) ?_))
          | (refine atd 152 (by rfl) ?_; refine wl (by rfl) (wp_of_run (run_str (xs := kb :: l) (by rfl) (by rfl) (HS.out.fact (i := 0) rfl)) ?_))
          | (refine atd 155 (by rfl) ?_; refine wl (by rfl) (wp_of_run (run_b56z (by rfl)) ?_))
          | (refine sto 2 (by rfl) ?_; refine wl (by rfl) (s_sta (cs := rcs (zq 0) (.slice none 0 0) (.slice none 0 0)) HS.out 3 70 (by rfl) (by rfl) (by rfl) ag56 (by rfl) (by exact rcs_length (zq_ok 0) _ _) (by exact cells_rq _ rfl rfl) (by exact Nat.le_of_eq (rcs_length (zq_ok _) _ _).symm) ?_); intro Wn hS; rw [splice_all ((rcs_length (zq_ok 0) _ _).trans (rcs_length (zq_ok _) _ _).symm)] at hS; clear HS; have HS := Lib.hid hS; clear hS))
        exact bodyPost_ret (ret_ct56 (p := 2) (u := 3) rfl _ b2 _ 56 (0, 0) _ (by rfl) (by rfl) (HS.out.blk (i := 3) rfl) (by rw [List.size_toArray]; exact rcs_length (zq_ok 0) _ _)) rfl ⟨zq 0, (.slice none 0 0), (.slice none 0 0), 290, rfl, HP, (((((HS.out.sub 0).sub 0).sub 0).sub 0).dropF (Gs := []) (fun G hG => by cases hG)).nilRow.nilRow⟩
end
section
open Go Go.RowKit Go.Proofs
attribute [local irreducible] Calls
set_option maxHeartbeats 1000000 in
set_option maxRecDepth 100000 in
theorem dec30nil (A : Option Addr) (c : Nat) (w : World) :
    Calls Try.prog 30 #[.slice A 0 c] w fun e w' => ∃ r s b c, e = .returned (.tuple #[.agg (rcs r s b).toArray, .int .i64 c]) ∧ DecP [] r c ∧ St w w' [Row s 5 1 r.sb.length (bs r.sb), Row b 5 1 r.bb.length (bs r.bb)] [] := by
  have HS := Lib.hid (St.start w)
  go_enter Try.func30, Try.ntmps30
  go_wp2_with (first
    | (refine atd 2 (by rfl) ?_; refine wl (by rfl) (s_al (l := rcs (zq 0) (.slice none 0 0) (.slice none 0 0)) HS.out (by rfl) z56 (by rfl) ?_); intro b2 Wn hS; clear HS; have HS := Lib.hid hS; clear hS)
    | (refine atd 17 (by rfl) ?_; refine wl (by rfl) (wp_of_run (run_b56z (by rfl)) ?_))
    | (refine sto 2 (by rfl) ?_; refine wl (by rfl) (s_sta (cs := rcs (zq 0) (.slice none 0 0) (.slice none 0 0)) HS.out 0 70 (by rfl) (by rfl) (by rfl) ag56 (by rfl) (by exact rcs_length (zq_ok 0) _ _) (by exact cells_rq _ rfl rfl) (by exact Nat.le_of_eq (rcs_length (zq_ok _) _ _).symm) ?_); intro Wn hS; rw [splice_all ((rcs_length (zq_ok 0) _ _).trans (rcs_length (zq_ok _) _ _).symm)] at hS; clear HS; have HS := Lib.hid hS; clear hS))
  exact bodyPost_ret (ret_ct56 (p := 2) (u := 3) rfl _ b2 _ 56 (0, 0) _ (by rfl) (by rfl) (HS.out.blk (i := 0) rfl) (by rw [List.size_toArray]; exact rcs_length (zq_ok 0) _ _)) rfl ⟨zq 0, (.slice none 0 0), (.slice none 0 0), 290, rfl, DecP.nil, (HS.out.sub 0).nilRow.nilRow⟩
theorem dec30 (v : Value) (xs : List UInt8) (w : World) (hv : HB w v xs) (hl : xs.length ≤ 5000) :
    Calls Try.prog 30 #[v] w fun e w' => ∃ r s b c, e = .returned (.tuple #[.agg (rcs r s b).toArray, .int .i64 c]) ∧ DecP xs r c ∧ St w w' [Row s 5 1 r.sb.length (bs r.sb), Row b 5 1 r.bb.length (bs r.bb)] [] := by
  obtain ⟨A, c, rfl, hlc⟩ := hv.shape
  cases xs with
  | nil => exact dec30nil A c w
  | cons kb l =>
    obtain ⟨ad, rfl, hcell⟩ := hv.at_ (i := 0) (by simp) (by simp)
    have hl2 : HB w (.slice (cutA (some ad) c 1) ((kb :: l).length - 1) (c - 1)) l := hv.drop (a := 1) (by simp)
    have hs1 := run_cut_l 22 5 Try.underlying22 size5 (some ad) (kb :: l).length c 1 (by simp)
    have hM : l.length = (kb :: l).length - 1 := by simp
    have hN : (kb :: l).length = ((kb :: l).length - 1) + 1 := by simp
    have hM2 : (kb :: l).length - 1 ≤ 5000 := by omega
    have hc0 : Away (Keys []) (fun W => W.cell? (ad.add 0) = some (.int .u8 (kb.toNat : Int))) w := fun W' hs => hs.cell (fun ⟨r, hr, _⟩ => by cases hr) hcell
    generalize (kb :: l).length = N at *
    generalize N - 1 = M at *
    generalize hA1 : cutA (some ad) c 1 = A1 at *
    generalize hc1 : c - 1 = c1 at *
    have key : ∀ n : Nat, kb.toNat = n → ∀ q : UInt8, q.toNat = n → kb = q := fun n h1 q h2 => UInt8.toNat_inj.1 (h1.trans h2.symm)
    have hsh : 32 ≤ M → ∃ (A2 : Option Addr) (M2 c2 : Nat) (R : List UInt8) (a1 : Addr), HB w (.slice A2 M2 c2) R ∧ R.length = M2 ∧ R = hshL l ∧ M2 ≤ 5000 ∧ (∀ W, (Instr.slice 22 (.slice A1 M c1) (some (.int .i64 32)) none none).run Try.prog W = .ok (.slice A2 M2 c2) W) ∧ A1 = some a1 := fun h32 => by
      obtain ⟨a1, ha1, _⟩ := hl2.at_ (i := 0) (by omega) (by omega)
      have h1 := run_cut_l 22 5 Try.underlying22 size5 A1 M c1 32 h32
      have h2 : HB w (.slice (cutA A1 c1 32) (M - 32) (c1 - 32)) (l.drop 32) := hl2.drop (a := 32) h32
      refine ⟨_, _, _, _, a1, h2, by rw [List.length_drop, hM], ?_, by omega, h1, ha1⟩
      unfold hshL
      rw [if_pos (by omega)]
    rcases fldK_cases (kb.toNat : Int) with ⟨hf, hk⟩ | ⟨hf, hk | hk⟩ | ⟨hf, hk | hk⟩ | ⟨hf, hk⟩ | ⟨hf, hk⟩ | ⟨hf, hk | hk⟩ | ⟨hf, hk | hk⟩ | ⟨hf, hk⟩
    · obtain rfl := key 1 (by omega) 1 rfl
      exact dec30a ad N c M c1 A1 l w hv hl2 hN hM hM2 hc0 hs1
    · obtain rfl := key 2 (by omega) 2 rfl
      by_cases h32 : 32 ≤ M
      · obtain ⟨A2, M2, c2, R, a1, g1, g2, g3, g4, g5, g6⟩ := hsh h32
        exact dec30b ad N c M c1 A1 l w hv hl2 hN hM hM2 hc0 hs1 A2 M2 c2 R h32 g1 g2 g3 g4 g5 a1 g6
      · exact dec30bs ad N c M c1 A1 l w hv hl2 hN hM hM2 hc0 hs1 (by omega)
    · obtain rfl := key 6 (by omega) 6 rfl
      by_cases h32 : 32 ≤ M
      · obtain ⟨A2, M2, c2, R, a1, g1, g2, g3, g4, g5, g6⟩ := hsh h32
        exact dec30f ad N c M c1 A1 l w hv hl2 hN hM hM2 hc0 hs1 A2 M2 c2 R h32 g1 g2 g3 g4 g5 a1 g6
      · exact dec30fs ad N c M c1 A1 l w hv hl2 hN hM hM2 hc0 hs1 (by omega)
    · obtain rfl := key 3 (by omega) 3 rfl
      exact dec30c ad N c M c1 A1 l w hv hl2 hN hM hM2 hc0 hs1
    · obtain rfl := key 7 (by omega) 7 rfl
      exact dec30g ad N c M c1 A1 l w hv hl2 hN hM hM2 hc0 hs1
    · obtain rfl := key 4 (by omega) 4 rfl
      by_cases h4 : 4 ≤ M
      · exact dec30d ad N c M c1 A1 l w hv hl2 hN hM hM2 hc0 hs1 h4
      · exact dec30dq ad N c M c1 A1 l w hv hl2 hN hM hM2 hc0 hs1 (by omega)
    · obtain rfl := key 5 (by omega) 5 rfl
      exact dec30e ad N c M c1 A1 l w hv hl2 hN hM hM2 hc0 hs1
    · obtain rfl := key 8 (by omega) 8 rfl
      by_cases h32 : 32 ≤ M
      · obtain ⟨A2, M2, c2, R, a1, g1, g2, g3, g4, g5, g6⟩ := hsh h32
        exact dec30h ad N c M c1 A1 l w hv hl2 hN hM hM2 hc0 hs1 A2 M2 c2 R h32 g1 g2 g3 g4 g5 a1 g6
      · exact dec30hs ad N c M c1 A1 l w hv hl2 hN hM hM2 hc0 hs1 (by omega)
    · obtain rfl := key 9 (by omega) 9 rfl
      by_cases h32 : 32 ≤ M
      · obtain ⟨A2, M2, c2, R, a1, g1, g2, g3, g4, g5, g6⟩ := hsh h32
        exact dec30i ad N c M c1 A1 l w hv hl2 hN hM hM2 hc0 hs1 A2 M2 c2 R h32 g1 g2 g3 g4 g5 a1 g6
      · exact dec30is ad N c M c1 A1 l w hv hl2 hN hM hM2 hc0 hs1 (by omega)
    · obtain rfl := key 10 (by omega) 10 rfl
      exact dec30j ad N c M c1 A1 l w hv hl2 hN hM hM2 hc0 hs1
    · obtain rfl := key 11 (by omega) 11 rfl
      exact dec30k ad N c M c1 A1 l w hv hl2 hN hM hM2 hc0 hs1
    · exact dec30z kb hf ad N c M c1 A1 l w hv hl2 hN hM hM2 hc0 hs1
end
end Go.Proofs.Ytlpklbpaknemaaa
