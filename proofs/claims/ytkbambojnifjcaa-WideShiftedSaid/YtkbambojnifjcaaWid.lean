/- Contracts and words that the laws stand on (Wid). -/
import Derived.Test.YtkbambojnifjcaaShelf
import Derived.Test.YtkbambojnifjcaaRefA
import Derived.Test.YtkbambojnifjcaaBits
set_option linter.unusedVariables false
set_option linter.unusedSimpArgs false
namespace Go.Proofs.Ytkbambojnifjcaa
section
open Go Go.RowKit Go.Proofs
attribute [local irreducible] wc pw bl bitN fl shlW shrW Calls
set_option maxHeartbeats 1000000 in
set_option maxRecDepth 100000 in
theorem left21 (a : Nat) (s : Int) (ha : a < M4) (hs : s ≤ 9223372036854775807) (w : World) : Calls Try.prog 21 #[.agg (wc a), .int .i64 s] w fun e w' => e = .returned (.agg (wc (shlW a s))) ∧ Below w.heap.size w w' := by
  have HS := Lib.hid (St.start w)
  by_cases h0 : s ≤ 0
  · have hr : shlW a s = a := by unfold shlW; rw [if_pos h0]
    rw [hr]
    clear hr ha
    go_enter Try.func21, Try.ntmps21
    go_wp2_with (first
      | (refine atd 2 (by rfl) ?_; refine wl (by rfl) (bx24 HS.out a (by rfl) (by rfl) ?_); intro b2 Wn hS; clear HS; have HS := Lib.hid hS; clear hS)
      | (refine atd 4 (by rfl) ?_; refine wl (by rfl) (s_al HS.out (by rfl) z24 (by rfl) ?_); intro b4 Wn hS; replace hS := al24 hS; clear HS; have HS := Lib.hid hS; clear hS)
      | (refine atd 5 (by rfl) ?_; refine wl (by rfl) (s_al HS.out (by rfl) z24 (by rfl) ?_); intro b5 Wn hS; replace hS := al24 hS; clear HS; have HS := Lib.hid hS; clear hS)
      | (refine atd 11 (by rfl) ?_; refine wl (by rfl) (ld24 HS.out 2 (by rfl) (by rfl) (by rfl) ?_))
      | (refine wl (by rfl) (st24 HS.out 1 a (by rfl) (by rfl) (by rfl) (by rfl) ?_); intro Wn hS; clear HS; have HS := Lib.hid hS; clear hS))
    exact bodyPost_ret (ret_c (p := 4) rfl _ b4 _ 24 (0, 0) (by rfl) (HS.out.blk (i := 1) rfl) (wc_len _)) rfl ⟨rfl, HS.out.below⟩
  · obtain ⟨N, rfl⟩ := Int.eq_ofNat_of_zero_le (show 0 ≤ s by omega)
    have hr : shlW a (N : Int) = a * 2 ^ N % M4 := by unfold shlW; rw [if_neg h0, Int.toNat_natCast]
    by_cases hN : 256 ≤ N
    · have hz := shl_big a N hN
      rw [hr, hz]
      have h1 : (256 : Int) ≤ (N : Int) := by omega
      clear hr hz ha
      go_enter Try.func21, Try.ntmps21
      go_wp2_with (first
        | (refine atd 2 (by rfl) ?_; refine wl (by rfl) (bx24 HS.out a (by rfl) (by rfl) ?_); intro b2 Wn hS; clear HS; have HS := Lib.hid hS; clear hS)
        | (refine atd 4 (by rfl) ?_; refine wl (by rfl) (s_al HS.out (by rfl) z24 (by rfl) ?_); intro b4 Wn hS; replace hS := al24 hS; clear HS; have HS := Lib.hid hS; clear hS)
        | (refine atd 5 (by rfl) ?_; refine wl (by rfl) (s_al HS.out (by rfl) z24 (by rfl) ?_); intro b5 Wn hS; replace hS := al24 hS; clear HS; have HS := Lib.hid hS; clear hS)
        | (refine atd 14 (by rfl) ?_; refine wl (by rfl) (ld24 HS.out 0 (by rfl) (by rfl) (by rfl) ?_))
        | (refine wl (by rfl) (st24 HS.out 1 0 (by rfl) (by rfl) (by rfl) (by rfl) ?_); intro Wn hS; clear HS; have HS := Lib.hid hS; clear hS))
      exact bodyPost_ret (ret_c (p := 4) rfl _ b4 _ 24 (0, 0) (by rfl) (HS.out.blk (i := 1) rfl) (wc_len _)) rfl ⟨rfl, HS.out.below⟩
    · obtain ⟨q, hq⟩ : ∃ q, q = N / 64 := ⟨_, rfl⟩
      obtain ⟨r, hrr⟩ : ∃ r, r = N % 64 := ⟨_, rfl⟩
      have hNe : N = 64 * q + r := by omega
      have hq4 : q < 4 := by omega
      have hr64 : r < 64 := by omega
      have e1 : (N : Int) / 64 = (q : Int) := by omega
      have e2 : (N : Int) % 64 = (r : Int) := by omega
      have hw := fun k hk1 hk2 => shl_word a q r k hk1 hk2 hr64
      rw [← hNe] at hw
      obtain ⟨Y, hY⟩ : ∃ Y, Y = a * 2 ^ N := ⟨_, rfl⟩
      rw [hr, ← hY]
      simp only [← hY] at hw
      have hst : Y % pw q = 0 := by rw [hY, hNe, Nat.pow_add, ← pw_two q (by omega), Nat.mul_comm (pw q), ← Nat.mul_assoc]; exact Nat.mul_mod_left _ _
      have n1 : ¬ (N : Int) ≤ 0 := h0
      have n2 : ¬ (256 : Int) ≤ (N : Int) := by omega
      have n3 : (0 : Int) ≤ (N : Int) := by omega
      have HW := Lib.hid hw; have HST := Lib.hid hst; have E1 := Lib.hid e1; have E2 := Lib.hid e2
      clear hr hq hrr hNe hY hst hw ha hN e1 e2
      go_enter Try.func21, Try.ntmps21
      go_wp2_with (first
        | (refine atd 2 (by rfl) ?_; refine wl (by rfl) (bx24 HS.out a (by rfl) (by rfl) ?_); intro b2 Wn hS; clear HS; have HS := Lib.hid hS; clear hS)
        | (refine atd 4 (by rfl) ?_; refine wl (by rfl) (s_al HS.out (by rfl) z24 (by rfl) ?_); intro b4 Wn hS; replace hS := al24 hS; clear HS; have HS := Lib.hid hS; clear hS)
        | (refine atd 5 (by rfl) ?_; refine wl (by rfl) (s_al HS.out (by rfl) z24 (by rfl) ?_); intro b5 Wn hS; replace hS := al24 hS; clear HS; have HS := Lib.hid hS; clear hS))
      rw [E1.out, E2.out]
      go_loopw [8] (fun s8 W => ∃ k : Nat, q ≤ k ∧ k ≤ 4 ∧ s8 = .int .i64 k ∧ St w W [Blk b5 (wc (Y % pw k)).toList 24, Blk b4 (wc 0).toList 24, Blk b2 (wc a).toList 24] []) (fun s8 _ => 4 - (intOf s8).toNat)
      case atStart => exact ⟨q, by omega, by omega, rfl, by rw [HST.out]; exact HS.out⟩
      case round =>
        clear HS
        obtain ⟨k, hqk, hk, rfl, hS⟩ := hrel
        have HS := Lib.hid hS
        clear hS
        have ki0 : (0 : Int) ≤ (k : Int) := by omega
        by_cases hlt : k < 4
        · have hv := wc_getL a (k - q) (by omega)
          have hx := wk_lt a (k - q)
          have hww := HW.out k hqk hlt
          obtain ⟨x, hxe⟩ : ∃ x, x = wk a (k - q) := ⟨_, rfl⟩
          rw [← hxe] at hv hx hww
          have ki1 : (k : Int) < 4 := by omega
          have kq1 : (0 : Int) ≤ (k : Int) - (q : Int) := by omega
          have kq2 : (k : Int) - (q : Int) < 4 := by omega
          have kq3 : ((k : Int) - (q : Int)).toNat = k - q := by omega
          have hr0 : (0 : Int) ≤ (r : Int) := by omega
          have HV := Lib.hid hv
          by_cases hqk2 : q < k
          · have hd : (q : Int) < (k : Int) := by omega
            have hv2 := wc_getL a (k - q - 1) (by omega)
            have hy := wk_lt a (k - q - 1)
            rw [if_pos hqk2] at hww
            obtain ⟨y, hye⟩ : ∃ y, y = wk a (k - q - 1) := ⟨_, rfl⟩
            rw [← hye] at hv2 hy hww
            have HV2 := Lib.hid hv2; have HWW := Lib.hid hww
            obtain ⟨j, hj⟩ : ∃ j, j = k - q - 1 := ⟨_, rfl⟩
            rw [← hj] at HV2
            have kr1 : (k : Int) - (q : Int) - 1 = (j : Int) := by omega
            have kr3 : (0 : Int) ≤ (j : Int) := by omega
            have kr2 : (j : Int) < 4 := by omega
            have kr4 : IntKind.i64.wrap (j : Int) = (j : Int) := by rw [IntKind.wrap_i64]; omega
            have kr7 : IntKind.i64.wrap ((k : Int) - (q : Int)) = (k : Int) - (q : Int) := by rw [IntKind.wrap_i64]; omega
            have kr8 : IntKind.i64.wrap (64 - (r : Int)) = 64 - (r : Int) := by rw [IntKind.wrap_i64]; omega
            have kr5 : (64 - (r : Int)).toNat = 64 - r := by omega
            have kr6 : (0 : Int) ≤ 64 - (r : Int) := by omega
            have hor := or_nat (x * 2 ^ r % 18446744073709551616) y (64 - r) (Nat.mod_lt _ (by decide)) hy
            rw [← hww] at hor
            have HOR := Lib.hid hor
            clear hj hor
            clear hxe hye hv hv2 hww
            go_wp2_with (first
              | (refine wl (by rfl) (s_ld HS.out 2 (by rfl) (by rfl) (by rfl) (by kernel_rfl) HV.out ?_))
              | (refine wl (by rfl) (s_st (v := .int .u64 (x * 2 ^ r % 18446744073709551616 : Nat)) HS.out 0 (by rfl) (by rfl) (by rfl) (by kernel_rfl) (by exact congrArg (Value.int .u64) (wrap_shl x r)) (by rfl) (by rw [wc_len]; omega) ?_); intro Wn hS; clear HS; have HS := Lib.hid hS; clear hS))
            refine wp_region_pi [(0, true), (1, true), (3, true), (4, true), (5, true), (6, true), (7, true), (8, true), (9, true), (10, true), (11, true), (2, false), (12, true), (13, true), (14, false)] (by kernel_rfl) (by kernel_rfl) rfl (by kernel_rfl) (fun _ _ _ _ _ h => h) (fun w' => St w w' [Blk b4 (wc 0).toList 24, Blk b2 (wc a).toList 24] []) (HS.out.drew.sub 0) ?_
            intro OPS hops
            have hS := HS.out.drew
            clear HS; have HS := Lib.hid hS; clear hS
            iterate 11
              first | (refine wpPi_yield _ (by rw [hops.out]; simp only [List.getElem?_toArray, List.getElem?_cons_succ, List.getElem?_cons_zero]; rfl) (by first | rfl | (rw [hops.out]; rfl)) (fun w' hS => by first | exact run_ld (by kernel_rfl) (by rfl) (by rfl) (hS.cell (i := 1) rfl HV2.out) | (go_simp; rfl)) ?_; simp only [Act.put, List.setIfInBounds_toArray, List.set_cons_succ, List.set_cons_zero]) | (refine wpPi_skip (by rw [hops.out]; simp only [List.getElem?_toArray, List.getElem?_cons_succ, List.getElem?_cons_zero]; rfl) (by first | rfl | (rw [hops.out]; rfl)) ?_; simp only [Act.put, List.setIfInBounds_toArray, List.set_cons_succ, List.set_cons_zero])
            refine wpPi_act (by rw [hops.out]; simp only [List.getElem?_toArray, List.getElem?_cons_succ, List.getElem?_cons_zero]; rfl) (by first | rfl | (rw [hops.out]; rfl)) ?_
            refine s_ld HS.out 0 (by rfl) (by rfl) (by rfl) (by kernel_rfl) (List.getElem?_set_self (by rw [wc_len]; omega)) ?_
            refine ⟨HS.out.sub 0, ?_⟩
            try simp only [Act.put, List.setIfInBounds_toArray, List.set_cons_succ, List.set_cons_zero]
            iterate 2
              first | (refine wpPi_yield _ (by rw [hops.out]; simp only [List.getElem?_toArray, List.getElem?_cons_succ, List.getElem?_cons_zero]; rfl) (by first | rfl | (rw [hops.out]; rfl)) (fun w' hS => by first | exact run_ld (by kernel_rfl) (by rfl) (by rfl) (hS.cell (i := 1) rfl HV2.out) | (go_simp; rfl)) ?_; simp only [Act.put, List.setIfInBounds_toArray, List.set_cons_succ, List.set_cons_zero]) | (refine wpPi_skip (by rw [hops.out]; simp only [List.getElem?_toArray, List.getElem?_cons_succ, List.getElem?_cons_zero]; rfl) (by first | rfl | (rw [hops.out]; rfl)) ?_; simp only [Act.put, List.setIfInBounds_toArray, List.set_cons_succ, List.set_cons_zero])
            refine wpPi_act (by rw [hops.out]; simp only [List.getElem?_toArray, List.getElem?_cons_succ, List.getElem?_cons_zero]; rfl) (by first | rfl | (rw [hops.out]; rfl)) ?_
            refine s_st (v := .int .u64 (wk Y k : Nat)) HS.out 0 (by rfl) (by rfl) (by rfl) (by kernel_rfl) (by exact congrArg (Value.int .u64) HOR.out) (by rfl) (by rw [List.length_set, wc_len]; omega) ?_
            intro Wn hS
            clear HS; have HS := Lib.hid hS; clear hS
            refine ⟨HS.out.sub 0, ?_⟩
            try simp only [Act.put, List.setIfInBounds_toArray, List.set_cons_succ, List.set_cons_zero]
            simp only [wpPi]
            clear OPS hops
            have hset : ((wc (Y % pw k)).toList.set k (.int .u64 (x * 2 ^ r % 18446744073709551616 : Nat))).set k (.int .u64 (wk Y k : Nat)) = (wc (Y % pw (k + 1))).toList := by
              rw [List.set_set, wc_setL _ _ _ hlt (Nat.mod_lt _ (pw_pos k)) (wk_lt Y k), mod_word Y k hlt]
            have HSET := Lib.hid hset
            clear hset
            go_wp2_with fail
            go_roundw
            case rel => exact ⟨k + 1, by omega, by omega, by go_num, by rw [← HSET.out]; exact HS.out⟩
            case measure => simp [intOf]; omega
          · have hd : ¬ (q : Int) < (k : Int) := by omega
            rw [if_neg hqk2, Nat.or_zero] at hww
            have hset : ((wc (Y % pw k)).toList.set k (.int .u64 (x * 2 ^ r % 18446744073709551616 : Nat))) = (wc (Y % pw (k + 1))).toList := by
              rw [wc_setL _ _ _ hlt (Nat.mod_lt _ (pw_pos k)) (Nat.mod_lt _ (by decide)), ← hww, mod_word Y k hlt]
            have HSET := Lib.hid hset
            clear hset hww hxe hv
            go_wp2_with (first
              | (refine wl (by rfl) (s_ld HS.out 2 (by rfl) (by rfl) (by rfl) (by kernel_rfl) HV.out ?_))
              | (refine wl (by rfl) (s_st (v := .int .u64 (x * 2 ^ r % 18446744073709551616 : Nat)) HS.out 0 (by rfl) (by rfl) (by rfl) (by kernel_rfl) (by exact congrArg (Value.int .u64) (wrap_shl x r)) (by rfl) (by rw [wc_len]; omega) ?_); intro Wn hS; clear HS; have HS := Lib.hid hS; clear hS))
            go_roundw
            case rel => exact ⟨k + 1, by omega, by omega, by go_num, by rw [← HSET.out]; exact HS.out⟩
            case measure => simp [intOf]; omega
        · obtain rfl : k = 4 := by omega
          have hS := HS.out
          rw [show Y % pw 4 = Y % M4 from by unfold pw; rfl] at hS
          clear HS
          have HS := Lib.hid hS
          clear hS
          have e4 := wc_mod Y
          have HE4 := Lib.hid e4
          clear e4
          go_wp2_with (first
            | (refine atd 50 (by rfl) ?_; refine wl (by rfl) (ld24 HS.out 0 (by rfl) (by rfl) (by rfl) ?_))
            | (refine wl (by rfl) (st24 HS.out 1 (Y % M4) (by rfl) (by rfl) (by rfl) (by rfl) ?_); intro Wn hS; clear HS; have HS := Lib.hid hS; clear hS))
          exact bodyPost_ret (ret_c (p := 4) rfl _ b4 _ 24 (0, 0) (by rfl) (HS.out.blk (i := 1) rfl) (wc_len _)) rfl ⟨rfl, HS.out.below⟩
end
section
open Go Go.RowKit Go.Proofs
attribute [local irreducible] wc pw bl bitN fl shlW shrW Calls
set_option maxHeartbeats 1000000 in
set_option maxRecDepth 100000 in
theorem right23 (a : Nat) (s : Int) (ha : a < M4) (hs : s ≤ 9223372036854775807) (w : World) : Calls Try.prog 23 #[.agg (wc a), .int .i64 s] w fun e w' => e = .returned (.agg (wc (shrW a s))) ∧ Below w.heap.size w w' := by
  have HS := Lib.hid (St.start w)
  by_cases h0 : s ≤ 0
  · have hr : shrW a s = a := by unfold shrW; rw [if_pos h0]
    rw [hr]
    clear hr ha
    go_enter Try.func23, Try.ntmps23
    go_wp2_with (first
      | (refine atd 2 (by rfl) ?_; refine wl (by rfl) (bx24 HS.out a (by rfl) (by rfl) ?_); intro b2 Wn hS; clear HS; have HS := Lib.hid hS; clear hS)
      | (refine atd 4 (by rfl) ?_; refine wl (by rfl) (s_al HS.out (by rfl) z24 (by rfl) ?_); intro b4 Wn hS; replace hS := al24 hS; clear HS; have HS := Lib.hid hS; clear hS)
      | (refine atd 5 (by rfl) ?_; refine wl (by rfl) (s_al HS.out (by rfl) z24 (by rfl) ?_); intro b5 Wn hS; replace hS := al24 hS; clear HS; have HS := Lib.hid hS; clear hS)
      | (refine atd 11 (by rfl) ?_; refine wl (by rfl) (ld24 HS.out 2 (by rfl) (by rfl) (by rfl) ?_))
      | (refine wl (by rfl) (st24 HS.out 1 a (by rfl) (by rfl) (by rfl) (by rfl) ?_); intro Wn hS; clear HS; have HS := Lib.hid hS; clear hS))
    exact bodyPost_ret (ret_c (p := 4) rfl _ b4 _ 24 (0, 0) (by rfl) (HS.out.blk (i := 1) rfl) (wc_len _)) rfl ⟨rfl, HS.out.below⟩
  · obtain ⟨N, rfl⟩ := Int.eq_ofNat_of_zero_le (show 0 ≤ s by omega)
    have hr : shrW a (N : Int) = a / 2 ^ N := by unfold shrW; rw [if_neg h0, Int.toNat_natCast]
    by_cases hN : 256 ≤ N
    · have hz := shr_big a N ha hN
      rw [hr, hz]
      have h1 : (256 : Int) ≤ (N : Int) := by omega
      clear hr hz ha
      go_enter Try.func23, Try.ntmps23
      go_wp2_with (first
        | (refine atd 2 (by rfl) ?_; refine wl (by rfl) (bx24 HS.out a (by rfl) (by rfl) ?_); intro b2 Wn hS; clear HS; have HS := Lib.hid hS; clear hS)
        | (refine atd 4 (by rfl) ?_; refine wl (by rfl) (s_al HS.out (by rfl) z24 (by rfl) ?_); intro b4 Wn hS; replace hS := al24 hS; clear HS; have HS := Lib.hid hS; clear hS)
        | (refine atd 5 (by rfl) ?_; refine wl (by rfl) (s_al HS.out (by rfl) z24 (by rfl) ?_); intro b5 Wn hS; replace hS := al24 hS; clear HS; have HS := Lib.hid hS; clear hS)
        | (refine atd 14 (by rfl) ?_; refine wl (by rfl) (ld24 HS.out 0 (by rfl) (by rfl) (by rfl) ?_))
        | (refine wl (by rfl) (st24 HS.out 1 0 (by rfl) (by rfl) (by rfl) (by rfl) ?_); intro Wn hS; clear HS; have HS := Lib.hid hS; clear hS))
      exact bodyPost_ret (ret_c (p := 4) rfl _ b4 _ 24 (0, 0) (by rfl) (HS.out.blk (i := 1) rfl) (wc_len _)) rfl ⟨rfl, HS.out.below⟩
    · obtain ⟨q, hq⟩ : ∃ q, q = N / 64 := ⟨_, rfl⟩
      obtain ⟨r, hrr⟩ : ∃ r, r = N % 64 := ⟨_, rfl⟩
      have hNe : N = 64 * q + r := by omega
      have hq4 : q < 4 := by omega
      have hr64 : r < 64 := by omega
      have e1 : (N : Int) / 64 = (q : Int) := by omega
      have e2 : (N : Int) % 64 = (r : Int) := by omega
      have hw := fun k hk => shr_word a q r k hk hr64 ha
      rw [← hNe] at hw
      have hYl : a / 2 ^ N < pw (4 - q) := by
        rw [pw_two _ (by omega), Nat.div_lt_iff_lt_mul (Nat.two_pow_pos N), ← Nat.pow_add]
        refine Nat.lt_of_lt_of_le ha ?_
        rw [M4_pow]
        exact Nat.pow_le_pow_right (by decide) (by omega)
      obtain ⟨Y, hY⟩ : ∃ Y, Y = a / 2 ^ N := ⟨_, rfl⟩
      rw [hr, ← hY]
      rw [← hY] at hYl
      simp only [← hY] at hw
      have n1 : ¬ (N : Int) ≤ 0 := h0
      have n2 : ¬ (256 : Int) ≤ (N : Int) := by omega
      have n3 : (0 : Int) ≤ (N : Int) := by omega
      have HW := Lib.hid hw; have HYL := Lib.hid hYl; have E1 := Lib.hid e1; have E2 := Lib.hid e2
      clear hr hq hrr hNe hY hYl hw ha hN e1 e2
      go_enter Try.func23, Try.ntmps23
      go_wp2_with (first
        | (refine atd 2 (by rfl) ?_; refine wl (by rfl) (bx24 HS.out a (by rfl) (by rfl) ?_); intro b2 Wn hS; clear HS; have HS := Lib.hid hS; clear hS)
        | (refine atd 4 (by rfl) ?_; refine wl (by rfl) (s_al HS.out (by rfl) z24 (by rfl) ?_); intro b4 Wn hS; replace hS := al24 hS; clear HS; have HS := Lib.hid hS; clear hS)
        | (refine atd 5 (by rfl) ?_; refine wl (by rfl) (s_al HS.out (by rfl) z24 (by rfl) ?_); intro b5 Wn hS; replace hS := al24 hS; clear HS; have HS := Lib.hid hS; clear hS))
      rw [E1.out, E2.out]
      go_loopw [8] (fun s8 W => ∃ k m : Nat, m + q = k ∧ k ≤ 4 ∧ s8 = .int .i64 k ∧ St w W [Blk b5 (wc (Y % pw m)).toList 24, Blk b4 (wc 0).toList 24, Blk b2 (wc a).toList 24] []) (fun s8 _ => 4 - (intOf s8).toNat)
      case atStart => exact ⟨q, 0, by omega, by omega, rfl, by rw [show Y % pw 0 = 0 from by unfold pw; exact Nat.mod_one _]; exact HS.out⟩
      case round =>
        clear HS
        obtain ⟨k, m, hmk, hk, rfl, hS⟩ := hrel
        have HS := Lib.hid hS
        clear hS
        have ki0 : (0 : Int) ≤ (k : Int) := by omega
        by_cases hlt : k < 4
        · have hv := wc_getL a k (by omega)
          have hx := wk_lt a k
          have hww := HW.out m (by omega)
          rw [hmk] at hww
          obtain ⟨x, hxe⟩ : ∃ x, x = wk a k := ⟨_, rfl⟩
          rw [← hxe] at hv hx hww
          have ki1 : (k : Int) < 4 := by omega
          have kq0 : (k : Int) - (q : Int) = (m : Int) := by omega
          have kq1 : (0 : Int) ≤ (m : Int) := by omega
          have kq2 : (m : Int) < 4 := by omega
          have kq3 : IntKind.i64.wrap (m : Int) = (m : Int) := by rw [IntKind.wrap_i64]; omega
          have kq4 : IntKind.i64.wrap ((k : Int) + 1) = (k : Int) + 1 := by rw [IntKind.wrap_i64]; omega
          have hr0 : (0 : Int) ≤ (r : Int) := by omega
          have HV := Lib.hid hv; have HMK := Lib.hid hmk
          clear hmk
          by_cases hk3 : k + 1 < 4
          · have hd : (k : Int) + 1 < 4 := by omega
            have hv2 := wc_getL a (k + 1) (by omega)
            have hy := wk_lt a (k + 1)
            rw [if_pos hk3] at hww
            obtain ⟨y, hye⟩ : ∃ y, y = wk a (k + 1) := ⟨_, rfl⟩
            rw [← hye] at hv2 hy hww
            have HV2 := Lib.hid hv2
            have kr8 : IntKind.i64.wrap (64 - (r : Int)) = 64 - (r : Int) := by rw [IntKind.wrap_i64]; omega
            have kr5 : (64 - (r : Int)).toNat = 64 - r := by omega
            have kr6 : (0 : Int) ≤ 64 - (r : Int) := by omega
            have hor := or_nat2 (x / 2 ^ r) y (64 - r) (Nat.lt_of_le_of_lt (Nat.div_le_self _ _) hx)
            rw [← hww] at hor
            have HOR := Lib.hid hor
            have hset : ((wc (Y % pw m)).toList.set m (.int .u64 (x / 2 ^ r : Nat))).set m (.int .u64 (wk Y m : Nat)) = (wc (Y % pw (m + 1))).toList := by
              rw [List.set_set, wc_setL _ _ _ (by omega) (Nat.mod_lt _ (pw_pos m)) (wk_lt Y m), mod_word Y m (by omega)]
            have HSET := Lib.hid hset
            clear hxe hye hv hv2 hww hor hset
            go_wp2_with (first
              | (refine wl (by rfl) (s_ld HS.out 2 (by rfl) (by rfl) (by rfl) (by kernel_rfl) HV.out ?_))
              | (refine wl (by rfl) (s_st (v := .int .u64 (x / 2 ^ r : Nat)) HS.out 0 (by rfl) (by rfl) (by rfl) (by kernel_rfl) (by exact congrArg (Value.int .u64) (val_shr x r)) (by rfl) (by rw [wc_len]; omega) ?_); intro Wn hS; clear HS; have HS := Lib.hid hS; clear hS))
            refine wp_region_pi [(0, true), (1, true), (2, true), (3, true), (5, true), (6, true), (7, true), (8, true), (9, true), (10, true), (11, true), (4, false), (12, true), (13, true), (14, false)] (by kernel_rfl) (by kernel_rfl) rfl (by kernel_rfl) (fun _ _ _ _ _ h => h) (fun w' => St w w' [Blk b4 (wc 0).toList 24, Blk b2 (wc a).toList 24] []) (HS.out.drew.sub 0) ?_
            intro OPS hops
            have hS := HS.out.drew
            clear HS; have HS := Lib.hid hS; clear hS
            iterate 11
              first | (refine wpPi_yield _ (by rw [hops.out]; simp only [List.getElem?_toArray, List.getElem?_cons_succ, List.getElem?_cons_zero]; rfl) (by first | rfl | (rw [hops.out]; rfl)) (fun w' hS => by first | exact run_ld (by kernel_rfl) (by rfl) (by rfl) (hS.cell (i := 1) rfl HV2.out) | (go_simp; rfl)) ?_; simp only [Act.put, List.setIfInBounds_toArray, List.set_cons_succ, List.set_cons_zero]) | (refine wpPi_skip (by rw [hops.out]; simp only [List.getElem?_toArray, List.getElem?_cons_succ, List.getElem?_cons_zero]; rfl) (by first | rfl | (rw [hops.out]; rfl)) ?_; simp only [Act.put, List.setIfInBounds_toArray, List.set_cons_succ, List.set_cons_zero])
            refine wpPi_act (by rw [hops.out]; simp only [List.getElem?_toArray, List.getElem?_cons_succ, List.getElem?_cons_zero]; rfl) (by first | rfl | (rw [hops.out]; rfl)) ?_
            refine s_ld HS.out 0 (by rfl) (by rfl) (by rfl) (by kernel_rfl) (List.getElem?_set_self (by rw [wc_len]; omega)) ?_
            refine ⟨HS.out.sub 0, ?_⟩
            try simp only [Act.put, List.setIfInBounds_toArray, List.set_cons_succ, List.set_cons_zero]
            iterate 2
              first | (refine wpPi_yield _ (by rw [hops.out]; simp only [List.getElem?_toArray, List.getElem?_cons_succ, List.getElem?_cons_zero]; rfl) (by first | rfl | (rw [hops.out]; rfl)) (fun w' hS => by first | exact run_ld (by kernel_rfl) (by rfl) (by rfl) (hS.cell (i := 1) rfl HV2.out) | (go_simp; rfl)) ?_; simp only [Act.put, List.setIfInBounds_toArray, List.set_cons_succ, List.set_cons_zero]) | (refine wpPi_skip (by rw [hops.out]; simp only [List.getElem?_toArray, List.getElem?_cons_succ, List.getElem?_cons_zero]; rfl) (by first | rfl | (rw [hops.out]; rfl)) ?_; simp only [Act.put, List.setIfInBounds_toArray, List.set_cons_succ, List.set_cons_zero])
            refine wpPi_act (by rw [hops.out]; simp only [List.getElem?_toArray, List.getElem?_cons_succ, List.getElem?_cons_zero]; rfl) (by first | rfl | (rw [hops.out]; rfl)) ?_
            refine s_st (v := .int .u64 (wk Y m : Nat)) HS.out 0 (by rfl) (by rfl) (by rfl) (by kernel_rfl) (by exact congrArg (Value.int .u64) HOR.out) (by rfl) (by rw [List.length_set, wc_len]; omega) ?_
            intro Wn hS
            clear HS; have HS := Lib.hid hS; clear hS
            refine ⟨HS.out.sub 0, ?_⟩
            try simp only [Act.put, List.setIfInBounds_toArray, List.set_cons_succ, List.set_cons_zero]
            simp only [wpPi]
            clear OPS hops
            go_wp2_with fail
            go_roundw
            case rel => exact ⟨k + 1, m + 1, by have := HMK.out; omega, by omega, by go_num, by rw [← HSET.out]; exact HS.out⟩
            case measure => simp [intOf]; omega
          · have hd : ¬ (k : Int) + 1 < 4 := by omega
            rw [if_neg hk3, Nat.or_zero] at hww
            have hset : ((wc (Y % pw m)).toList.set m (.int .u64 (x / 2 ^ r : Nat))) = (wc (Y % pw (m + 1))).toList := by
              rw [wc_setL _ _ _ (by omega) (Nat.mod_lt _ (pw_pos m)) (Nat.lt_of_le_of_lt (Nat.div_le_self _ _) hx), ← hww, mod_word Y m (by omega)]
            have HSET := Lib.hid hset
            clear hset hww hxe hv
            go_wp2_with (first
              | (refine wl (by rfl) (s_ld HS.out 2 (by rfl) (by rfl) (by rfl) (by kernel_rfl) HV.out ?_))
              | (refine wl (by rfl) (s_st (v := .int .u64 (x / 2 ^ r : Nat)) HS.out 0 (by rfl) (by rfl) (by rfl) (by kernel_rfl) (by exact congrArg (Value.int .u64) (val_shr x r)) (by rfl) (by rw [wc_len]; omega) ?_); intro Wn hS; clear HS; have HS := Lib.hid hS; clear hS))
            go_roundw
            case rel => exact ⟨k + 1, m + 1, by have := HMK.out; omega, by omega, by go_num, by rw [← HSET.out]; exact HS.out⟩
            case measure => simp [intOf]; omega
        · obtain rfl : k = 4 := by omega
          have hS := HS.out
          rw [show m = 4 - q by omega, Nat.mod_eq_of_lt HYL.out] at hS
          clear HS hmk
          have HS := Lib.hid hS
          clear hS
          go_wp2_with (first
            | (refine atd 50 (by rfl) ?_; refine wl (by rfl) (ld24 HS.out 0 (by rfl) (by rfl) (by rfl) ?_))
            | (refine wl (by rfl) (st24 HS.out 1 Y (by rfl) (by rfl) (by rfl) (by rfl) ?_); intro Wn hS; clear HS; have HS := Lib.hid hS; clear hS))
          exact bodyPost_ret (ret_c (p := 4) rfl _ b4 _ 24 (0, 0) (by rfl) (HS.out.blk (i := 1) rfl) (wc_len _)) rfl ⟨rfl, HS.out.below⟩
end
section
open Go Go.RowKit Go.Proofs
attribute [local irreducible] wc pw bl bitN fl shlW shrW Calls
set_option maxHeartbeats 1000000 in
set_option maxRecDepth 100000 in
theorem len26 (n : Nat) (hn : n < M4) (w : World) : Calls Try.prog 26 #[.agg (wc n)] w fun e w' => e = .returned (.int .i64 (blen n : Nat)) ∧ Below w.heap.size w w' := by
  have HS := Lib.hid (St.start w)
  have hfin : n % pw 4 = n := Nat.mod_eq_of_lt (by unfold pw; exact hn)
  have HF := Lib.hid hfin
  clear hfin hn
  go_enter Try.func26, Try.ntmps26
  go_wp2_with (first
    | (refine atd 1 (by rfl) ?_; refine wl (by rfl) (bx24 HS.out n (by rfl) (by rfl) ?_); intro b1 Wn hS; clear HS; have HS := Lib.hid hS; clear hS)
    | (refine wl (by rfl) (ld24 HS.out 0 (by rfl) (by rfl) (by rfl) ?_)))
  go_loopw [3, 7] (fun s3 s7 W => ∃ k : Nat, k ≤ 4 ∧ s7 = .int .i64 k ∧ s3 = .int .i64 (blen (n % pw k) : Nat) ∧ St w W [Blk b1 (wc n).toList 24] []) (fun _ s7 _ => 4 - (intOf s7).toNat)
  case atStart => exact ⟨0, by omega, rfl, by rw [show n % pw 0 = 0 from by unfold pw; exact Nat.mod_one _]; rfl, HS.out⟩
  case round =>
    clear HS
    obtain ⟨k, hk, rfl, rfl, hS⟩ := hrel
    have HS := Lib.hid hS
    clear hS
    by_cases hlt : k < 4
    · have ki0 : (0 : Int) ≤ (k : Int) := by omega
      have ki1 : (k : Int) < 4 := by omega
      have hg := wc_get n k hlt
      have hx := wk_lt n k
      obtain ⟨z1, z2⟩ := blen_word n k hlt
      obtain ⟨x, hxe⟩ : ∃ x, x = wk n k := ⟨_, rfl⟩
      rw [← hxe] at hg hx z1 z2
      clear hxe
      by_cases hx0 : x = 0
      · subst hx0
        have HZ := Lib.hid (z1 rfl)
        clear z1 z2
        have HG := Lib.hid hg
        clear hg
        go_wp2_with (first
          | (refine wl (by rfl) (wp_of_run (run_ix Try.underlying24 (by kernel_rfl) (by rfl) (by rfl) (by rfl) hlt HG.out) ?_)))
        go_roundw
        case rel => exact ⟨k + 1, by omega, by go_num, by rw [HZ.out], HS.out⟩
        case measure => simp [intOf]; omega
      · have hz2 := z2 hx0
        have hp : (0 : Int) < (x : Int) := by omega
        have hbl : Lib.bitLen x = blen x := bitLen_blen x hx
        have hb64 : blen x ≤ 64 := by rw [← hbl]; exact bitLen_le x
        have hwr : IntKind.i64.wrap ((k : Int) * 64 + (blen x : Int)) = ((64 * k + blen x : Nat) : Int) := by rw [IntKind.wrap_i64]; omega
        rw [← hz2] at hwr
        have hwr2 : (k : Int) * 64 + (blen x : Int) = ((blen (n % pw (k + 1)) : Nat) : Int) := by rw [hz2]; omega
        have HG := Lib.hid hg; have HB := Lib.hid hbl; have HWR := Lib.hid hwr2
        clear hg z1 z2 hz2 hbl hwr hwr2
        go_wp2_with (first
          | (refine wl (by rfl) (wp_of_run (run_ix Try.underlying24 (by kernel_rfl) (by rfl) (by rfl) (by rfl) hlt HG.out) ?_))
          | (go_at_call 38; refine (Try.bits_Len64 _ _ (by omega) (by omega)).mono ?_; rw [Int.toNat_natCast, HB.out]; rintro e Wn ⟨rfl, rfl⟩))
        go_roundw
        case rel => exact ⟨k + 1, by omega, by go_num, by rw [HWR.out], HS.out⟩
        case measure => simp [intOf]; omega
    · obtain rfl : k = 4 := by omega
      go_wp2_with fail
      go_ret
      exact ⟨by rw [HF.out]; rfl, HS.out.below⟩
end
end Go.Proofs.Ytkbambojnifjcaa
