/- Contracts and words that the laws stand on (RefB). -/
import Derived.Test.YtkbambojnifjcaaRefA
import Derived.Test.YtkbambojnifjcaaTimes
set_option linter.unusedVariables false
set_option linter.unusedSimpArgs false
namespace Go.Proofs.Ytkbambojnifjcaa
section
open Go Go.RowKit Go.Proofs
attribute [local irreducible] wc pw bl bitN fl shlW shrW Calls
set_option maxHeartbeats 1000000 in
set_option maxRecDepth 100000 in
theorem rleft22 (n : Nat) (s : Int) (hn : n < M4) (hs : s ≤ 9223372036854775807) (w : World) : Calls Try.prog 22 #[.agg (wc n), .int .i64 s] w fun e w' => e = .returned (.agg (wc (shlW n s))) ∧ Below w.heap.size w w' := by
  have HS := Lib.hid (St.start w)
  by_cases h0 : s ≤ 0
  · have hr : shlW n s = n := by unfold shlW; rw [if_pos h0]
    rw [hr]
    clear hr hn
    go_enter Try.func22, Try.ntmps22
    go_wp2_with (first
      | (refine atd 2 (by rfl) ?_; refine wl (by rfl) (bx24 HS.out n (by rfl) (by rfl) ?_); intro b2 Wn hS; clear HS; have HS := Lib.hid hS; clear hS)
      | (refine atd 4 (by rfl) ?_; refine wl (by rfl) (s_al HS.out (by rfl) z24 (by rfl) ?_); intro b4 Wn hS; replace hS := al24 hS; clear HS; have HS := Lib.hid hS; clear hS)
      | (refine wl (by rfl) (ld24 HS.out 1 (by rfl) (by rfl) (by rfl) ?_))
      | (refine wl (by rfl) (st24 HS.out 0 n (by rfl) (by rfl) (by rfl) (by rfl) ?_); intro Wn hS; clear HS; have HS := Lib.hid hS; clear hS))
    exact bodyPost_ret (ret_c (p := 4) rfl _ b4 _ 24 (0, 0) (by rfl) (HS.out.blk (i := 0) rfl) (wc_len _)) rfl ⟨rfl, HS.out.below⟩
  · obtain ⟨N, rfl⟩ := Int.eq_ofNat_of_zero_le (show 0 ≤ s by omega)
    have hr : shlW n (N : Int) = n * 2 ^ N % M4 := by unfold shlW; rw [if_neg h0, Int.toNat_natCast]
    have hY : n * 2 ^ N % M4 < M4 := Nat.mod_lt _ (by decide)
    have hbit := shl_bit n N
    have hlow := shl_low n N
    have hbig := shl_big n N
    rw [hr]
    clear hr
    obtain ⟨Y, hYe⟩ : ∃ Y, Y = n * 2 ^ N % M4 := ⟨_, rfl⟩
    rw [← hYe] at hY hlow hbig ⊢
    simp only [← hYe] at hbit
    have hz : Y % 2 ^ min 256 256 = Y := by rw [Nat.min_self, ← M4_pow]; exact Nat.mod_eq_of_lt hY
    have hfin : ∀ j : Nat, j ≤ 256 → j ≤ N → (N ≤ j ∨ j = 256) → Y / 2 ^ j * 2 ^ j = Y := by
      intro j h1 h2 h3
      rcases Nat.lt_or_ge j N with h4 | h4
      · obtain rfl : j = 256 := by omega
        rw [hbig (by omega)]
      · obtain rfl : j = N := by omega
        exact hlow h1
    have hst : Y / 2 ^ 256 * 2 ^ 256 = 0 := by rw [← M4_pow, Nat.div_eq_of_lt hY, Nat.zero_mul]
    have HZ := Lib.hid hz; have HF := Lib.hid hfin; have HBIT := Lib.hid hbit; have HY := Lib.hid hY; have HST := Lib.hid hst
    clear hz hfin hbit hlow hbig hY hYe hn hst
    go_enter Try.func22, Try.ntmps22
    go_wp2_with (first
      | (refine atd 2 (by rfl) ?_; refine wl (by rfl) (bx24 HS.out n (by rfl) (by rfl) ?_); intro b2 Wn hS; clear HS; have HS := Lib.hid hS; clear hS)
      | (refine atd 4 (by rfl) ?_; refine wl (by rfl) (s_al HS.out (by rfl) z24 (by rfl) ?_); intro b4 Wn hS; replace hS := al24 hS; clear HS; have HS := Lib.hid hS; clear hS)
      | (refine wl (by rfl) (ld24 HS.out 1 (by rfl) (by rfl) (by rfl) ?_))
      | (go_at_call 33; (first | refine (bitsR _ _).mono ?_); rintro e Wn ⟨x1, rfl, hb⟩; have hS := HS.out.take hb; clear hb; clear HS; have HS := Lib.hid hS; clear hS)
      | (refine atd 13 (by rfl) ?_; refine wl (by rfl) (s_mk (k := 8) HS.out (256) (by rfl) (by rfl) (by rfl) Try.underlying54 z3 (by rfl) (by kernel_rfl) (by decide) (by decide) ?_); intro x2 Wn hS; clear HS; have HS := Lib.hid hS; clear hS))
    go_loopw [7] (fun s7 W => ∃ j : Nat, j ≤ 256 ∧ (N ≤ j ∨ j = 256) ∧ s7 = .int .i64 ((j : Int) - 1) ∧ St w W [Blk x2 (bl (Y / 2 ^ j * 2 ^ j) 256) 3, Blk x1 (bl n 256) 3, Blk b4 (wc 0).toList 24, Blk b2 (wc n).toList 24] []) (fun s7 _ => (intOf s7 + 1).toNat)
    case atStart => exact ⟨256, by omega, by omega, rfl, by rw [HST.out, ← bl_zero]; exact HS.out⟩
    case round =>
      clear HS
      obtain ⟨j, hj, hjN, rfl, hS⟩ := hrel
      have HS := Lib.hid hS
      clear hS
      by_cases hlt : N < j
      · obtain ⟨i, rfl⟩ : ∃ i, j = i + 1 := ⟨j - 1, by omega⟩
        have hj1 : ((i + 1 : Nat) : Int) - 1 = (i : Int) := by omega
        have ki0 : (0 : Int) ≤ (i : Int) := by omega
        have ki1 : (i : Int) < 256 := by omega
        have ki2 : (N : Int) ≤ (i : Int) := by omega
        have hwr : IntKind.i64.wrap ((i : Int) - (N : Int)) = ((i - N : Nat) : Int) := by rw [IntKind.wrap_i64]; omega
        have hb := HBIT.out i (by omega) (by omega)
        obtain ⟨h1, h2⟩ := high_step Y i
        have hset := bl_set (Y / 2 ^ (i + 1) * 2 ^ (i + 1)) 256 i (bitN Y i) h1 (by have := bitN_lt Y i; omega)
        rw [h2] at hset
        have hv := bl_get n 256 (i - N) (by omega)
        rw [← hb] at hv
        have HSET := Lib.hid hset; have HV := Lib.hid hv
        rw [hj1]
        obtain ⟨q, hq⟩ : ∃ q, q = i - N := ⟨_, rfl⟩
        rw [← hq] at hwr HV
        have kq0 : (0 : Int) ≤ (q : Int) := by omega
        have kq1 : (q : Int) < 256 := by omega
        have hwm : (i : Int) - (N : Int) = (q : Int) := by omega
        clear hb h1 h2 hset hv hq hj1
        go_wp2_with (first
          | (refine wl (by rfl) (s_ld HS.out 1 (by rfl) (by rfl) (by rfl) (by kernel_rfl) HV.out ?_))
          | (refine wl (by rfl) (s_st (v := .int .i64 (bitN Y i : Nat)) HS.out 0 (by rfl) (by rfl) (by rfl) (by kernel_rfl) (by rfl) (by rfl) (by rw [bl_len]; omega) ?_); intro Wn hS; clear HS; have HS := Lib.hid hS; clear hS))
        go_roundw
        case rel => exact ⟨i, by omega, by omega, rfl, by rw [← HSET.out]; exact HS.out⟩
        case measure => simp [intOf]
      · have hS := HS.out
        rw [HF.out j hj (by omega) hjN] at hS
        clear HS
        have HS := Lib.hid hS
        clear hS
        have hjj : (j : Int) ≤ (N : Int) := by omega
        go_wp2_with (first
          | (go_at_call 36; refine (number36 x2 0 256 256 _ _ (HS.out.bits 0 rfl) (by decide)).mono ?_; rw [HZ.out]; rintro e Wn ⟨rfl, hb⟩; have hS := HS.out.call hb; clear hb; clear HS; have HS := Lib.hid hS; clear hS)
          | (refine wl (by rfl) (st24 HS.out 2 Y (by rfl) (by rfl) (by rfl) (by rfl) ?_); intro Wn hS; clear HS; have HS := Lib.hid hS; clear hS))
        exact bodyPost_ret (ret_c (p := 4) rfl _ b4 _ 24 (0, 0) (by rfl) (HS.out.blk (i := 2) rfl) (wc_len _)) rfl ⟨rfl, HS.out.below⟩
end
section
open Go Go.RowKit Go.Proofs
attribute [local irreducible] wc pw bl bitN fl shlW shrW Calls
set_option maxHeartbeats 1000000 in
set_option maxRecDepth 100000 in
theorem rright24 (n : Nat) (s : Int) (hn : n < M4) (hs : s ≤ 9223372036854775807) (w : World) : Calls Try.prog 24 #[.agg (wc n), .int .i64 s] w fun e w' => e = .returned (.agg (wc (shrW n s))) ∧ Below w.heap.size w w' := by
  have HS := Lib.hid (St.start w)
  by_cases h0 : s ≤ 0
  · have hr : shrW n s = n := by unfold shrW; rw [if_pos h0]
    rw [hr]
    clear hr hn
    go_enter Try.func24, Try.ntmps24
    go_wp2_with (first
      | (refine atd 2 (by rfl) ?_; refine wl (by rfl) (bx24 HS.out n (by rfl) (by rfl) ?_); intro b2 Wn hS; clear HS; have HS := Lib.hid hS; clear hS)
      | (refine atd 4 (by rfl) ?_; refine wl (by rfl) (s_al HS.out (by rfl) z24 (by rfl) ?_); intro b4 Wn hS; replace hS := al24 hS; clear HS; have HS := Lib.hid hS; clear hS)
      | (refine wl (by rfl) (ld24 HS.out 1 (by rfl) (by rfl) (by rfl) ?_))
      | (refine wl (by rfl) (st24 HS.out 0 n (by rfl) (by rfl) (by rfl) (by rfl) ?_); intro Wn hS; clear HS; have HS := Lib.hid hS; clear hS))
    exact bodyPost_ret (ret_c (p := 4) rfl _ b4 _ 24 (0, 0) (by rfl) (HS.out.blk (i := 0) rfl) (wc_len _)) rfl ⟨rfl, HS.out.below⟩
  · obtain ⟨N, rfl⟩ := Int.eq_ofNat_of_zero_le (show 0 ≤ s by omega)
    have hr : shrW n (N : Int) = n / 2 ^ N := by unfold shrW; rw [if_neg h0, Int.toNat_natCast]
    have hY : n / 2 ^ N < M4 := Nat.lt_of_le_of_lt (Nat.div_le_self _ _) hn
    have hbit := shr_bit n N
    have htop := shr_top n N hn
    have hbig := shr_big n N hn
    rw [hr]
    clear hr
    obtain ⟨Y, hYe⟩ : ∃ Y, Y = n / 2 ^ N := ⟨_, rfl⟩
    rw [← hYe] at hY htop hbig ⊢
    simp only [← hYe] at hbit
    have hz : Y % 2 ^ min 256 256 = Y := by rw [Nat.min_self, ← M4_pow]; exact Nat.mod_eq_of_lt hY
    have hfin : ∀ i : Nat, i + N ≤ 256 ∨ i = 0 → 256 ≤ i + N → Y % 2 ^ i = Y := by
      intro i h1 h2
      rcases h1 with h1 | rfl
      · obtain rfl : i = 256 - N := by omega
        exact htop (by omega)
      · rw [hbig (by omega)]
    have HZ := Lib.hid hz; have HF := Lib.hid hfin; have HBIT := Lib.hid hbit; have HY := Lib.hid hY
    have hN63 : (N : Int) ≤ 9223372036854775807 := hs
    clear hz hfin hbit htop hbig hY hYe hn
    go_enter Try.func24, Try.ntmps24
    go_wp2_with (first
      | (refine atd 2 (by rfl) ?_; refine wl (by rfl) (bx24 HS.out n (by rfl) (by rfl) ?_); intro b2 Wn hS; clear HS; have HS := Lib.hid hS; clear hS)
      | (refine atd 4 (by rfl) ?_; refine wl (by rfl) (s_al HS.out (by rfl) z24 (by rfl) ?_); intro b4 Wn hS; replace hS := al24 hS; clear HS; have HS := Lib.hid hS; clear hS)
      | (refine wl (by rfl) (ld24 HS.out 1 (by rfl) (by rfl) (by rfl) ?_))
      | (go_at_call 33; (first | refine (bitsR _ _).mono ?_); rintro e Wn ⟨x1, rfl, hb⟩; have hS := HS.out.take hb; clear hb; clear HS; have HS := Lib.hid hS; clear hS)
      | (refine atd 13 (by rfl) ?_; refine wl (by rfl) (s_mk (k := 8) HS.out (256) (by rfl) (by rfl) (by rfl) Try.underlying54 z3 (by rfl) (by kernel_rfl) (by decide) (by decide) ?_); intro x2 Wn hS; clear HS; have HS := Lib.hid hS; clear hS))
    go_loopw [7] (fun s7 W => ∃ i : Nat, i ≤ 256 ∧ (i + N ≤ 256 ∨ i = 0) ∧ s7 = .int .i64 i ∧ St w W [Blk x2 (bl (Y % 2 ^ i) 256) 3, Blk x1 (bl n 256) 3, Blk b4 (wc 0).toList 24, Blk b2 (wc n).toList 24] []) (fun s7 _ => 256 - (intOf s7).toNat)
    case atStart => exact ⟨0, by omega, by omega, rfl, by rw [Nat.pow_zero, Nat.mod_one, ← bl_zero]; exact HS.out⟩
    case round =>
      clear HS
      obtain ⟨i, hi, hiN, rfl, hS⟩ := hrel
      have HS := Lib.hid hS
      clear hS
      have ki0 : (0 : Int) ≤ (i : Int) := by omega
      by_cases hlt : i + N < 256
      · have ki1 : (i : Int) < 256 := by omega
        have hwr : IntKind.i64.wrap ((i : Int) + (N : Int)) = ((i + N : Nat) : Int) := by rw [IntKind.wrap_i64]; omega
        have hw2 : (N : Int) < 256 - (i : Int) := by omega
        have hb := HBIT.out i
        have hset := bl_set (Y % 2 ^ i) 256 i (bitN Y i) (bitN_mod_ge _ _ _ (Nat.le_refl _)) (by have := bitN_lt Y i; omega)
        rw [← mod_succ] at hset
        have hv := bl_get n 256 (i + N) (by omega)
        rw [← hb] at hv
        have HSET := Lib.hid hset; have HV := Lib.hid hv
        obtain ⟨q, hq⟩ : ∃ q, q = i + N := ⟨_, rfl⟩
        rw [← hq] at hwr HV
        have kq0 : (0 : Int) ≤ (q : Int) := by omega
        have kq1 : (q : Int) < 256 := by omega
        have hwm : (i : Int) + (N : Int) = (q : Int) := by omega
        clear hb hset hv hq
        go_wp2_with (first
          | (refine wl (by rfl) (s_ld HS.out 1 (by rfl) (by rfl) (by rfl) (by kernel_rfl) HV.out ?_))
          | (refine wl (by rfl) (s_st (v := .int .i64 (bitN Y i : Nat)) HS.out 0 (by rfl) (by rfl) (by rfl) (by kernel_rfl) (by rfl) (by rfl) (by rw [bl_len]; omega) ?_); intro Wn hS; clear HS; have HS := Lib.hid hS; clear hS))
        go_roundw
        case rel => exact ⟨i + 1, by omega, by omega, by go_num, by rw [← HSET.out]; exact HS.out⟩
        case measure => simp [intOf]; omega
      · have hS := HS.out
        rw [HF.out i hiN (by omega)] at hS
        clear HS
        have HS := Lib.hid hS
        clear hS
        by_cases h256 : i < 256
        · have hw2 : ¬ (N : Int) < 256 - (i : Int) := by omega
          have hw1 : (i : Int) < 256 := by omega
          go_wp2_with (first
            | (go_at_call 36; refine (number36 x2 0 256 256 _ _ (HS.out.bits 0 rfl) (by decide)).mono ?_; rw [HZ.out]; rintro e Wn ⟨rfl, hb⟩; have hS := HS.out.call hb; clear hb; clear HS; have HS := Lib.hid hS; clear hS)
            | (refine wl (by rfl) (st24 HS.out 2 Y (by rfl) (by rfl) (by rfl) (by rfl) ?_); intro Wn hS; clear HS; have HS := Lib.hid hS; clear hS))
          exact bodyPost_ret (ret_c (p := 4) rfl _ b4 _ 24 (0, 0) (by rfl) (HS.out.blk (i := 2) rfl) (wc_len _)) rfl ⟨rfl, HS.out.below⟩
        · have hw1 : ¬ (i : Int) < 256 := by omega
          go_wp2_with (first
            | (go_at_call 36; refine (number36 x2 0 256 256 _ _ (HS.out.bits 0 rfl) (by decide)).mono ?_; rw [HZ.out]; rintro e Wn ⟨rfl, hb⟩; have hS := HS.out.call hb; clear hb; clear HS; have HS := Lib.hid hS; clear hS)
            | (refine wl (by rfl) (st24 HS.out 2 Y (by rfl) (by rfl) (by rfl) (by rfl) ?_); intro Wn hS; clear HS; have HS := Lib.hid hS; clear hS))
          exact bodyPost_ret (ret_c (p := 4) rfl _ b4 _ 24 (0, 0) (by rfl) (HS.out.blk (i := 2) rfl) (wc_len _)) rfl ⟨rfl, HS.out.below⟩
end
section
open Go Go.RowKit Go.Proofs
attribute [local irreducible] wc pw bl bitN fl shlW shrW Calls
set_option maxHeartbeats 1000000 in
set_option maxRecDepth 100000 in
theorem rsub19 (n m : Nat) (hn : n < M4) (hm : m < M4) (w : World) : Calls Try.prog 19 #[.agg (wc n), .agg (wc m)] w fun e w' => e = .returned (.tuple #[.agg (wc ((n + M4 - m) % M4)), .bool (decide (n < m))]) ∧ Below w.heap.size w w' := by
  have HS := Lib.hid (St.start w)
  have hc1 := fun (x y : Nat) (W : World) (h1 : BitsAt x 0 256 n W) (h2 : BitsAt y 0 256 (M4 - 1 - m) W) => add37 x 0 256 y 0 256 256 256 n (M4 - 1 - m) W h1 h2 (by decide) (by decide) (by rw [← M4_pow]; exact hn) (by rw [← M4_pow]; simp only [M4]; omega)
  have hc2 := fun (x y : Nat) (W : World) (h1 : BitsAt x 0 256 ((n + (M4 - 1 - m)) % M4) W) (h2 : BitsAt y 0 256 1 W) => add37 x 0 256 y 0 256 256 256 ((n + (M4 - 1 - m)) % M4) 1 W h1 h2 (by decide) (by decide) (by rw [← M4_pow]; exact Nat.mod_lt _ (by decide)) (by rw [← M4_pow]; decide)
  rw [← M4_pow] at hc1 hc2
  have hr : ((n + (M4 - 1 - m)) % M4 + 1) % M4 = (n + M4 - m) % M4 := by simp only [M4] at *; omega
  rw [hr] at hc2
  have q1 : (n + (M4 - 1 - m)) / M4 = if m < n then 1 else 0 := by simp only [M4] at *; split <;> omega
  have q2 : ((n + (M4 - 1 - m)) % M4 + 1) / M4 = if m = n then 1 else 0 := by simp only [M4] at *; split <;> omega
  rw [q1] at hc1
  rw [q2] at hc2
  have hz : (n + M4 - m) % M4 % 2 ^ min 256 256 = (n + M4 - m) % M4 := by rw [Nat.min_self, ← M4_pow, Nat.mod_mod]
  have hno := rnot25 m hm
  obtain ⟨N1, hN1⟩ : ∃ x, x = (n + (M4 - 1 - m)) % M4 := ⟨_, rfl⟩
  obtain ⟨nm, hnm⟩ : ∃ x, x = M4 - 1 - m := ⟨_, rfl⟩
  rw [← hN1] at hc1 hc2
  rw [← hnm] at hc1 hno
  obtain ⟨R, hR⟩ : ∃ x, x = (n + M4 - m) % M4 := ⟨_, rfl⟩
  rw [← hR] at hc2 hz ⊢
  have o1 := fun w => of34 1 (by decide) w
  have HC1 := Lib.hid hc1; have HC2 := Lib.hid hc2; have HZ := Lib.hid hz; have HNO := Lib.hid hno; have HO := Lib.hid o1
  have htri : (m < n ∧ decide (n < m) = false) ∨ (m = n ∧ decide (n < m) = false) ∨ (n < m ∧ decide (n < m) = true) := by
    rcases Nat.lt_trichotomy m n with h | h | h
    · exact .inl ⟨h, decide_eq_false (by omega)⟩
    · exact .inr (.inl ⟨h, decide_eq_false (by omega)⟩)
    · exact .inr (.inr ⟨h, decide_eq_true h⟩)
  clear hc1 hc2 hz hno o1 hR hN1 hnm hr q1 q2 hn hm
  have key : ∀ (i1 i2 : Nat) (dd : Bool), (if m < n then 1 else 0) = i1 → (if m = n then 1 else 0) = i2 → decide (n < m) = dd → ((i1 = 1 ∧ i2 = 0 ∧ dd = false) ∨ (i1 = 0 ∧ i2 = 1 ∧ dd = false) ∨ (i1 = 0 ∧ i2 = 0 ∧ dd = true)) → Calls Try.prog 19 #[.agg (wc n), .agg (wc m)] w fun e w' => e = .returned (.tuple #[.agg (wc R), .bool dd]) ∧ Below w.heap.size w w' := by
    intro i1 i2 dd e1 e2 e3 hcase
    have hc1 := HC1.out; have hc2 := HC2.out
    rw [e1] at hc1
    rw [e2] at hc2
    clear HC1 HC2 e1 e2 e3 htri
    have HC1 := Lib.hid hc1; have HC2 := Lib.hid hc2
    clear hc1 hc2
    rcases hcase with ⟨rfl, rfl, rfl⟩ | ⟨rfl, rfl, rfl⟩ | ⟨rfl, rfl, rfl⟩
    all_goals
      go_enter Try.func19, Try.ntmps19
      go_wp2_with (first
        | (refine atd 2 (by rfl) ?_; refine wl (by rfl) (bx24 HS.out n (by rfl) (by rfl) ?_); intro b2 Wn hS; clear HS; have HS := Lib.hid hS; clear hS)
        | (refine atd 3 (by rfl) ?_; refine wl (by rfl) (bx24 HS.out m (by rfl) (by rfl) ?_); intro b3 Wn hS; clear HS; have HS := Lib.hid hS; clear hS)
        | (refine atd 4 (by rfl) ?_; refine wl (by rfl) (s_al HS.out (by rfl) z24 (by rfl) ?_); intro b4 Wn hS; replace hS := al24 hS; clear HS; have HS := Lib.hid hS; clear hS)
        | (refine atd 6 (by rfl) ?_; refine wl (by rfl) (s_al HS.out (by rfl) z24 (by rfl) ?_); intro b6 Wn hS; replace hS := al24 hS; clear HS; have HS := Lib.hid hS; clear hS)
        | (go_at_call 34; (first | refine (HO.out _).mono ?_); rintro e Wn ⟨rfl, hb⟩; have hS := HS.out.call hb; clear hb; clear HS; have HS := Lib.hid hS; clear hS)
        | (refine wl (by rfl) (st24 HS.out 0 1 (by rfl) (by rfl) (by rfl) (by rfl) ?_); intro Wn hS; clear HS; have HS := Lib.hid hS; clear hS))
      refine wp_region_pi [(0, true), (2, true), (1, false), (3, false), (4, false), (5, false), (6, true), (7, true), (8, true), (9, true), (10, true)] (by kernel_rfl) (by kernel_rfl) rfl (by kernel_rfl) (fun _ _ _ _ _ h => h) (fun w' => St w w' [Blk b6 (wc 1).toList 24, Blk b4 (wc 0).toList 24, Blk b3 (wc m).toList 24, Blk b2 (wc n).toList 24] []) HS.out.drew ?_
      intro OPS hops
      have hS := HS.out.drew
      clear HS; have HS := Lib.hid hS; clear hS
      iterate 2
        first | (refine wpPi_yield _ (by rw [hops.out]; simp only [List.getElem?_toArray, List.getElem?_cons_succ, List.getElem?_cons_zero]; rfl) (by first | rfl | (rw [hops.out]; rfl)) (fun w' hS => by first | exact ldw hS 3 (by rfl) (by rfl) (by rfl) | exact ldw hS 2 (by rfl) (by rfl) (by rfl) | (go_simp; rfl)) ?_; simp only [Act.put, List.setIfInBounds_toArray, List.set_cons_succ, List.set_cons_zero]) | (refine wpPi_skip (by rw [hops.out]; simp only [List.getElem?_toArray, List.getElem?_cons_succ, List.getElem?_cons_zero]; rfl) (by first | rfl | (rw [hops.out]; rfl)) ?_; simp only [Act.put, List.setIfInBounds_toArray, List.set_cons_succ, List.set_cons_zero])
      refine wpPi_act (by rw [hops.out]; simp only [List.getElem?_toArray, List.getElem?_cons_succ, List.getElem?_cons_zero]; rfl) (by first | rfl | (rw [hops.out]; rfl)) ?_
      go_simp
      refine (bitsR n _).mono ?_
      rintro e Wn ⟨x1, rfl, hb⟩
      have hS := HS.out.take hb
      clear HS; have HS := Lib.hid hS; clear hS
      clear hb
      refine ⟨HS.out.sub 0, ?_⟩
      try simp only [Act.put, List.setIfInBounds_toArray, List.set_cons_succ, List.set_cons_zero]
      refine wpPi_act (by rw [hops.out]; simp only [List.getElem?_toArray, List.getElem?_cons_succ, List.getElem?_cons_zero]; rfl) (by first | rfl | (rw [hops.out]; rfl)) ?_
      go_simp
      refine (HNO.out _).mono ?_
      rintro e Wn ⟨rfl, hb⟩
      have hS := HS.out.call hb
      clear HS; have HS := Lib.hid hS; clear hS
      clear hb
      refine ⟨HS.out.sub 0, ?_⟩
      try simp only [Act.put, List.setIfInBounds_toArray, List.set_cons_succ, List.set_cons_zero]
      refine wpPi_act (by rw [hops.out]; simp only [List.getElem?_toArray, List.getElem?_cons_succ, List.getElem?_cons_zero]; rfl) (by first | rfl | (rw [hops.out]; rfl)) ?_
      go_simp
      refine (bitsR nm _).mono ?_
      rintro e Wn ⟨x2, rfl, hb⟩
      have hS := HS.out.take hb
      clear HS; have HS := Lib.hid hS; clear hS
      clear hb
      refine ⟨(HS.out.sub 0).sub 0, ?_⟩
      try simp only [Act.put, List.setIfInBounds_toArray, List.set_cons_succ, List.set_cons_zero]
      refine wpPi_act (by rw [hops.out]; simp only [List.getElem?_toArray, List.getElem?_cons_succ, List.getElem?_cons_zero]; rfl) (by first | rfl | (rw [hops.out]; rfl)) ?_
      go_simp
      refine (HC1.out x1 x2 _ (HS.out.bits 1 rfl) (HS.out.bits 0 rfl)).mono ?_
      rintro e Wn ⟨x3, rfl, hb⟩
      have hS := HS.out.take hb
      clear HS; have HS := Lib.hid hS; clear hS
      clear hb
      refine ⟨((HS.out.sub 0).sub 0).sub 0, ?_⟩
      try simp only [Act.put, List.setIfInBounds_toArray, List.set_cons_succ, List.set_cons_zero]
      iterate 5
        first | (refine wpPi_yield _ (by rw [hops.out]; simp only [List.getElem?_toArray, List.getElem?_cons_succ, List.getElem?_cons_zero]; rfl) (by first | rfl | (rw [hops.out]; rfl)) (fun w' hS => by first | exact ldw hS 3 (by rfl) (by rfl) (by rfl) | exact ldw hS 2 (by rfl) (by rfl) (by rfl) | (go_simp; rfl)) ?_; simp only [Act.put, List.setIfInBounds_toArray, List.set_cons_succ, List.set_cons_zero]) | (refine wpPi_skip (by rw [hops.out]; simp only [List.getElem?_toArray, List.getElem?_cons_succ, List.getElem?_cons_zero]; rfl) (by first | rfl | (rw [hops.out]; rfl)) ?_; simp only [Act.put, List.setIfInBounds_toArray, List.set_cons_succ, List.set_cons_zero])
      simp only [wpPi]
      clear OPS hops
      go_wp2_with (first
        | (refine wl (by rfl) (ld24 HS.out 3 (by rfl) (by rfl) (by rfl) ?_))
        | (go_at_call 33; (first | refine (bitsR 1 _).mono ?_); rintro e Wn ⟨x4, rfl, hb⟩; have hS := HS.out.take hb; clear hb; clear HS; have HS := Lib.hid hS; clear hS)
        | (go_at_call 37; (first | refine (HC2.out x3 x4 _ (HS.out.bits 1 rfl) (HS.out.bits 0 rfl)).mono ?_); rintro e Wn ⟨x5, rfl, hb⟩; have hS := HS.out.take hb; clear hb; clear HS; have HS := Lib.hid hS; clear hS)
        | (go_at_call 36; refine (number36 x5 0 256 256 _ _ (HS.out.bits 0 rfl) (by decide)).mono ?_; rw [HZ.out]; rintro e Wn ⟨rfl, hb⟩; have hS := HS.out.call hb; clear hb; clear HS; have HS := Lib.hid hS; clear hS)
        | (refine wl (by rfl) (st24 HS.out 6 R (by rfl) (by rfl) (by rfl) (by rfl) ?_); intro Wn hS; clear HS; have HS := Lib.hid hS; clear hS))
      exact bodyPost_ret (ret_ct (p := 4) (u := 5) rfl _ b4 _ 24 (0, 0) _ (by rfl) (by rfl) (HS.out.blk (i := 6) rfl) (wc_len _)) rfl ⟨rfl, HS.out.below⟩
  rcases htri with ⟨h, hd⟩ | ⟨h, hd⟩ | ⟨h, hd⟩
  · rw [hd]; exact key 1 0 false (if_pos h) (if_neg (by omega)) hd (.inl ⟨rfl, rfl, rfl⟩)
  · rw [hd]; exact key 0 1 false (if_neg (by omega)) (if_pos h) hd (.inr (.inl ⟨rfl, rfl, rfl⟩))
  · rw [hd]; exact key 0 0 true (if_neg (by omega)) (if_neg (by omega)) hd (.inr (.inr ⟨rfl, rfl, rfl⟩))
end
section
open Go Go.RowKit Go.Proofs
attribute [local irreducible] wc pw bl bitN fl shlW shrW Calls
set_option maxHeartbeats 1000000 in
set_option maxRecDepth 100000 in
theorem rlen32 (n : Nat) (hn : n < M4) (w : World) : Calls Try.prog 32 #[.agg (wc n)] w fun e w' => e = .returned (.int .i64 (blen n : Nat)) ∧ Below w.heap.size w w' := by
  have HS := Lib.hid (St.start w)
  have hn2 : n < 2 ^ 256 := by rw [← M4_pow]; exact hn
  have HN := Lib.hid hn2
  clear hn hn2
  go_enter Try.func32, Try.ntmps32
  go_wp2_with (first
    | (refine atd 1 (by rfl) ?_; refine wl (by rfl) (bx24 HS.out n (by rfl) (by rfl) ?_); intro b1 Wn hS; clear HS; have HS := Lib.hid hS; clear hS)
    | (refine wl (by rfl) (ld24 HS.out 0 (by rfl) (by rfl) (by rfl) ?_))
    | (go_at_call 33; (first | refine (bitsR _ _).mono ?_); rintro e Wn ⟨x1, rfl, hb⟩; have hS := HS.out.take hb; clear hb; clear HS; have HS := Lib.hid hS; clear hS))
  go_loopw [4] (fun s4 W => ∃ k : Nat, k ≤ 256 ∧ n < 2 ^ k ∧ s4 = .int .i64 k ∧ St w W [Blk x1 (bl n 256) 3, Blk b1 (wc n).toList 24] []) (fun s4 _ => (intOf s4).toNat)
  case atStart => exact ⟨256, by omega, HN.out, rfl, HS.out⟩
  case round =>
    clear HS
    obtain ⟨k, hk, hlt, rfl, hS⟩ := hrel
    have HS := Lib.hid hS; have HLT := Lib.hid hlt
    clear hS hlt
    by_cases h0 : k = 0
    · subst h0
      have hr := blen_eq n 0 HLT.out (.inl rfl)
      have HR := Lib.hid hr
      clear hr
      go_wp2_with fail
      go_ret
      exact ⟨by rw [HR.out]; rfl, HS.out.below⟩
    · obtain ⟨i, rfl⟩ : ∃ i, k = i + 1 := ⟨k - 1, by omega⟩
      have hj1 : ((i + 1 : Nat) : Int) - 1 = (i : Int) := by omega
      have ki0 : (0 : Int) ≤ (i : Int) := by omega
      have ki1 : (i : Int) < 256 := by omega
      have kp : (0 : Int) < ((i + 1 : Nat) : Int) := by omega
      have hv := bl_get n 256 i (by omega)
      have hb := bitN_lt n i
      have hbb : bitN n i = 0 ∨ bitN n i = 1 := by omega
      rcases hbb with h | h
      · have hl2 := lt_succ_bit n i HLT.out h
        rw [h] at hv
        have HV := Lib.hid hv; have HL := Lib.hid hl2
        clear hv hl2 h hb
        go_wp2_with (first
          | (refine wl (by rfl) (s_ld HS.out 0 (by rfl) (by rfl) (by rfl) (by kernel_rfl) HV.out ?_)))
        go_roundw
        case rel => exact ⟨i, by omega, HL.out, by go_num, HS.out⟩
        case measure => simp [intOf]
      · have hr := blen_eq n (i + 1) HLT.out (.inr h)
        rw [h] at hv
        have HV := Lib.hid hv; have HR := Lib.hid hr
        clear hv hr h hb
        go_wp2_with (first
          | (refine wl (by rfl) (s_ld HS.out 0 (by rfl) (by rfl) (by rfl) (by kernel_rfl) HV.out ?_)))
        go_ret
        exact ⟨by rw [HR.out]; rfl, HS.out.below⟩
end
section
open Go Go.RowKit Go.Proofs
attribute [local irreducible] wc pw bl bitN fl shlW shrW Calls
set_option maxHeartbeats 1000000 in
set_option maxRecDepth 100000 in
theorem rcmp35 (n m : Nat) (hn : n < M4) (hm : m < M4) (w : World) : Calls Try.prog 35 #[.agg (wc n), .agg (wc m)] w fun e w' => e = .returned (.int .i64 (cmpW n m)) ∧ Below w.heap.size w w' := by
  have HS := Lib.hid (St.start w)
  have h0 : n / 2 ^ 256 = m / 2 ^ 256 := by rw [← M4_pow, Nat.div_eq_of_lt hn, Nat.div_eq_of_lt hm]
  have HN := Lib.hid h0
  clear hn hm h0
  go_enter Try.func35, Try.ntmps35
  go_wp2_with (first
    | (refine atd 2 (by rfl) ?_; refine wl (by rfl) (bx24 HS.out n (by rfl) (by rfl) ?_); intro b2 Wn hS; clear HS; have HS := Lib.hid hS; clear hS)
    | (refine atd 3 (by rfl) ?_; refine wl (by rfl) (bx24 HS.out m (by rfl) (by rfl) ?_); intro b3 Wn hS; clear HS; have HS := Lib.hid hS; clear hS)
    | (refine wl (by rfl) (ld24 HS.out 1 (by rfl) (by rfl) (by rfl) ?_))
    | (refine wl (by rfl) (ld24 HS.out 1 (by rfl) (by rfl) (by rfl) ?_))
    | (refine wl (by rfl) (ld24 HS.out 0 (by rfl) (by rfl) (by rfl) ?_))
    | (go_at_call 33; (first | refine (bitsR n _).mono ?_); rintro e Wn ⟨x1, rfl, hb⟩; have hS := HS.out.take hb; clear hb; clear HS; have HS := Lib.hid hS; clear hS)
    | (go_at_call 33; (first | refine (bitsR m _).mono ?_); rintro e Wn ⟨x2, rfl, hb⟩; have hS := HS.out.take hb; clear hb; clear HS; have HS := Lib.hid hS; clear hS))
  go_loopw [7] (fun s7 W => ∃ j : Nat, j ≤ 256 ∧ n / 2 ^ j = m / 2 ^ j ∧ s7 = .int .i64 ((j : Int) - 1) ∧ St w W [Blk x2 (bl m 256) 3, Blk x1 (bl n 256) 3, Blk b3 (wc m).toList 24, Blk b2 (wc n).toList 24] []) (fun s7 _ => (intOf s7 + 1).toNat)
  case atStart => exact ⟨256, by omega, HN.out, rfl, HS.out⟩
  case round =>
    clear HS
    obtain ⟨j, hj, heq, rfl, hS⟩ := hrel
    have HS := Lib.hid hS; have HEQ := Lib.hid heq
    clear hS heq
    by_cases h0 : j = 0
    · subst h0
      have hr : cmpW n m = 0 := by
        have := HEQ.out
        rw [Nat.pow_zero, Nat.div_one, Nat.div_one] at this
        unfold cmpW; rw [if_pos this]
      have HR := Lib.hid hr
      clear hr
      go_wp2_with fail
      go_ret
      exact ⟨by rw [HR.out]; rfl, HS.out.below⟩
    · obtain ⟨i, rfl⟩ : ∃ i, j = i + 1 := ⟨j - 1, by omega⟩
      have hj1 : ((i + 1 : Nat) : Int) - 1 = (i : Int) := by omega
      rw [hj1]
      clear hj1
      have ki0 : (0 : Int) ≤ (i : Int) := by omega
      have ki1 : (i : Int) < 256 := by omega
      have hv := bl_get n 256 i (by omega)
      have hu := bl_get m 256 i (by omega)
      have hlt1 : bitN n i < bitN m i → cmpW n m = -1 := fun h => by have := cmp_bit n m i HEQ.out h; unfold cmpW; rw [if_neg (by omega), if_pos this]
      have hlt2 : bitN m i < bitN n i → cmpW n m = 1 := fun h => by have := cmp_bit m n i HEQ.out.symm h; unfold cmpW; rw [if_neg (by omega), if_neg (by omega)]
      have hlt3 : bitN n i = bitN m i → n / 2 ^ i = m / 2 ^ i := fun h => by rw [div_bit n i, div_bit m i, HEQ.out, h]
      have HV := Lib.hid hv; have HU := Lib.hid hu; have H1 := Lib.hid hlt1; have H2 := Lib.hid hlt2; have H3 := Lib.hid hlt3
      clear hv hu hlt1 hlt2 hlt3
      generalize bitN n i = x at *
      generalize bitN m i = y at *
      rcases Nat.lt_trichotomy x y with h | h | h
      · have hd : (x : Int) < (y : Int) := by omega
        go_wp2_with fail
        refine wp_region_pi [(0, true), (1, true), (2, true), (3, true), (4, true), (5, true), (6, true), (7, true), (8, true)] (by kernel_rfl) (by kernel_rfl) rfl (by kernel_rfl) (fun _ _ _ _ _ h => h) (fun w' => St w w' [Blk x2 (bl m 256) 3, Blk x1 (bl n 256) 3, Blk b3 (wc m).toList 24, Blk b2 (wc n).toList 24] []) HS.out.drew ?_
        intro OPS hops
        have hS := HS.out.drew
        clear HS; have HS := Lib.hid hS; clear hS
        iterate 9
          first | (refine wpPi_yield _ (by rw [hops.out]; simp only [List.getElem?_toArray, List.getElem?_cons_succ, List.getElem?_cons_zero]; rfl) (by first | rfl | (rw [hops.out]; rfl)) (fun w' hS => by first | exact run_ld (by kernel_rfl) (by rfl) (by rfl) (hS.cell (i := 1) rfl HV.out) | exact run_ld (by kernel_rfl) (by rfl) (by rfl) (hS.cell (i := 0) rfl HU.out) | (go_simp; rfl)) ?_; simp only [Act.put, List.setIfInBounds_toArray, List.set_cons_succ, List.set_cons_zero]) | (refine wpPi_skip (by rw [hops.out]; simp only [List.getElem?_toArray, List.getElem?_cons_succ, List.getElem?_cons_zero]; rfl) (by first | rfl | (rw [hops.out]; rfl)) ?_; simp only [Act.put, List.setIfInBounds_toArray, List.set_cons_succ, List.set_cons_zero])
        simp only [wpPi]
        clear OPS hops
        go_wp2_with fail
        go_ret
        exact ⟨by rw [H1.out h]; rfl, HS.out.below⟩
      · subst h
        have hd : ¬ (x : Int) < (x : Int) := by omega
        go_wp2_with fail
        refine wp_region_pi [(0, true), (1, true), (2, true), (3, true), (4, true), (5, true), (6, true), (7, true), (8, true)] (by kernel_rfl) (by kernel_rfl) rfl (by kernel_rfl) (fun _ _ _ _ _ h => h) (fun w' => St w w' [Blk x2 (bl m 256) 3, Blk x1 (bl n 256) 3, Blk b3 (wc m).toList 24, Blk b2 (wc n).toList 24] []) HS.out.drew ?_
        intro OPS hops
        have hS := HS.out.drew
        clear HS; have HS := Lib.hid hS; clear hS
        iterate 9
          first | (refine wpPi_yield _ (by rw [hops.out]; simp only [List.getElem?_toArray, List.getElem?_cons_succ, List.getElem?_cons_zero]; rfl) (by first | rfl | (rw [hops.out]; rfl)) (fun w' hS => by first | exact run_ld (by kernel_rfl) (by rfl) (by rfl) (hS.cell (i := 1) rfl HV.out) | exact run_ld (by kernel_rfl) (by rfl) (by rfl) (hS.cell (i := 0) rfl HU.out) | (go_simp; rfl)) ?_; simp only [Act.put, List.setIfInBounds_toArray, List.set_cons_succ, List.set_cons_zero]) | (refine wpPi_skip (by rw [hops.out]; simp only [List.getElem?_toArray, List.getElem?_cons_succ, List.getElem?_cons_zero]; rfl) (by first | rfl | (rw [hops.out]; rfl)) ?_; simp only [Act.put, List.setIfInBounds_toArray, List.set_cons_succ, List.set_cons_zero])
        simp only [wpPi]
        clear OPS hops
        go_wp2_with fail
        refine wp_region_pi [(0, true), (1, true), (2, true), (3, true), (4, true), (5, true), (6, true), (7, true), (8, true)] (by kernel_rfl) (by kernel_rfl) rfl (by kernel_rfl) (fun _ _ _ _ _ h => h) (fun w' => St w w' [Blk x2 (bl m 256) 3, Blk x1 (bl n 256) 3, Blk b3 (wc m).toList 24, Blk b2 (wc n).toList 24] []) HS.out.drew ?_
        intro OPS hops
        have hS := HS.out.drew
        clear HS; have HS := Lib.hid hS; clear hS
        iterate 9
          first | (refine wpPi_yield _ (by rw [hops.out]; simp only [List.getElem?_toArray, List.getElem?_cons_succ, List.getElem?_cons_zero]; rfl) (by first | rfl | (rw [hops.out]; rfl)) (fun w' hS => by first | exact run_ld (by kernel_rfl) (by rfl) (by rfl) (hS.cell (i := 1) rfl HV.out) | exact run_ld (by kernel_rfl) (by rfl) (by rfl) (hS.cell (i := 0) rfl HU.out) | (go_simp; rfl)) ?_; simp only [Act.put, List.setIfInBounds_toArray, List.set_cons_succ, List.set_cons_zero]) | (refine wpPi_skip (by rw [hops.out]; simp only [List.getElem?_toArray, List.getElem?_cons_succ, List.getElem?_cons_zero]; rfl) (by first | rfl | (rw [hops.out]; rfl)) ?_; simp only [Act.put, List.setIfInBounds_toArray, List.set_cons_succ, List.set_cons_zero])
        simp only [wpPi]
        clear OPS hops
        go_wp2_with fail
        go_roundw
        case rel => exact ⟨i, by omega, (by simpa using H3.out), rfl, HS.out⟩
        case measure => simp [intOf]
      · have hd : ¬ (x : Int) < (y : Int) := by omega
        have hd2 : (y : Int) < (x : Int) := by omega
        go_wp2_with fail
        refine wp_region_pi [(0, true), (1, true), (2, true), (3, true), (4, true), (5, true), (6, true), (7, true), (8, true)] (by kernel_rfl) (by kernel_rfl) rfl (by kernel_rfl) (fun _ _ _ _ _ h => h) (fun w' => St w w' [Blk x2 (bl m 256) 3, Blk x1 (bl n 256) 3, Blk b3 (wc m).toList 24, Blk b2 (wc n).toList 24] []) HS.out.drew ?_
        intro OPS hops
        have hS := HS.out.drew
        clear HS; have HS := Lib.hid hS; clear hS
        iterate 9
          first | (refine wpPi_yield _ (by rw [hops.out]; simp only [List.getElem?_toArray, List.getElem?_cons_succ, List.getElem?_cons_zero]; rfl) (by first | rfl | (rw [hops.out]; rfl)) (fun w' hS => by first | exact run_ld (by kernel_rfl) (by rfl) (by rfl) (hS.cell (i := 1) rfl HV.out) | exact run_ld (by kernel_rfl) (by rfl) (by rfl) (hS.cell (i := 0) rfl HU.out) | (go_simp; rfl)) ?_; simp only [Act.put, List.setIfInBounds_toArray, List.set_cons_succ, List.set_cons_zero]) | (refine wpPi_skip (by rw [hops.out]; simp only [List.getElem?_toArray, List.getElem?_cons_succ, List.getElem?_cons_zero]; rfl) (by first | rfl | (rw [hops.out]; rfl)) ?_; simp only [Act.put, List.setIfInBounds_toArray, List.set_cons_succ, List.set_cons_zero])
        simp only [wpPi]
        clear OPS hops
        go_wp2_with fail
        refine wp_region_pi [(0, true), (1, true), (2, true), (3, true), (4, true), (5, true), (6, true), (7, true), (8, true)] (by kernel_rfl) (by kernel_rfl) rfl (by kernel_rfl) (fun _ _ _ _ _ h => h) (fun w' => St w w' [Blk x2 (bl m 256) 3, Blk x1 (bl n 256) 3, Blk b3 (wc m).toList 24, Blk b2 (wc n).toList 24] []) HS.out.drew ?_
        intro OPS hops
        have hS := HS.out.drew
        clear HS; have HS := Lib.hid hS; clear hS
        iterate 9
          first | (refine wpPi_yield _ (by rw [hops.out]; simp only [List.getElem?_toArray, List.getElem?_cons_succ, List.getElem?_cons_zero]; rfl) (by first | rfl | (rw [hops.out]; rfl)) (fun w' hS => by first | exact run_ld (by kernel_rfl) (by rfl) (by rfl) (hS.cell (i := 1) rfl HV.out) | exact run_ld (by kernel_rfl) (by rfl) (by rfl) (hS.cell (i := 0) rfl HU.out) | (go_simp; rfl)) ?_; simp only [Act.put, List.setIfInBounds_toArray, List.set_cons_succ, List.set_cons_zero]) | (refine wpPi_skip (by rw [hops.out]; simp only [List.getElem?_toArray, List.getElem?_cons_succ, List.getElem?_cons_zero]; rfl) (by first | rfl | (rw [hops.out]; rfl)) ?_; simp only [Act.put, List.setIfInBounds_toArray, List.set_cons_succ, List.set_cons_zero])
        simp only [wpPi]
        clear OPS hops
        go_wp2_with fail
        go_ret
        exact ⟨by rw [H2.out h]; rfl, HS.out.below⟩
end
end Go.Proofs.Ytkbambojnifjcaa
