/- Contracts and words that the laws stand on (RefA). -/
import Derived.Test.YtkbambojnifjcaaBits
set_option linter.unusedVariables false
set_option linter.unusedSimpArgs false
namespace Go.Proofs.Ytkbambojnifjcaa
section
open Go Go.RowKit Go.Proofs
attribute [local irreducible] wc pw bl bitN
set_option maxHeartbeats 1000000 in
set_option maxRecDepth 100000 in
theorem number36 (b q m c X : Nat) (w : World) (h : BitsAt b q m X w) (hm : m ≤ 100000) :
    Calls Try.prog 36 #[.slice (some ⟨b, q, none⟩) m c] w fun e w' => e = .returned (.agg (wc (X % 2 ^ min m 256))) ∧ Below w.heap.size w w' := by
  have HS := Lib.hid (St.startF w (h.away (fun h => h)))
  clear h
  go_enter Try.func36, Try.ntmps36
  go_wp2_with (first
    | (refine atd 2 (by rfl) ?_; refine wl (by rfl) (s_al HS.out (by rfl) z24 (by rfl) ?_); intro b1 Wn hS; replace hS := al24 hS; clear HS; have HS := Lib.hid hS; clear hS)
    | (refine atd 3 (by rfl) ?_; refine wl (by rfl) (s_al HS.out (by rfl) z24 (by rfl) ?_); intro b2 Wn hS; replace hS := al24 hS; clear HS; have HS := Lib.hid hS; clear hS))
  go_loopw [4] (fun s4 W => ∃ k : Nat, k ≤ m ∧ k ≤ 256 ∧ s4 = .int .i64 k ∧ St w W [Blk b2 (wc (X % 2 ^ k)).toList 24, Blk b1 (wc 0).toList 24] [BitsAt b q m X]) (fun s4 _ => 256 - (intOf s4).toNat)
  case atStart => exact ⟨0, by omega, by omega, rfl, by rw [Nat.pow_zero, Nat.mod_one]; exact HS.out⟩
  case round =>
    clear HS
    obtain ⟨k, hk, hk2, rfl, hS⟩ := hrel
    have HS := Lib.hid hS
    clear hS
    have ki0 : (0 : Int) ≤ (k : Int) := by omega
    by_cases hlm : k < m
    · by_cases hlt : k < 256
      · have ki1 : (k : Int) < (m : Int) := by omega
        have kq0 : (0 : Int) ≤ (k : Int) / 64 := by omega
        have kq1 : (k : Int) / 64 < 4 := by omega
        have hc : wr.cell? ⟨b, q + k, none⟩ = some (.int .i64 (bitN X k : Nat)) := HS.out.fact (i := 0) rfl k hlm
        have hms := mod_succ X k
        have hb2 := bitN_lt X k
        have hk1 : (k : Int) + 1 ≤ 256 := by omega
        have hbb : bitN X k = 0 ∨ bitN X k = 1 := by omega
        rcases hbb with hb | hb
        · rw [hb] at hc hms
          rw [Nat.zero_mul, Nat.add_zero] at hms
          have HC := Lib.hid hc; have HMS := Lib.hid hms
          clear hc hms hb hb2
          go_wp2_with (first
            | (refine wl (by rfl) (wp_of_run (run_ld (by kernel_rfl) (by rfl) (by rfl) HC.out) ?_)))
          go_roundw
          case rel => exact ⟨k + 1, by omega, by omega, by go_num, by rw [HMS.out]; exact HS.out⟩
          case measure => simp [intOf]; omega
        · rw [hb] at hc hms
          rw [Nat.one_mul] at hms
          obtain ⟨hw1, hw2⟩ := num_word X k hlt
          rw [← hms] at hw2
          have hv := wc_getL (X % 2 ^ k) (k / 64) (by omega)
          have hset := wc_putL (X % 2 ^ k) (k / 64) (wk (X % 2 ^ k) (k / 64) + 2 ^ (k % 64)) (by omega) hw1
          rw [hw2] at hset
          have hval := add_pow _ k hw1
          obtain ⟨x, hx⟩ : ∃ x, x = wk (X % 2 ^ k) (k / 64) := ⟨_, rfl⟩
          rw [← hx] at hv hset hval
          have HC := Lib.hid hc; have HV := Lib.hid hv; have HSET := Lib.hid hset; have HVAL := Lib.hid hval
          clear hc hms hb hb2 hw1 hw2 hv hset hval hx
          go_wp2_with (first
            | (refine wl (by rfl) (wp_of_run (run_ld (by kernel_rfl) (by rfl) (by rfl) HC.out) ?_))
            | (refine wl (by rfl) (s_ld HS.out 0 (by rfl) (by rfl) (by rfl) (by kernel_rfl) HV.out ?_))
            | (refine wl (by rfl) (s_st (v := .int .u64 (x + 2 ^ (k % 64) : Nat)) HS.out 0 (by rfl) (by rfl) (by rfl) (by kernel_rfl) (by exact congrArg (Value.int .u64) HVAL.out) (by rfl) (by rw [wc_len]; omega) ?_); intro Wn hS; clear HS; have HS := Lib.hid hS; clear hS))
          go_roundw
          case rel => exact ⟨k + 1, by omega, by omega, by go_num, by rw [← HSET.out]; exact HS.out⟩
          case measure => simp [intOf]; omega
      · obtain rfl : k = 256 := by omega
        have hm1 : min m 256 = 256 := by omega
        have HM := Lib.hid hm1
        clear hm1
        go_wp2_with (first
          | (refine wl (by rfl) (ld24 HS.out 0 (by rfl) (by rfl) (by rfl) ?_))
          | (refine wl (by rfl) (st24 HS.out 1 (X % 2 ^ 256) (by rfl) (by rfl) (by rfl) (by rfl) ?_); intro Wn hS; clear HS; have HS := Lib.hid hS; clear hS))
        exact bodyPost_ret (ret_c (p := 2) rfl _ b1 _ 24 (0, 0) (by rfl) (HS.out.blk (i := 1) rfl) (wc_len _)) rfl ⟨by rw [HM.out], HS.out.below⟩
    · obtain rfl : k = m := by omega
      have hm1 : min k 256 = k := by omega
      have HM := Lib.hid hm1
      clear hm1
      go_wp2_with (first
        | (refine wl (by rfl) (ld24 HS.out 0 (by rfl) (by rfl) (by rfl) ?_))
        | (refine wl (by rfl) (st24 HS.out 1 (X % 2 ^ k) (by rfl) (by rfl) (by rfl) (by rfl) ?_); intro Wn hS; clear HS; have HS := Lib.hid hS; clear hS))
      exact bodyPost_ret (ret_c (p := 2) rfl _ b1 _ 24 (0, 0) (by rfl) (HS.out.blk (i := 1) rfl) (wc_len _)) rfl ⟨by rw [HM.out], HS.out.below⟩
end
section
open Go Go.RowKit Go.Proofs
attribute [local irreducible] wc pw bl bitN
set_option maxHeartbeats 1000000 in
set_option maxRecDepth 100000 in
theorem add37 (b q c b' q' m' c' m X Y : Nat) (w : World) (hx : BitsAt b q m X w) (hy : BitsAt b' q' m Y w) (hm : m ≤ 100000) (hm' : m ≤ m') (hX : X < 2 ^ m) (hY : Y < 2 ^ m) :
    Calls Try.prog 37 #[.slice (some ⟨b, q, none⟩) m c, .slice (some ⟨b', q', none⟩) m' c'] w fun e w' => ∃ b2, e = .returned (.tuple #[.slice (some ⟨b2, 0, none⟩) m m, .int .i64 (((X + Y) / 2 ^ m : Nat) : Int)]) ∧ New w w' (Blk b2 (bl ((X + Y) % 2 ^ m) m) 3) := by
  have HS := Lib.hid ((St.startF w (hx.away (fun h => h))).addF (hy.away (fun ⟨_, h, _⟩ => by cases h)))
  have HX := Lib.hid hX; have HY := Lib.hid hY
  clear hx hy hX hY
  go_enter Try.func37, Try.ntmps37
  go_wp2_with (first
    | (refine wl (by rfl) (s_mk (k := 8) HS.out (m) (by rfl) (by rfl) (by rfl) Try.underlying54 z3 (by rfl) (by kernel_rfl) (by omega) (by omega) ?_); intro b2 Wn hS; clear HS; have HS := Lib.hid hS; clear hS))
  go_loopw [7, 8] (fun s7 s8 W => ∃ k : Nat, k ≤ m ∧ s8 = .int .i64 k ∧ s7 = .int .i64 (((X % 2 ^ k + Y % 2 ^ k) / 2 ^ k : Nat) : Int) ∧ St w W [Blk b2 (bl ((X + Y) % 2 ^ k) m) 3] [BitsAt b' q' m Y, BitsAt b q m X]) (fun _ s8 _ => m - (intOf s8).toNat)
  case atStart => exact ⟨0, by omega, rfl, by simp [Nat.mod_one], by rw [Nat.pow_zero, Nat.mod_one, ← bl_zero]; exact HS.out⟩
  case round =>
    clear HS
    obtain ⟨k, hk, rfl, rfl, hS⟩ := hrel
    have HS := Lib.hid hS
    clear hS
    by_cases hlt : k < m
    · obtain ⟨h1, h2, h3⟩ := add_bit X Y k
      have hbx := bitN_lt X k
      have hby := bitN_lt Y k
      have hset := bl_set ((X + Y) % 2 ^ k) m k (bitN (X + Y) k) (bitN_mod_ge _ _ _ (Nat.le_refl _)) (by have := bitN_lt (X + Y) k; omega)
      rw [← mod_succ] at hset
      have hcx : BitsAt b q m X wr := HS.out.fact (i := 1) rfl
      have ki0 : (0 : Int) ≤ (k : Int) := by omega
      have ki1 : (k : Int) < (m : Int) := by omega
      have ki2 : (k : Int) < (m' : Int) := by omega
      obtain ⟨c1, hc1⟩ : ∃ c1, c1 = (X % 2 ^ (k + 1) + Y % 2 ^ (k + 1)) / 2 ^ (k + 1) := ⟨_, rfl⟩
      rw [← hc1] at h2
      generalize (X % 2 ^ k + Y % 2 ^ k) / 2 ^ k = cc at *
      have HSX := Lib.hid (show ∀ w', St w w' [Blk b2 (bl ((X + Y) % 2 ^ k) m) 3] [BitsAt b' q' m Y, BitsAt b q m X] → w'.cell? ⟨b, q + k, none⟩ = some (.int .i64 (bitN X k : Nat)) from fun w' h => h.fact (i := 1) rfl k hlt)
      have HSY := Lib.hid (show ∀ w', St w w' [Blk b2 (bl ((X + Y) % 2 ^ k) m) 3] [BitsAt b' q' m Y, BitsAt b q m X] → w'.cell? ⟨b', q' + k, none⟩ = some (.int .i64 (bitN Y k : Nat)) from fun w' h => h.fact (i := 0) rfl k hlt)
      have HSET := Lib.hid hset; have HC1 := Lib.hid hc1
      clear hset hc1 hcx
      generalize bitN (X + Y) k = d at *
      generalize bitN X k = x at *
      generalize bitN Y k = y at *
      have wr1 : IntKind.i64.wrap ((x : Int) + (y : Int)) = ((x + y : Nat) : Int) := by rw [IntKind.wrap_i64]; omega
      have wr2 : IntKind.i64.wrap (((x + y : Nat) : Int) + (cc : Int)) = ((x + y + cc : Nat) : Int) := by rw [IntKind.wrap_i64]; omega
      have hs3 : x + y + cc ≤ 3 := by omega
      generalize x + y + cc = s at *
      generalize x + y = xy at *
      have wr3 : ((s : Nat) : Int) % 2 = ((d : Nat) : Int) := by omega
      have wr4 : ((s : Nat) : Int) / 2 = ((c1 : Nat) : Int) := by omega
      have hs3' : (s : Int) ≤ 3 := by omega
      have WR3 := Lib.hid wr3; have WR4 := Lib.hid wr4
      clear h1 h2 h3 hbx hby wr3 wr4
      go_wp2_with fail
      refine wp_region_pi [(0, true), (1, true), (2, true), (3, true), (4, true), (5, true), (6, true), (7, true), (8, true), (9, true), (10, true), (11, true)] (by kernel_rfl) (by kernel_rfl) rfl (by kernel_rfl) (fun _ _ _ _ _ h => h) (fun w' => St w w' [Blk b2 (bl ((X + Y) % 2 ^ k) m) 3] [BitsAt b' q' m Y, BitsAt b q m X]) HS.out.drew ?_
      intro OPS hops
      iterate 12
        first | (refine wpPi_yield _ (by rw [hops.out]; simp only [List.getElem?_toArray, List.getElem?_cons_succ, List.getElem?_cons_zero]; rfl) (by first | rfl | (rw [hops.out]; rfl)) (fun w' hS => by first | exact run_ld (by kernel_rfl) (by rfl) (by rfl) (HSX.out _ hS) | exact run_ld (by kernel_rfl) (by rfl) (by rfl) (HSY.out _ hS) | (go_simp; rfl)) ?_; simp only [Act.put, List.setIfInBounds_toArray, List.set_cons_succ, List.set_cons_zero]) | (refine wpPi_skip (by rw [hops.out]; simp only [List.getElem?_toArray, List.getElem?_cons_succ, List.getElem?_cons_zero]; rfl) (by first | rfl | (rw [hops.out]; rfl)) ?_; simp only [Act.put, List.setIfInBounds_toArray, List.set_cons_succ, List.set_cons_zero])
      simp only [wpPi]
      have hS := HS.out.drew
      clear HS OPS hops
      have HS := Lib.hid hS
      clear hS
      go_wp2_with (first
        | (refine wl (by rfl) (s_st (v := .int .i64 (d : Nat)) HS.out 0 (by rfl) (by rfl) (by rfl) (by kernel_rfl) (by exact congrArg (Value.int .i64) WR3.out) (by rfl) (by rw [bl_len]; exact hlt) ?_); intro Wn hS; clear HS; have HS := Lib.hid hS; clear hS))
      go_roundw
      case rel => exact ⟨k + 1, by omega, by go_num, by rw [WR4.out, HC1.out], by rw [← HSET.out]; exact HS.out⟩
      case measure => simp [intOf]; omega
    · obtain rfl : k = m := by omega
      have hfin : (X % 2 ^ k + Y % 2 ^ k) / 2 ^ k = (X + Y) / 2 ^ k := by rw [Nat.mod_eq_of_lt HX.out, Nat.mod_eq_of_lt HY.out]
      rw [hfin]
      clear hfin
      go_wp2_with fail
      go_ret2
      exact ⟨b2, rfl, HS.out.give 0 rfl⟩
end
section
open Go Go.RowKit Go.Proofs
attribute [local irreducible] wc pw bl bitN
theorem bitsR (n : Nat) (w : World) : Calls Try.prog 33 #[.agg (wc n)] w fun e w' => ∃ b, e = .returned (.slice (some ⟨b, 0, none⟩) 256 256) ∧ New w w' (Blk b (bl n 256) 3) := by
  refine (bits33 n w).mono ?_
  rintro e w' ⟨b, rfl, h⟩
  rw [bl_of] at h
  exact ⟨b, rfl, h⟩
set_option maxHeartbeats 1000000 in
set_option maxRecDepth 100000 in
theorem of34 (n : Nat) (hn : n < 18446744073709551616) (w : World) : Calls Try.prog 34 #[.int .u64 n] w fun e w' => e = .returned (.agg (wc n)) ∧ Below w.heap.size w w' := by
  have HS := Lib.hid (St.start w)
  have hset := wc_putL 0 0 n (by decide) hn
  have h0 : 0 - wk 0 0 * pw 0 + n * pw 0 = n := by unfold pw wk; simp
  rw [h0] at hset
  have HSET := Lib.hid hset
  clear hset h0 hn
  go_enter Try.func34, Try.ntmps34
  go_wp2_with (first
    | (refine atd 2 (by rfl) ?_; refine wl (by rfl) (s_al HS.out (by rfl) z24 (by rfl) ?_); intro b1 Wn hS; replace hS := al24 hS; clear HS; have HS := Lib.hid hS; clear hS)
    | (refine atd 3 (by rfl) ?_; refine wl (by rfl) (s_al HS.out (by rfl) z24 (by rfl) ?_); intro b2 Wn hS; replace hS := al24 hS; clear HS; have HS := Lib.hid hS; clear hS)
    | (refine wl (by rfl) (s_st (v := .int .u64 (n : Nat)) HS.out 0 (by rfl) (by rfl) (by rfl) (by kernel_rfl) (by rfl) (by rfl) (by rw [wc_len]; omega) ?_); intro Wn hS; rw [show List.set [Blk b2 (wc 0).toList 24, Blk b1 (wc 0).toList 24] 0 (Blk b2 ((wc 0).toList.set 0 (.int .u64 (n : Nat))) 24) = [Blk b2 (wc n).toList 24, Blk b1 (wc 0).toList 24] from by rw [HSET.out]; rfl] at hS; clear HS; have HS := Lib.hid hS; clear hS)
    | (refine wl (by rfl) (ld24 HS.out 0 (by rfl) (by rfl) (by rfl) ?_))
    | (refine wl (by rfl) (st24 HS.out 1 n (by rfl) (by rfl) (by rfl) (by rfl) ?_); intro Wn hS; clear HS; have HS := Lib.hid hS; clear hS))
  exact bodyPost_ret (ret_c (p := 2) rfl _ b1 _ 24 (0, 0) (by rfl) (HS.out.blk (i := 1) rfl) (wc_len _)) rfl ⟨rfl, HS.out.below⟩
set_option maxHeartbeats 1000000 in
set_option maxRecDepth 100000 in
theorem radd18 (n m : Nat) (hn : n < M4) (hm : m < M4) (w : World) : Calls Try.prog 18 #[.agg (wc n), .agg (wc m)] w fun e w' => e = .returned (.tuple #[.agg (wc ((n + m) % M4)), .bool (decide (M4 ≤ n + m))]) ∧ Below w.heap.size w w' := by
  have HS := Lib.hid (St.start w)
  have hc := fun (x y : Nat) (W : World) (h1 : BitsAt x 0 256 n W) (h2 : BitsAt y 0 256 m W) => add37 x 0 256 y 0 256 256 256 n m W h1 h2 (by decide) (by decide) (by rw [← M4_pow]; exact hn) (by rw [← M4_pow]; exact hm)
  have hq : (n + m) / 2 ^ 256 = if M4 ≤ n + m then 1 else 0 := by rw [← M4_pow]; simp only [M4] at *; split <;> omega
  rw [hq, ← M4_pow] at hc
  have hd : decide (0 < (if M4 ≤ n + m then 1 else 0 : Nat)) = decide (M4 ≤ n + m) := by by_cases h : M4 ≤ n + m <;> simp [h]
  have hz : (n + m) % M4 % 2 ^ min 256 256 = (n + m) % M4 := by rw [Nat.min_self, ← M4_pow, Nat.mod_mod]
  generalize (if M4 ≤ n + m then 1 else 0 : Nat) = cc at *
  have HC := Lib.hid hc; have HD := Lib.hid hd; have HZ := Lib.hid hz
  clear hc hq hd hz hn hm
  go_enter Try.func18, Try.ntmps18
  go_wp2_with (first
    | (refine atd 2 (by rfl) ?_; refine wl (by rfl) (bx24 HS.out n (by rfl) (by rfl) ?_); intro b2 Wn hS; clear HS; have HS := Lib.hid hS; clear hS)
    | (refine atd 3 (by rfl) ?_; refine wl (by rfl) (bx24 HS.out m (by rfl) (by rfl) ?_); intro b3 Wn hS; clear HS; have HS := Lib.hid hS; clear hS)
    | (refine atd 4 (by rfl) ?_; refine wl (by rfl) (s_al HS.out (by rfl) z24 (by rfl) ?_); intro b4 Wn hS; replace hS := al24 hS; clear HS; have HS := Lib.hid hS; clear hS))
  refine wp_region_pi [(0, true), (2, true), (1, false), (3, false), (4, false), (5, true), (6, true), (7, true), (8, true), (9, true)] (by kernel_rfl) (by kernel_rfl) rfl (by kernel_rfl) (fun _ _ _ _ _ h => h) (fun w' => St w w' [Blk b4 (wc 0).toList 24, Blk b3 (wc m).toList 24, Blk b2 (wc n).toList 24] []) HS.out.drew ?_
  intro OPS hops
  have hS := HS.out.drew
  clear HS; have HS := Lib.hid hS; clear hS
  iterate 2
    first | (refine wpPi_yield _ (by rw [hops.out]; simp only [List.getElem?_toArray, List.getElem?_cons_succ, List.getElem?_cons_zero]; rfl) (by first | rfl | (rw [hops.out]; rfl)) (fun w' hS => by first | exact ldw hS 2 (by rfl) (by rfl) (by rfl) | exact ldw hS 1 (by rfl) (by rfl) (by rfl) | (go_simp; rfl)) ?_; simp only [Act.put, List.setIfInBounds_toArray, List.set_cons_succ, List.set_cons_zero]) | (refine wpPi_skip (by rw [hops.out]; simp only [List.getElem?_toArray, List.getElem?_cons_succ, List.getElem?_cons_zero]; rfl) (by first | rfl | (rw [hops.out]; rfl)) ?_; simp only [Act.put, List.setIfInBounds_toArray, List.set_cons_succ, List.set_cons_zero])
  refine wpPi_act (by rw [hops.out]; simp only [List.getElem?_toArray, List.getElem?_cons_succ, List.getElem?_cons_zero]; rfl) (by first | rfl | (rw [hops.out]; rfl)) ?_
  go_simp
  refine (bitsR n _).mono ?_
  rintro e Wn ⟨x1, rfl, hb⟩
  have hS := HS.out.take hb
  clear HS; have HS := Lib.hid hS; clear hS
  clear hb
  refine ⟨HS.out.sub 0, ?_⟩
  try simp only [Act.put, List.setIfInBounds_toArray, List.set_cons_succ, List.set_cons_zero]
  refine wpPi_act (by rw [hops.out]; simp only [List.getElem?_toArray, List.getElem?_cons_succ, List.getElem?_cons_zero]; rfl) (by first | rfl | (rw [hops.out]; rfl)) ?_
  go_simp
  refine (bitsR m _).mono ?_
  rintro e Wn ⟨x2, rfl, hb⟩
  have hS := HS.out.take hb
  clear HS; have HS := Lib.hid hS; clear hS
  clear hb
  refine ⟨(HS.out.sub 0).sub 0, ?_⟩
  try simp only [Act.put, List.setIfInBounds_toArray, List.set_cons_succ, List.set_cons_zero]
  refine wpPi_act (by rw [hops.out]; simp only [List.getElem?_toArray, List.getElem?_cons_succ, List.getElem?_cons_zero]; rfl) (by first | rfl | (rw [hops.out]; rfl)) ?_
  go_simp
  refine (HC.out x1 x2 _ (HS.out.bits 1 rfl) (HS.out.bits 0 rfl)).mono ?_
  rintro e Wn ⟨x3, rfl, hb⟩
  have hS := HS.out.take hb
  clear HS; have HS := Lib.hid hS; clear hS
  clear hb
  refine ⟨((HS.out.sub 0).sub 0).sub 0, ?_⟩
  try simp only [Act.put, List.setIfInBounds_toArray, List.set_cons_succ, List.set_cons_zero]
  iterate 5
    first | (refine wpPi_yield _ (by rw [hops.out]; simp only [List.getElem?_toArray, List.getElem?_cons_succ, List.getElem?_cons_zero]; rfl) (by first | rfl | (rw [hops.out]; rfl)) (fun w' hS => by first | exact ldw hS 2 (by rfl) (by rfl) (by rfl) | exact ldw hS 1 (by rfl) (by rfl) (by rfl) | (go_simp; rfl)) ?_; simp only [Act.put, List.setIfInBounds_toArray, List.set_cons_succ, List.set_cons_zero]) | (refine wpPi_skip (by rw [hops.out]; simp only [List.getElem?_toArray, List.getElem?_cons_succ, List.getElem?_cons_zero]; rfl) (by first | rfl | (rw [hops.out]; rfl)) ?_; simp only [Act.put, List.setIfInBounds_toArray, List.set_cons_succ, List.set_cons_zero])
  simp only [wpPi]
  clear OPS hops
  go_wp2_with (first
    | (go_at_call 36; refine (number36 x3 0 256 256 _ _ (HS.out.bits 0 rfl) (by decide)).mono ?_; rw [HZ.out]; rintro e Wn ⟨rfl, hb⟩; have hS := HS.out.call hb; clear hb; clear HS; have HS := Lib.hid hS; clear hS)
    | (refine wl (by rfl) (st24 HS.out 3 ((n + m) % M4) (by rfl) (by rfl) (by rfl) (by rfl) ?_); intro Wn hS; clear HS; have HS := Lib.hid hS; clear hS))
  have hd := HD.out
  exact bodyPost_ret (ret_ct (p := 4) (u := 5) rfl _ b4 _ 24 (0, 0) (.bool (decide (M4 ≤ n + m))) (by rfl) (by rw [← hd]; rfl) (HS.out.blk (i := 3) rfl) (wc_len _)) rfl ⟨rfl, HS.out.below⟩
end
section
open Go Go.RowKit Go.Proofs
attribute [local irreducible] wc pw bl bitN fl shlW shrW Calls
set_option maxHeartbeats 1000000 in
set_option maxRecDepth 100000 in
theorem rnot25 (n : Nat) (hn : n < M4) (w : World) : Calls Try.prog 25 #[.agg (wc n)] w fun e w' => e = .returned (.agg (wc (M4 - 1 - n))) ∧ Below w.heap.size w w' := by
  have HS := Lib.hid (St.start w)
  have hend : fl (fun i => if i < 256 then 1 - bitN n i else bitN n i) 256 = bl (M4 - 1 - n) 256 := by
    rw [bl_fl]; refine fl_congr _ _ _ fun i hi => ?_
    simp only [if_pos hi]; rw [bitN_not n i hn hi]
  have hz : (M4 - 1 - n) % 2 ^ min 256 256 = M4 - 1 - n := by rw [Nat.min_self, ← M4_pow]; exact Nat.mod_eq_of_lt (by simp only [M4]; omega)
  have HE := Lib.hid hend; have HZ := Lib.hid hz
  clear hend hz hn
  go_enter Try.func25, Try.ntmps25
  go_wp2_with (first
    | (refine atd 1 (by rfl) ?_; refine wl (by rfl) (bx24 HS.out n (by rfl) (by rfl) ?_); intro b1 Wn hS; clear HS; have HS := Lib.hid hS; clear hS)
    | (refine atd 2 (by rfl) ?_; refine wl (by rfl) (s_al HS.out (by rfl) z24 (by rfl) ?_); intro b2 Wn hS; replace hS := al24 hS; clear HS; have HS := Lib.hid hS; clear hS)
    | (refine wl (by rfl) (ld24 HS.out 1 (by rfl) (by rfl) (by rfl) ?_))
    | (go_at_call 33; (first | refine (bitsR _ _).mono ?_); rintro e Wn ⟨x1, rfl, hb⟩; have hS := HS.out.take hb; clear hb; clear HS; have HS := Lib.hid hS; clear hS))
  go_loopw [4] (fun s4 W => ∃ k : Nat, k ≤ 256 ∧ s4 = .int .i64 k ∧ St w W [Blk x1 (fl (fun i => if i < k then 1 - bitN n i else bitN n i) 256) 3, Blk b2 (wc 0).toList 24, Blk b1 (wc n).toList 24] []) (fun s4 _ => 256 - (intOf s4).toNat)
  case atStart => exact ⟨0, by omega, rfl, by rw [show (fun i => if i < 0 then 1 - bitN n i else bitN n i) = bitN n from funext fun i => if_neg (by omega), ← bl_fl]; exact HS.out⟩
  case round =>
    clear HS
    obtain ⟨k, hk, rfl, hS⟩ := hrel
    have HS := Lib.hid hS
    clear hS
    by_cases hlt : k < 256
    · have ki0 : (0 : Int) ≤ (k : Int) := by omega
      have ki1 : (k : Int) < 256 := by omega
      have hb := bitN_lt n k
      have hv : (fl (fun i => if i < k then 1 - bitN n i else bitN n i) 256)[k]? = some (.int .i64 (bitN n k : Nat)) := by
        rw [fl_get _ _ _ hlt]; simp only [Nat.lt_irrefl, if_false]
      have hset : (fl (fun i => if i < k then 1 - bitN n i else bitN n i) 256).set k (.int .i64 (1 - bitN n k : Nat)) = fl (fun i => if i < k + 1 then 1 - bitN n i else bitN n i) 256 := by
        rw [fl_set]; refine fl_congr _ _ _ fun i hi => ?_
        by_cases h1 : i = k
        · subst h1; rw [if_pos rfl, if_pos (by omega)]
        · rw [if_neg h1]
          by_cases h2 : i < k
          · rw [if_pos h2, if_pos (by omega)]
          · rw [if_neg h2, if_neg (by omega)]
      have HSET := Lib.hid hset; have HV := Lib.hid hv
      clear hset hv
      obtain ⟨x, hx⟩ : ∃ x, x = bitN n k := ⟨_, rfl⟩
      rw [← hx] at hb HV HSET
      have hb1 : (x : Int) ≤ 1 := by omega
      have hval : (1 : Int) - (x : Int) = ((1 - x : Nat) : Int) := by omega
      have HVAL := Lib.hid hval
      clear hval hx
      go_wp2_with (first
        | (refine wl (by rfl) (s_ld HS.out 0 (by rfl) (by rfl) (by rfl) (by kernel_rfl) HV.out ?_))
        | (refine wl (by rfl) (s_st (v := .int .i64 (1 - x : Nat)) HS.out 0 (by rfl) (by rfl) (by rfl) (by kernel_rfl) (by exact congrArg (Value.int .i64) HVAL.out) (by rfl) (by rw [fl_len]; exact hlt) ?_); intro Wn hS; clear HS; have HS := Lib.hid hS; clear hS))
      go_roundw
      case rel => exact ⟨k + 1, by omega, by go_num, by rw [← HSET.out]; exact HS.out⟩
      case measure => simp [intOf]; omega
    · obtain rfl : k = 256 := by omega
      have hS := HS.out
      rw [HE.out] at hS
      clear HS
      have HS := Lib.hid hS
      clear hS
      go_wp2_with (first
        | (go_at_call 36; refine (number36 x1 0 256 256 _ _ (HS.out.bits 0 rfl) (by decide)).mono ?_; rw [HZ.out]; rintro e Wn ⟨rfl, hb⟩; have hS := HS.out.call hb; clear hb; clear HS; have HS := Lib.hid hS; clear hS)
        | (refine wl (by rfl) (st24 HS.out 1 (M4 - 1 - n) (by rfl) (by rfl) (by rfl) (by rfl) ?_); intro Wn hS; clear HS; have HS := Lib.hid hS; clear hS))
      exact bodyPost_ret (ret_c (p := 2) rfl _ b2 _ 24 (0, 0) (by rfl) (HS.out.blk (i := 1) rfl) (wc_len _)) rfl ⟨rfl, HS.out.below⟩
end
end Go.Proofs.Ytkbambojnifjcaa
