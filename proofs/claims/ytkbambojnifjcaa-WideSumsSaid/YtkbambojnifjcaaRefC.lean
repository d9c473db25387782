/- Contracts and words that the laws stand on (RefC). -/
import Derived.Test.YtkbambojnifjcaaRefA
import Derived.Test.YtkbambojnifjcaaBits
import Derived.Test.YtkbambojnifjcaaRefB
set_option linter.unusedVariables false
set_option linter.unusedSimpArgs false
namespace Go.Proofs.Ytkbambojnifjcaa
section
open Go Go.RowKit Go.Proofs
attribute [local irreducible] wc pw bl bitN fl shlW shrW Calls
set_option maxHeartbeats 1000000 in
set_option maxRecDepth 100000 in
theorem rmul20 (n m : Nat) (hn : n < M4) (hm : m < M4) (w : World) : Calls Try.prog 20 #[.agg (wc n), .agg (wc m)] w fun e w' => e = .returned (.tuple #[.agg (wc (n * m % M4)), .agg (wc (n * m / M4))]) ∧ Below w.heap.size w w' := by
  have HS := Lib.hid (St.start w)
  have hn2 : n < 2 ^ 256 := by rw [← M4_pow]; exact hn
  have hm2 : m < 2 ^ 256 := by rw [← M4_pow]; exact hm
  have HN := Lib.hid hn2; have HM := Lib.hid hm2
  clear hn2 hm2
  go_enter Try.func20, Try.ntmps20
  go_wp2_with (first
    | (refine atd 2 (by rfl) ?_; refine wl (by rfl) (bx24 HS.out n (by rfl) (by rfl) ?_); intro b2 Wn hS; clear HS; have HS := Lib.hid hS; clear hS)
    | (refine atd 3 (by rfl) ?_; refine wl (by rfl) (bx24 HS.out m (by rfl) (by rfl) ?_); intro b3 Wn hS; clear HS; have HS := Lib.hid hS; clear hS)
    | (refine atd 4 (by rfl) ?_; refine wl (by rfl) (s_al HS.out (by rfl) z24 (by rfl) ?_); intro b4 Wn hS; replace hS := al24 hS; clear HS; have HS := Lib.hid hS; clear hS)
    | (refine atd 5 (by rfl) ?_; refine wl (by rfl) (s_al HS.out (by rfl) z24 (by rfl) ?_); intro b5 Wn hS; replace hS := al24 hS; clear HS; have HS := Lib.hid hS; clear hS)
    | (refine atd 12 (by rfl) ?_; refine wl (by rfl) (ld24 HS.out 3 (by rfl) (by rfl) (by rfl) ?_))
    | (refine atd 14 (by rfl) ?_; refine wl (by rfl) (ld24 HS.out 3 (by rfl) (by rfl) (by rfl) ?_))
    | (go_at_call 33; (first | refine (bitsR n _).mono ?_); rintro e Wn ⟨x1, rfl, hb⟩; have hS := HS.out.take hb; clear hb; clear HS; have HS := Lib.hid hS; clear hS)
    | (go_at_call 33; (first | refine (bitsR m _).mono ?_); rintro e Wn ⟨x2, rfl, hb⟩; have hS := HS.out.take hb; clear hb; clear HS; have HS := Lib.hid hS; clear hS)
    | (refine atd 16 (by rfl) ?_; refine wl (by rfl) (s_mk (k := 8) HS.out (512) (by rfl) (by rfl) (by rfl) Try.underlying54 z3 (by rfl) (by kernel_rfl) (by decide) (by decide) ?_); intro bs0 Wn hS; clear HS; have HS := Lib.hid hS; clear hS))
  go_loopw [8, 9] (fun s8 s9 W => ∃ i bs : Nat, i ≤ 256 ∧ s9 = .int .i64 i ∧ s8 = .slice (some ⟨bs, 0, none⟩) 512 512 ∧ St w W [Blk bs (bl (n % 2 ^ i * m) 512) 3, Blk x2 (bl m 256) 3, Blk x1 (bl n 256) 3, Blk b5 (wc 0).toList 24, Blk b4 (wc 0).toList 24, Blk b3 (wc m).toList 24, Blk b2 (wc n).toList 24] []) (fun _ s9 _ => 256 - (intOf s9).toNat)
  case atStart => exact ⟨0, bs0, by omega, rfl, rfl, by rw [Nat.pow_zero, Nat.mod_one, Nat.zero_mul, ← bl_zero]; exact HS.out⟩
  case round =>
    clear HS
    obtain ⟨i, bs, hi, rfl, rfl, hS⟩ := hrel
    have HS := Lib.hid hS
    clear hS
    have ki0 : (0 : Int) ≤ (i : Int) := by omega
    by_cases hlt : i < 256
    · have ki1 : (i : Int) < 256 := by omega
      have hv := bl_get n 256 i hlt
      have hms := mod_succ n i
      have hb2 := bitN_lt n i
      have hbb : bitN n i = 0 ∨ bitN n i = 1 := by omega
      rcases hbb with hb | hb
      · rw [hb] at hv hms
        rw [Nat.zero_mul, Nat.add_zero] at hms
        have HV := Lib.hid hv; have HMS := Lib.hid hms
        clear hv hms hb hb2
        go_wp2_with (first
          | (refine wl (by rfl) (s_ld HS.out 2 (by rfl) (by rfl) (by rfl) (by kernel_rfl) HV.out ?_)))
        go_roundw
        case rel => exact ⟨i + 1, bs, by omega, by go_num, rfl, by rw [HMS.out]; exact HS.out⟩
        case measure => simp [intOf]; omega
      · rw [hb] at hv hms
        rw [Nat.one_mul] at hms
        have hsum := mul_add512 n m i hn hm hlt hb
        have hadd := fun (x y : Nat) (W : World) (h1 : BitsAt x 0 512 (n % 2 ^ i * m) W) (h2 : BitsAt y 0 512 (m * 2 ^ i) W) => add37 x 0 512 y 0 512 512 512 _ _ W h1 h2 (by decide) (by decide) hsum.1 hsum.2.1
        rw [hsum.2.2] at hadd
        obtain ⟨cc, hcc⟩ : ∃ cc, cc = (n % 2 ^ i * m + m * 2 ^ i) / 2 ^ 512 := ⟨_, rfl⟩
        rw [← hcc] at hadd
        clear hcc
        have HV := Lib.hid hv; have HADD := Lib.hid hadd
        clear hv hms hb hb2 hsum hadd
        go_wp2_with (first
          | (refine wl (by rfl) (s_ld HS.out 2 (by rfl) (by rfl) (by rfl) (by kernel_rfl) HV.out ?_))
          | (refine atd 26 (by rfl) ?_; refine wl (by rfl) (s_mk (k := 8) HS.out (512) (by rfl) (by rfl) (by rfl) Try.underlying54 z3 (by rfl) (by kernel_rfl) (by decide) (by decide) ?_); intro bp0 Wn hS; clear HS; have HS := Lib.hid hS; clear hS))
        go_loopw [11] (fun s11 W => ∃ k bp : Nat, bp = bp0 ∧ k ≤ 256 ∧ s11 = .int .i64 k ∧ St w W [Blk bp (bl (m % 2 ^ k * 2 ^ i) 512) 3, Blk bs (bl (n % 2 ^ i * m) 512) 3, Blk x2 (bl m 256) 3, Blk x1 (bl n 256) 3, Blk b5 (wc 0).toList 24, Blk b4 (wc 0).toList 24, Blk b3 (wc m).toList 24, Blk b2 (wc n).toList 24] []) (fun s11 _ => 256 - (intOf s11).toNat)
        case atStart => exact ⟨0, bp0, rfl, by omega, rfl, by rw [Nat.pow_zero, Nat.mod_one, Nat.zero_mul, ← bl_zero]; exact HS.out⟩
        case round =>
          clear HS
          obtain ⟨k, bp, rfl, hk, rfl, hS⟩ := hrel
          have HS := Lib.hid hS
          clear hS
          have kk0 : (0 : Int) ≤ (k : Int) := by omega
          by_cases hlk : k < 256
          · have kk1 : (k : Int) < 256 := by omega
            have hv := bl_get m 256 k hlk
            have hset := part_set m i k (by omega)
            have HV := Lib.hid hv; have HSET := Lib.hid hset
            obtain ⟨q, hq⟩ : ∃ q, q = i + k := ⟨_, rfl⟩
            rw [← hq] at HSET
            have kq : (i : Int) + (k : Int) = (q : Int) := by omega
            have kq0 : (0 : Int) ≤ (q : Int) := by omega
            have kq1 : (q : Int) < 512 := by omega
            have kq2 : IntKind.i64.wrap (q : Int) = (q : Int) := by rw [IntKind.wrap_i64]; omega
            have hql : q < 512 := by omega
            clear hv hset hq
            go_wp2_with (first
              | (refine wl (by rfl) (s_ld HS.out 2 (by rfl) (by rfl) (by rfl) (by kernel_rfl) HV.out ?_))
              | (refine wl (by rfl) (s_st (v := .int .i64 (bitN m k : Nat)) HS.out 0 (by rfl) (by rfl) (by rfl) (by kernel_rfl) (by rfl) (by rfl) (by rw [bl_len]; exact hql) ?_); intro Wn hS; clear HS; have HS := Lib.hid hS; clear hS))
            go_roundw
            case rel => exact ⟨k + 1, bp, rfl, by omega, by go_num, by rw [← HSET.out]; exact HS.out⟩
            case measure => simp [intOf]; omega
          · obtain rfl : k = 256 := by omega
            have hS := HS.out
            rw [Nat.mod_eq_of_lt HM.out] at hS
            clear HS
            have HS := Lib.hid hS
            clear hS
            go_wp2_with (first
              | (go_at_call 37; (first | refine (HADD.out bs bp _ (HS.out.bits 1 rfl) (HS.out.bits 0 rfl)).mono ?_); rintro e Wn ⟨bs1, rfl, hb⟩; have hS := HS.out.take hb; clear hb; clear HS; have HS := Lib.hid hS; clear hS))
            go_roundw
            case rel => exact ⟨i + 1, bs1, by omega, by go_num, rfl, (HS.out.sub 1).sub 1⟩
            case measure => simp [intOf]; omega
    · obtain rfl : i = 256 := by omega
      have hS := HS.out
      rw [Nat.mod_eq_of_lt HN.out] at hS
      clear HS
      have HS := Lib.hid hS
      clear hS
      have hz1 : n * m / 2 ^ 0 % 2 ^ min 256 256 = n * m % M4 := by rw [Nat.min_self, ← M4_pow, Nat.pow_zero, Nat.div_one]
      have hz2 : n * m / 2 ^ 256 % 2 ^ min 256 256 = n * m / M4 := by
        rw [Nat.min_self, ← M4_pow]; refine Nat.mod_eq_of_lt ?_
        rw [Nat.div_lt_iff_lt_mul (by decide)]
        exact Nat.mul_lt_mul_of_lt_of_lt hn hm
      have HZ1 := Lib.hid hz1; have HZ2 := Lib.hid hz2
      clear hz1 hz2 hn hm
      go_wp2_with fail
      refine wp_region_pi [(0, true), (1, true), (3, true), (4, true), (2, false), (5, false), (6, false), (7, false)] (by kernel_rfl) (by kernel_rfl) rfl (by kernel_rfl) (fun _ _ _ _ _ h => h) (fun w' => St w w' [Blk bs (bl (n * m) 512) 3, Blk x2 (bl m 256) 3, Blk x1 (bl n 256) 3] []) ((((HS.out.drew.sub 3).sub 3).sub 3).sub 3) ?_
      intro OPS hops
      have hS := HS.out.drew
      clear HS; have HS := Lib.hid hS; clear hS
      iterate 4
        first | (refine wpPi_yield _ (by rw [hops.out]; simp only [List.getElem?_toArray, List.getElem?_cons_succ, List.getElem?_cons_zero]; rfl) (by first | rfl | (rw [hops.out]; rfl)) (fun w' hS => by first | (go_simp; rfl)) ?_; simp only [Act.put, List.setIfInBounds_toArray, List.set_cons_succ, List.set_cons_zero]) | (refine wpPi_skip (by rw [hops.out]; simp only [List.getElem?_toArray, List.getElem?_cons_succ, List.getElem?_cons_zero]; rfl) (by first | rfl | (rw [hops.out]; rfl)) ?_; simp only [Act.put, List.setIfInBounds_toArray, List.set_cons_succ, List.set_cons_zero])
      refine wpPi_act (by rw [hops.out]; simp only [List.getElem?_toArray, List.getElem?_cons_succ, List.getElem?_cons_zero]; rfl) (by first | rfl | (rw [hops.out]; rfl)) ?_
      go_simp
      refine (number36 bs 0 256 512 _ _ (HS.out.bitsK 0 0 256 rfl (by decide)) (by decide)).mono ?_
      rw [HZ1.out]
      rintro e Wn ⟨rfl, hb⟩
      have hS := HS.out.call hb
      clear HS; have HS := Lib.hid hS; clear hS
      clear hb
      refine ⟨(((HS.out.sub 3).sub 3).sub 3).sub 3, ?_⟩
      try simp only [Act.put, List.setIfInBounds_toArray, List.set_cons_succ, List.set_cons_zero]
      refine wpPi_act (by rw [hops.out]; simp only [List.getElem?_toArray, List.getElem?_cons_succ, List.getElem?_cons_zero]; rfl) (by first | rfl | (rw [hops.out]; rfl)) ?_
      go_simp
      refine (number36 bs 256 256 256 _ _ (HS.out.bitsK 0 256 256 rfl (by decide)) (by decide)).mono ?_
      rw [HZ2.out]
      rintro e Wn ⟨rfl, hb⟩
      have hS := HS.out.call hb
      clear HS; have HS := Lib.hid hS; clear hS
      clear hb
      refine ⟨(((HS.out.sub 3).sub 3).sub 3).sub 3, ?_⟩
      try simp only [Act.put, List.setIfInBounds_toArray, List.set_cons_succ, List.set_cons_zero]
      refine wpPi_act (by rw [hops.out]; simp only [List.getElem?_toArray, List.getElem?_cons_succ, List.getElem?_cons_zero]; rfl) (by first | rfl | (rw [hops.out]; rfl)) ?_
      refine st24 HS.out 4 (n * m % M4) (by rfl) (by rfl) (by rfl) (by rfl) ?_
      intro Wn hS
      clear HS; have HS := Lib.hid hS; clear hS
      refine ⟨(((HS.out.sub 3).sub 3).sub 3).sub 3, ?_⟩
      try simp only [Act.put, List.setIfInBounds_toArray, List.set_cons_succ, List.set_cons_zero]
      refine wpPi_act (by rw [hops.out]; simp only [List.getElem?_toArray, List.getElem?_cons_succ, List.getElem?_cons_zero]; rfl) (by first | rfl | (rw [hops.out]; rfl)) ?_
      refine st24 HS.out 3 (n * m / M4) (by rfl) (by rfl) (by rfl) (by rfl) ?_
      intro Wn hS
      clear HS; have HS := Lib.hid hS; clear hS
      refine ⟨(((HS.out.sub 3).sub 3).sub 3).sub 3, ?_⟩
      try simp only [Act.put, List.setIfInBounds_toArray, List.set_cons_succ, List.set_cons_zero]
      simp only [wpPi]
      clear OPS hops
      go_wp2_with fail
      exact bodyPost_ret (ret_cc (p := 4) (q := 5) rfl _ b4 b5 _ _ 24 24 (0, 0) (0, 0) (by rfl) (by rfl) (HS.out.blk (i := 4) rfl) (wc_len _) (HS.out.blk (i := 3) rfl) (wc_len _)) rfl ⟨rfl, HS.out.below⟩
end
section
open Go Go.RowKit Go.Proofs
attribute [local irreducible] wc pw bl bitN fl shlW shrW Calls cmpW
set_option maxHeartbeats 1000000 in
set_option maxRecDepth 100000 in
theorem rdiv17z (n : Nat) (w : World) : Calls Try.prog 17 #[.agg (wc n), .agg (wc 0)] w fun e w' => e = .returned (.tuple #[.agg (wc 0), .agg (wc 0), .int .i64 30]) ∧ Below w.heap.size w w' := by
  have HS := Lib.hid (St.start w)
  have h := fun w => rlen32 0 (by decide) w
  rw [show blen 0 = 0 from rfl] at h
  have H := Lib.hid h
  clear h
  go_enter Try.func17, Try.ntmps17
  go_wp2_with (first
    | (refine atd 2 (by rfl) ?_; refine wl (by rfl) (bx24 HS.out n (by rfl) (by rfl) ?_); intro b2 Wn hS; clear HS; have HS := Lib.hid hS; clear hS)
    | (refine atd 3 (by rfl) ?_; refine wl (by rfl) (bx24 HS.out 0 (by rfl) (by rfl) ?_); intro b3 Wn hS; clear HS; have HS := Lib.hid hS; clear hS)
    | (refine atd 4 (by rfl) ?_; refine wl (by rfl) (s_al HS.out (by rfl) z24 (by rfl) ?_); intro b4 Wn hS; replace hS := al24 hS; clear HS; have HS := Lib.hid hS; clear hS)
    | (refine atd 5 (by rfl) ?_; refine wl (by rfl) (s_al HS.out (by rfl) z24 (by rfl) ?_); intro b5 Wn hS; replace hS := al24 hS; clear HS; have HS := Lib.hid hS; clear hS)
    | (refine wl (by rfl) (ld24 HS.out 2 (by rfl) (by rfl) (by rfl) ?_))
    | (go_at_call 32; (first | refine (H.out _).mono ?_); rintro e Wn ⟨rfl, hb⟩; have hS := HS.out.call hb; clear hb; clear HS; have HS := Lib.hid hS; clear hS)
    | (refine wl (by rfl) (st24 HS.out 1 0 (by rfl) (by rfl) (by rfl) (by rw [wc_zero]; rfl) ?_); intro Wn hS; clear HS; have HS := Lib.hid hS; clear hS)
    | (refine wl (by rfl) (st24 HS.out 0 0 (by rfl) (by rfl) (by rfl) (by rw [wc_zero]; rfl) ?_); intro Wn hS; clear HS; have HS := Lib.hid hS; clear hS))
  exact bodyPost_ret (ret_cct (p := 4) (q := 5) (u := 6) rfl _ b4 b5 _ _ 24 24 (0, 0) (0, 0) _ (by rfl) (by rfl) (by rfl) (HS.out.blk (i := 1) rfl) (wc_len _) (HS.out.blk (i := 0) rfl) (wc_len _)) rfl ⟨rfl, HS.out.below⟩
end
section
open Go Go.RowKit Go.Proofs
attribute [local irreducible] wc pw bl bitN fl shlW shrW Calls cmpW
set_option maxHeartbeats 4000000 in
set_option maxRecDepth 100000 in
theorem rdiv17 (n m : Nat) (hn : n < M4) (hm0 : 0 < m) (hm : m < M4) (w : World) : Calls Try.prog 17 #[.agg (wc n), .agg (wc m)] w fun e w' => e = .returned (.tuple #[.agg (wc (n / m)), .agg (wc (n % m)), .int .i64 0]) ∧ Below w.heap.size w w' := by
  have HS := Lib.hid (St.start w)
  have hl := fun w => rlen32 m hm w
  have hbl : blen m ≠ 0 := by unfold blen; rw [if_neg (by omega)]; omega
  have hbl2 : ((blen m : Int) == 0) = false := by simp [hbl]
  have hst : n / 2 ^ 256 = 0 := by rw [← M4_pow]; exact Nat.div_eq_of_lt hn
  have hz : n / m % 2 ^ min 256 256 = n / m := by rw [Nat.min_self, ← M4_pow]; exact Nat.mod_eq_of_lt (Nat.lt_of_le_of_lt (Nat.div_le_self _ _) hn)
  have ho := fun w => of34 1 (by decide) w
  have HL := Lib.hid hl; have HST := Lib.hid hst; have HZ := Lib.hid hz; have HO := Lib.hid ho; have HM := Lib.hid hm; have HN := Lib.hid hn; have HM0 := Lib.hid hm0
  obtain ⟨lm, hlm⟩ : ∃ x, x = blen m := ⟨_, rfl⟩
  rw [← hlm] at HL hbl2
  clear hl hbl hst hz ho hlm hn hm hm0
  go_enter Try.func17, Try.ntmps17
  go_wp2_with (first
    | (refine atd 2 (by rfl) ?_; refine wl (by rfl) (bx24 HS.out n (by rfl) (by rfl) ?_); intro b2 Wn hS; clear HS; have HS := Lib.hid hS; clear hS)
    | (refine atd 3 (by rfl) ?_; refine wl (by rfl) (bx24 HS.out m (by rfl) (by rfl) ?_); intro b3 Wn hS; clear HS; have HS := Lib.hid hS; clear hS)
    | (refine atd 4 (by rfl) ?_; refine wl (by rfl) (s_al HS.out (by rfl) z24 (by rfl) ?_); intro b4 Wn hS; replace hS := al24 hS; clear HS; have HS := Lib.hid hS; clear hS)
    | (refine atd 5 (by rfl) ?_; refine wl (by rfl) (s_al HS.out (by rfl) z24 (by rfl) ?_); intro b5 Wn hS; replace hS := al24 hS; clear HS; have HS := Lib.hid hS; clear hS)
    | (refine atd 13 (by rfl) ?_; refine wl (by rfl) (ld24 HS.out 2 (by rfl) (by rfl) (by rfl) ?_))
    | (go_at_call 32; (first | refine (HL.out _).mono ?_); rintro e Wn ⟨rfl, hb⟩; have hS := HS.out.call hb; clear hb; clear HS; have HS := Lib.hid hS; clear hS)
    | (refine atd 18 (by rfl) ?_; refine wl (by rfl) (ld24 HS.out 3 (by rfl) (by rfl) (by rfl) ?_))
    | (go_at_call 33; (first | refine (bitsR n _).mono ?_); rintro e Wn ⟨x7, rfl, hb⟩; have hS := HS.out.take hb; clear hb; clear HS; have HS := Lib.hid hS; clear hS)
    | (refine atd 20 (by rfl) ?_; refine wl (by rfl) (s_mk (k := 8) HS.out (256) (by rfl) (by rfl) (by rfl) Try.underlying54 z3 (by rfl) (by kernel_rfl) (by decide) (by decide) ?_); intro xq Wn hS; clear HS; have HS := Lib.hid hS; clear hS)
    | (refine atd 9 (by rfl) ?_; refine wl (by rfl) (s_al HS.out (by rfl) z24 (by rfl) ?_); intro b9 Wn hS; replace hS := al24 hS; clear HS; have HS := Lib.hid hS; clear hS))
  go_loopw [10] (fun s10 W => ∃ j : Nat, j ≤ 256 ∧ s10 = .int .i64 ((j : Int) - 1) ∧ St w W [Blk b9 (wc (n / 2 ^ j % m)).toList 24, Blk xq (bl (n / 2 ^ j / m * 2 ^ j) 256) 3, Blk x7 (bl n 256) 3, Blk b5 (wc 0).toList 24, Blk b4 (wc 0).toList 24, Blk b3 (wc m).toList 24, Blk b2 (wc n).toList 24] []) (fun s10 _ => (intOf s10 + 1).toNat)
  case atStart => exact ⟨256, by omega, rfl, by rw [HST.out, Nat.zero_mod, Nat.zero_div, Nat.zero_mul, ← bl_zero]; exact HS.out⟩
  case round =>
    clear HS
    obtain ⟨j, hj, rfl, hS⟩ := hrel
    have HS := Lib.hid hS
    clear hS
    by_cases h0 : j = 0
    · subst h0
      have hS := HS.out
      rw [Nat.pow_zero, Nat.div_one, Nat.mul_one] at hS
      clear HS
      have HS := Lib.hid hS
      clear hS
      go_wp2_with fail
      refine wp_region_pi [(0, true), (2, true), (1, false), (3, false), (4, false), (5, true)] (by kernel_rfl) (by kernel_rfl) rfl (by kernel_rfl) (fun _ _ _ _ _ h => h) (fun w' => St w w' [Blk b9 (wc (n % m)).toList 24, Blk xq (bl (n / m) 256) 3, Blk x7 (bl n 256) 3, Blk b3 (wc m).toList 24, Blk b2 (wc n).toList 24] []) ((HS.out.drew.sub 3).sub 3) ?_
      intro OPS hops
      have hS := HS.out.drew
      clear HS; have HS := Lib.hid hS; clear hS
      iterate 2
        first | (refine wpPi_yield _ (by rw [hops.out]; simp only [List.getElem?_toArray, List.getElem?_cons_succ, List.getElem?_cons_zero]; rfl) (by first | rfl | (rw [hops.out]; rfl)) (fun w' hS => by first | exact ldw hS 0 (by rfl) (by rfl) (by rfl) | (go_simp; rfl)) ?_; simp only [Act.put, List.setIfInBounds_toArray, List.set_cons_succ, List.set_cons_zero]) | (refine wpPi_skip (by rw [hops.out]; simp only [List.getElem?_toArray, List.getElem?_cons_succ, List.getElem?_cons_zero]; rfl) (by first | rfl | (rw [hops.out]; rfl)) ?_; simp only [Act.put, List.setIfInBounds_toArray, List.set_cons_succ, List.set_cons_zero])
      refine wpPi_act (by rw [hops.out]; simp only [List.getElem?_toArray, List.getElem?_cons_succ, List.getElem?_cons_zero]; rfl) (by first | rfl | (rw [hops.out]; rfl)) ?_
      go_simp
      refine (number36 xq 0 256 256 _ _ (HS.out.bits 1 rfl) (by decide)).mono ?_
      rw [HZ.out]
      rintro e Wn ⟨rfl, hb⟩
      have hS := HS.out.call hb
      clear HS; have HS := Lib.hid hS; clear hS
      clear hb
      refine ⟨(HS.out.sub 3).sub 3, ?_⟩
      try simp only [Act.put, List.setIfInBounds_toArray, List.set_cons_succ, List.set_cons_zero]
      refine wpPi_act (by rw [hops.out]; simp only [List.getElem?_toArray, List.getElem?_cons_succ, List.getElem?_cons_zero]; rfl) (by first | rfl | (rw [hops.out]; rfl)) ?_
      refine st24 HS.out 4 (n / m) (by rfl) (by rfl) (by rfl) (by rfl) ?_
      intro Wn hS
      clear HS; have HS := Lib.hid hS; clear hS
      refine ⟨(HS.out.sub 3).sub 3, ?_⟩
      try simp only [Act.put, List.setIfInBounds_toArray, List.set_cons_succ, List.set_cons_zero]
      refine wpPi_act (by rw [hops.out]; simp only [List.getElem?_toArray, List.getElem?_cons_succ, List.getElem?_cons_zero]; rfl) (by first | rfl | (rw [hops.out]; rfl)) ?_
      refine st24 HS.out 3 (n % m) (by rfl) (by rfl) (by rfl) (by rfl) ?_
      intro Wn hS
      clear HS; have HS := Lib.hid hS; clear hS
      refine ⟨(HS.out.sub 3).sub 3, ?_⟩
      try simp only [Act.put, List.setIfInBounds_toArray, List.set_cons_succ, List.set_cons_zero]
      iterate 1
        first | (refine wpPi_yield _ (by rw [hops.out]; simp only [List.getElem?_toArray, List.getElem?_cons_succ, List.getElem?_cons_zero]; rfl) (by first | rfl | (rw [hops.out]; rfl)) (fun w' hS => by first | exact ldw hS 0 (by rfl) (by rfl) (by rfl) | (go_simp; rfl)) ?_; simp only [Act.put, List.setIfInBounds_toArray, List.set_cons_succ, List.set_cons_zero]) | (refine wpPi_skip (by rw [hops.out]; simp only [List.getElem?_toArray, List.getElem?_cons_succ, List.getElem?_cons_zero]; rfl) (by first | rfl | (rw [hops.out]; rfl)) ?_; simp only [Act.put, List.setIfInBounds_toArray, List.set_cons_succ, List.set_cons_zero])
      simp only [wpPi]
      clear OPS hops
      go_wp2_with fail
      exact bodyPost_ret (ret_cct (p := 4) (q := 5) (u := 6) rfl _ b4 b5 _ _ 24 24 (0, 0) (0, 0) _ (by rfl) (by rfl) (by rfl) (HS.out.blk (i := 4) rfl) (wc_len _) (HS.out.blk (i := 3) rfl) (wc_len _)) rfl ⟨rfl, HS.out.below⟩
    · obtain ⟨i, rfl⟩ : ∃ i, j = i + 1 := ⟨j - 1, by omega⟩
      have hj1 : ((i + 1 : Nat) : Int) - 1 = (i : Int) := by omega
      rw [hj1]
      clear hj1
      have ki0 : (0 : Int) ≤ (i : Int) := by omega
      have ki1 : (i : Int) < 256 := by omega
      obtain ⟨r, hr⟩ : ∃ r, r = n / 2 ^ (i + 1) % m := ⟨_, rfl⟩
      obtain ⟨r1, hr1⟩ : ∃ r1, r1 = r * 2 % M4 := ⟨_, rfl⟩
      obtain ⟨r2, hr2⟩ : ∃ r2, r2 = (r1 + bitN n i) % M4 := ⟨_, rfl⟩
      obtain ⟨d1, d2, d3, l0, l1, l2, l3⟩ := div_step n m i HN.out HM0.out HM.out r r1 r2 hr hr1 hr2
      have hL := fun w => rleft22 r 1 l0 (by decide) w
      have hsh : shlW r 1 = r1 := by rw [hr1]; unfold shlW; rw [if_neg (by decide)]; rfl
      rw [hsh] at hL
      have hA := fun w => radd18 r1 1 l1 (by decide) w
      have hC := fun w => rcmp35 r2 m l2 HM.out w
      have hSb := fun w => rsub19 r2 m l2 HM.out w
      rw [← hr] at HS
      have hv := bl_get n 256 i (by omega)
      have hov := bl_get r 256 255 (by decide)
      have b2 := bitN_lt n i
      have b3 := bitN_lt r 255
      obtain ⟨q1, q2⟩ := quo_bit (n / 2 ^ (i + 1) / m) i 1 (by omega)
      have hset := bl_set (n / 2 ^ (i + 1) / m * 2 ^ (i + 1)) 256 i 1 q1 (by omega)
      rw [q2] at hset
      have q0 : n / 2 ^ (i + 1) / m * 2 ^ (i + 1) = 2 * (n / 2 ^ (i + 1) / m) * 2 ^ i := by
        generalize n / 2 ^ (i + 1) / m = Q
        rw [Nat.pow_succ, Nat.mul_comm 2 Q, Nat.mul_assoc, Nat.mul_comm 2]
      obtain ⟨rn, hrn⟩ : ∃ rn, rn = (r2 + M4 - m) % M4 := ⟨_, rfl⟩
      rw [← hrn] at d1 d2 hSb
      have HLF := Lib.hid hL; have HC := Lib.hid hC; have HSB := Lib.hid hSb; have HSET := Lib.hid hset; have HQ0 := Lib.hid q0; have L2 := Lib.hid l2
      clear hsh hL hC hSb hset q0 q1 q2 hr hr1 hrn l0 l1 l2
      have hbb : bitN n i = 0 ∨ bitN n i = 1 := by omega
      have hoo : bitN r 255 = 0 ∨ bitN r 255 = 1 := by omega
      rcases hbb with hb | hb
      · rw [hb] at hv hr2
        rw [l3] at hr2
        subst hr2
        have HV := Lib.hid hv
        clear hv hb b2 l3 hA
        rcases hoo with ho | ho
        · rw [ho] at hov
          have HOV := Lib.hid hov
          by_cases hge : m ≤ r2
          · obtain ⟨e1, e2⟩ := d2 ho hge
            have hcv : cmpW r2 m = 0 ∨ cmpW r2 m = 1 := by unfold cmpW; split; exact .inl rfl; rw [if_neg (by omega)]; exact .inr rfl
            have hcp : (0 : Int) ≤ cmpW r2 m := by omega
            have E1 := Lib.hid e1; have E2 := Lib.hid e2
            obtain ⟨cv, hcvE⟩ : ∃ x, x = cmpW r2 m := ⟨_, rfl⟩
            rw [← hcvE] at hcp HC
            clear d1 d2 d3 e1 e2 ho hov b3 hge hcvE hcv
            go_wp2_with (first
              | (refine atd 25 (by rfl) ?_; refine wl (by rfl) (ld24 HS.out 0 (by rfl) (by rfl) (by rfl) ?_))
              | (go_at_call 33; (first | refine (bitsR r _).mono ?_); rintro e Wn ⟨x11, rfl, hb⟩; have hS := HS.out.take hb; clear hb; clear HS; have HS := Lib.hid hS; clear hS)
              | (refine atd 29 (by rfl) ?_; refine wl (by rfl) (s_ld HS.out 0 (by rfl) (by rfl) (by rfl) (by kernel_rfl) HOV.out ?_))
              | (refine atd 31 (by rfl) ?_; refine wl (by rfl) (ld24 HS.out 1 (by rfl) (by rfl) (by rfl) ?_))
              | (go_at_call 22; (first | refine (HLF.out _).mono ?_); rintro e Wn ⟨rfl, hb⟩; have hS := HS.out.call hb; clear hb; clear HS; have HS := Lib.hid hS; clear hS)
              | (refine wl (by rfl) (st24 HS.out 1 r2 (by rfl) (by rfl) (by rfl) (by rfl) ?_); intro Wn hS; clear HS; have HS := Lib.hid hS; clear hS)
              | (refine atd 36 (by rfl) ?_; refine wl (by rfl) (s_ld HS.out 3 (by rfl) (by rfl) (by rfl) (by kernel_rfl) HV.out ?_))
              | (refine atd 46 (by rfl) ?_; refine wl (by rfl) (ld24 HS.out 1 (by rfl) (by rfl) (by rfl) ?_))
              | (refine atd 47 (by rfl) ?_; refine wl (by rfl) (ld24 HS.out 6 (by rfl) (by rfl) (by rfl) ?_))
              | (go_at_call 35; (first | refine (HC.out _).mono ?_); rintro e Wn ⟨rfl, hb⟩; have hS := HS.out.call hb; clear hb; clear HS; have HS := Lib.hid hS; clear hS)
              | (refine atd 52 (by rfl) ?_; refine wl (by rfl) (ld24 HS.out 1 (by rfl) (by rfl) (by rfl) ?_))
              | (refine atd 53 (by rfl) ?_; refine wl (by rfl) (ld24 HS.out 6 (by rfl) (by rfl) (by rfl) ?_))
              | (go_at_call 19; (first | refine (HSB.out _).mono ?_); rintro e Wn ⟨rfl, hb⟩; have hS := HS.out.call hb; clear hb; clear HS; have HS := Lib.hid hS; clear hS)
              | (refine wl (by rfl) (st24 HS.out 1 rn (by rfl) (by rfl) (by rfl) (by rfl) ?_); intro Wn hS; clear HS; have HS := Lib.hid hS; clear hS)
              | (refine wl (by rfl) (s_st (v := .int .i64 (1 : Nat)) HS.out 2 (by rfl) (by rfl) (by rfl) (by kernel_rfl) (by rfl) (by rfl) (by rw [bl_len]; omega) ?_); intro Wn hS; clear HS; have HS := Lib.hid hS; clear hS))
            go_roundw
            case rel => exact ⟨i, by omega, rfl, by rw [E1.out, E2.out, ← HSET.out]; exact HS.out.sub 0⟩
            case measure => simp [intOf]
          · obtain ⟨e1, e2⟩ := d3 ho (by omega)
            have hcp : cmpW r2 m < 0 := by unfold cmpW; rw [if_neg (by omega), if_pos (by omega)]; decide
            have E1 := Lib.hid e1; have E2 := Lib.hid e2
            obtain ⟨cv, hcvE⟩ : ∃ x, x = cmpW r2 m := ⟨_, rfl⟩
            rw [← hcvE] at hcp HC
            clear d1 d2 d3 e1 e2 ho hov b3 hge hcvE
            go_wp2_with (first
              | (refine atd 25 (by rfl) ?_; refine wl (by rfl) (ld24 HS.out 0 (by rfl) (by rfl) (by rfl) ?_))
              | (go_at_call 33; (first | refine (bitsR r _).mono ?_); rintro e Wn ⟨x11, rfl, hb⟩; have hS := HS.out.take hb; clear hb; clear HS; have HS := Lib.hid hS; clear hS)
              | (refine atd 29 (by rfl) ?_; refine wl (by rfl) (s_ld HS.out 0 (by rfl) (by rfl) (by rfl) (by kernel_rfl) HOV.out ?_))
              | (refine atd 31 (by rfl) ?_; refine wl (by rfl) (ld24 HS.out 1 (by rfl) (by rfl) (by rfl) ?_))
              | (go_at_call 22; (first | refine (HLF.out _).mono ?_); rintro e Wn ⟨rfl, hb⟩; have hS := HS.out.call hb; clear hb; clear HS; have HS := Lib.hid hS; clear hS)
              | (refine wl (by rfl) (st24 HS.out 1 r2 (by rfl) (by rfl) (by rfl) (by rfl) ?_); intro Wn hS; clear HS; have HS := Lib.hid hS; clear hS)
              | (refine atd 36 (by rfl) ?_; refine wl (by rfl) (s_ld HS.out 3 (by rfl) (by rfl) (by rfl) (by kernel_rfl) HV.out ?_))
              | (refine atd 46 (by rfl) ?_; refine wl (by rfl) (ld24 HS.out 1 (by rfl) (by rfl) (by rfl) ?_))
              | (refine atd 47 (by rfl) ?_; refine wl (by rfl) (ld24 HS.out 6 (by rfl) (by rfl) (by rfl) ?_))
              | (go_at_call 35; (first | refine (HC.out _).mono ?_); rintro e Wn ⟨rfl, hb⟩; have hS := HS.out.call hb; clear hb; clear HS; have HS := Lib.hid hS; clear hS)
              | (refine atd 52 (by rfl) ?_; refine wl (by rfl) (ld24 HS.out 1 (by rfl) (by rfl) (by rfl) ?_))
              | (refine atd 53 (by rfl) ?_; refine wl (by rfl) (ld24 HS.out 6 (by rfl) (by rfl) (by rfl) ?_))
              | (go_at_call 19; (first | refine (HSB.out _).mono ?_); rintro e Wn ⟨rfl, hb⟩; have hS := HS.out.call hb; clear hb; clear HS; have HS := Lib.hid hS; clear hS)
              | (refine wl (by rfl) (st24 HS.out 1 rn (by rfl) (by rfl) (by rfl) (by rfl) ?_); intro Wn hS; clear HS; have HS := Lib.hid hS; clear hS)
              | (refine wl (by rfl) (s_st (v := .int .i64 (1 : Nat)) HS.out 2 (by rfl) (by rfl) (by rfl) (by kernel_rfl) (by rfl) (by rfl) (by rw [bl_len]; omega) ?_); intro Wn hS; clear HS; have HS := Lib.hid hS; clear hS))
            go_roundw
            case rel => exact ⟨i, by omega, rfl, by rw [E1.out, E2.out, ← HQ0.out]; exact HS.out.sub 0⟩
            case measure => simp [intOf]
        · rw [ho] at hov
          have HOV := Lib.hid hov
          obtain ⟨e1, e2⟩ := d1 ho
          have E1 := Lib.hid e1; have E2 := Lib.hid e2
          clear d1 d2 d3 e1 e2 ho hov b3
          go_wp2_with (first
            | (refine atd 25 (by rfl) ?_; refine wl (by rfl) (ld24 HS.out 0 (by rfl) (by rfl) (by rfl) ?_))
            | (go_at_call 33; (first | refine (bitsR r _).mono ?_); rintro e Wn ⟨x11, rfl, hb⟩; have hS := HS.out.take hb; clear hb; clear HS; have HS := Lib.hid hS; clear hS)
            | (refine atd 29 (by rfl) ?_; refine wl (by rfl) (s_ld HS.out 0 (by rfl) (by rfl) (by rfl) (by kernel_rfl) HOV.out ?_))
            | (refine atd 31 (by rfl) ?_; refine wl (by rfl) (ld24 HS.out 1 (by rfl) (by rfl) (by rfl) ?_))
            | (go_at_call 22; (first | refine (HLF.out _).mono ?_); rintro e Wn ⟨rfl, hb⟩; have hS := HS.out.call hb; clear hb; clear HS; have HS := Lib.hid hS; clear hS)
            | (refine wl (by rfl) (st24 HS.out 1 r2 (by rfl) (by rfl) (by rfl) (by rfl) ?_); intro Wn hS; clear HS; have HS := Lib.hid hS; clear hS)
            | (refine atd 36 (by rfl) ?_; refine wl (by rfl) (s_ld HS.out 3 (by rfl) (by rfl) (by rfl) (by kernel_rfl) HV.out ?_))
            | (refine atd 46 (by rfl) ?_; refine wl (by rfl) (ld24 HS.out 1 (by rfl) (by rfl) (by rfl) ?_))
            | (refine atd 47 (by rfl) ?_; refine wl (by rfl) (ld24 HS.out 6 (by rfl) (by rfl) (by rfl) ?_))
            | (go_at_call 35; (first | refine (HC.out _).mono ?_); rintro e Wn ⟨rfl, hb⟩; have hS := HS.out.call hb; clear hb; clear HS; have HS := Lib.hid hS; clear hS)
            | (refine atd 52 (by rfl) ?_; refine wl (by rfl) (ld24 HS.out 1 (by rfl) (by rfl) (by rfl) ?_))
            | (refine atd 53 (by rfl) ?_; refine wl (by rfl) (ld24 HS.out 6 (by rfl) (by rfl) (by rfl) ?_))
            | (go_at_call 19; (first | refine (HSB.out _).mono ?_); rintro e Wn ⟨rfl, hb⟩; have hS := HS.out.call hb; clear hb; clear HS; have HS := Lib.hid hS; clear hS)
            | (refine wl (by rfl) (st24 HS.out 1 rn (by rfl) (by rfl) (by rfl) (by rfl) ?_); intro Wn hS; clear HS; have HS := Lib.hid hS; clear hS)
            | (refine wl (by rfl) (s_st (v := .int .i64 (1 : Nat)) HS.out 2 (by rfl) (by rfl) (by rfl) (by kernel_rfl) (by rfl) (by rfl) (by rw [bl_len]; omega) ?_); intro Wn hS; clear HS; have HS := Lib.hid hS; clear hS))
          go_roundw
          case rel => exact ⟨i, by omega, rfl, by rw [E1.out, E2.out, ← HSET.out]; exact HS.out.sub 0⟩
          case measure => simp [intOf]
      · rw [hb] at hv hr2
        rw [← hr2] at hA
        have HV := Lib.hid hv; have HA := Lib.hid hA
        clear hv hb b2 l3 hr2 hA
        rcases hoo with ho | ho
        · rw [ho] at hov
          have HOV := Lib.hid hov
          by_cases hge : m ≤ r2
          · obtain ⟨e1, e2⟩ := d2 ho hge
            have hcv : cmpW r2 m = 0 ∨ cmpW r2 m = 1 := by unfold cmpW; split; exact .inl rfl; rw [if_neg (by omega)]; exact .inr rfl
            have hcp : (0 : Int) ≤ cmpW r2 m := by omega
            have E1 := Lib.hid e1; have E2 := Lib.hid e2
            obtain ⟨cv, hcvE⟩ : ∃ x, x = cmpW r2 m := ⟨_, rfl⟩
            rw [← hcvE] at hcp HC
            clear d1 d2 d3 e1 e2 ho hov b3 hge hcvE hcv
            go_wp2_with (first
              | (refine atd 25 (by rfl) ?_; refine wl (by rfl) (ld24 HS.out 0 (by rfl) (by rfl) (by rfl) ?_))
              | (go_at_call 33; (first | refine (bitsR r _).mono ?_); rintro e Wn ⟨x11, rfl, hb⟩; have hS := HS.out.take hb; clear hb; clear HS; have HS := Lib.hid hS; clear hS)
              | (refine atd 29 (by rfl) ?_; refine wl (by rfl) (s_ld HS.out 0 (by rfl) (by rfl) (by rfl) (by kernel_rfl) HOV.out ?_))
              | (refine atd 31 (by rfl) ?_; refine wl (by rfl) (ld24 HS.out 1 (by rfl) (by rfl) (by rfl) ?_))
              | (go_at_call 22; (first | refine (HLF.out _).mono ?_); rintro e Wn ⟨rfl, hb⟩; have hS := HS.out.call hb; clear hb; clear HS; have HS := Lib.hid hS; clear hS)
              | (refine wl (by rfl) (st24 HS.out 1 r1 (by rfl) (by rfl) (by rfl) (by rfl) ?_); intro Wn hS; clear HS; have HS := Lib.hid hS; clear hS)
              | (refine atd 36 (by rfl) ?_; refine wl (by rfl) (s_ld HS.out 3 (by rfl) (by rfl) (by rfl) (by kernel_rfl) HV.out ?_)))
            apply region_join0 (S := fun V => St w V [Blk x11 (bl r 256) 3, Blk b9 (wc r2).toList 24, Blk xq (bl (n / 2 ^ (i + 1) / m * 2 ^ (i + 1)) 256) 3, Blk x7 (bl n 256) 3, Blk b5 (wc 0).toList 24, Blk b4 (wc 0).toList 24, Blk b3 (wc m).toList 24, Blk b2 (wc n).toList 24] [])
            case hreg =>
              refine wp_region_tr (.act 0 (.act 1 (.act 2 (.yield 3 (.yield 4 (.yield 5 (.act 6 .done .none)))) .none) .none) (.act 1 (.act 0 (.act 2 (.yield 3 (.yield 4 (.yield 5 (.act 6 .done .none)))) .none) .none) .none)) (by kernel_rfl) (by kernel_rfl) (by kernel_rfl) (fun _ _ _ _ _ h => absurd h.1 (by simp)) (fun w' => St w w' [Blk x11 (bl r 256) 3, Blk xq (bl (n / 2 ^ (i + 1) / m * 2 ^ (i + 1)) 256) 3, Blk x7 (bl n 256) 3, Blk b5 (wc 0).toList 24, Blk b4 (wc 0).toList 24, Blk b3 (wc m).toList 24, Blk b2 (wc n).toList 24] []) (HS.out.drew.sub 1) ?_
              intro OPS hops
              have hS := HS.out.drew
              have HS := Lib.hid hS; clear hS
              refine wpT_act (by rw [hops.out]; simp only [List.getElem?_toArray, List.getElem?_cons_succ, List.getElem?_cons_zero]; rfl) (by first | rfl | (rw [hops.out]; rfl)) ?_ ?_
              · refine ld24 HS.out 1 (by rfl) (by rfl) (by rfl) ?_
                refine ⟨HS.out.sub 1, ?_⟩
                try simp only [Act.put, List.setIfInBounds_toArray, List.set_cons_succ, List.set_cons_zero]
                refine wpT_act (by rw [hops.out]; simp only [List.getElem?_toArray, List.getElem?_cons_succ, List.getElem?_cons_zero]; rfl) (by first | rfl | (rw [hops.out]; rfl)) ?_ trivial
                go_simp
                refine (HO.out _).mono ?_
                rintro e Wn ⟨rfl, hb⟩
                have hS := HS.out.call hb
                have HS := Lib.hid hS; clear hS
                clear hb
                refine ⟨HS.out.sub 1, ?_⟩
                try simp only [Act.put, List.setIfInBounds_toArray, List.set_cons_succ, List.set_cons_zero]
                refine wpT_act (by rw [hops.out]; simp only [List.getElem?_toArray, List.getElem?_cons_succ, List.getElem?_cons_zero]; rfl) (by first | rfl | (rw [hops.out]; rfl)) ?_ trivial
                go_simp
                refine (HA.out _).mono ?_
                rintro e Wn ⟨rfl, hb⟩
                have hS := HS.out.call hb
                have HS := Lib.hid hS; clear hS
                clear hb
                refine ⟨HS.out.sub 1, ?_⟩
                try simp only [Act.put, List.setIfInBounds_toArray, List.set_cons_succ, List.set_cons_zero]
                refine wpT_yield _ (by rw [hops.out]; simp only [List.getElem?_toArray, List.getElem?_cons_succ, List.getElem?_cons_zero]; rfl) (by first | rfl | (rw [hops.out]; rfl)) (fun w' hS => by first | (go_simp; rfl)) ?_
                simp only [Act.put, List.setIfInBounds_toArray, List.set_cons_succ, List.set_cons_zero]
                refine wpT_yield _ (by rw [hops.out]; simp only [List.getElem?_toArray, List.getElem?_cons_succ, List.getElem?_cons_zero]; rfl) (by first | rfl | (rw [hops.out]; rfl)) (fun w' hS => by first | (go_simp; rfl)) ?_
                simp only [Act.put, List.setIfInBounds_toArray, List.set_cons_succ, List.set_cons_zero]
                refine wpT_yield _ (by rw [hops.out]; simp only [List.getElem?_toArray, List.getElem?_cons_succ, List.getElem?_cons_zero]; rfl) (by first | rfl | (rw [hops.out]; rfl)) (fun w' hS => by first | (go_simp; rfl)) ?_
                simp only [Act.put, List.setIfInBounds_toArray, List.set_cons_succ, List.set_cons_zero]
                refine wpT_act (by rw [hops.out]; simp only [List.getElem?_toArray, List.getElem?_cons_succ, List.getElem?_cons_zero]; rfl) (by first | rfl | (rw [hops.out]; rfl)) ?_ trivial
                refine st24 HS.out 1 r2 (by rfl) (by rfl) (by rfl) (by rfl) ?_
                intro Wn hS
                have HS := Lib.hid hS; clear hS
                refine ⟨HS.out.sub 1, ?_⟩
                try simp only [Act.put, List.setIfInBounds_toArray, List.set_cons_succ, List.set_cons_zero]
                exact ⟨rfl, rfl, HS.out⟩
              refine wpT_act (by rw [hops.out]; simp only [List.getElem?_toArray, List.getElem?_cons_succ, List.getElem?_cons_zero]; rfl) (by first | rfl | (rw [hops.out]; rfl)) ?_ ?_
              · go_simp
                refine (HO.out _).mono ?_
                rintro e Wn ⟨rfl, hb⟩
                have hS := HS.out.call hb
                have HS := Lib.hid hS; clear hS
                clear hb
                refine ⟨HS.out.sub 1, ?_⟩
                try simp only [Act.put, List.setIfInBounds_toArray, List.set_cons_succ, List.set_cons_zero]
                refine wpT_act (by rw [hops.out]; simp only [List.getElem?_toArray, List.getElem?_cons_succ, List.getElem?_cons_zero]; rfl) (by first | rfl | (rw [hops.out]; rfl)) ?_ trivial
                refine ld24 HS.out 1 (by rfl) (by rfl) (by rfl) ?_
                refine ⟨HS.out.sub 1, ?_⟩
                try simp only [Act.put, List.setIfInBounds_toArray, List.set_cons_succ, List.set_cons_zero]
                refine wpT_act (by rw [hops.out]; simp only [List.getElem?_toArray, List.getElem?_cons_succ, List.getElem?_cons_zero]; rfl) (by first | rfl | (rw [hops.out]; rfl)) ?_ trivial
                go_simp
                refine (HA.out _).mono ?_
                rintro e Wn ⟨rfl, hb⟩
                have hS := HS.out.call hb
                have HS := Lib.hid hS; clear hS
                clear hb
                refine ⟨HS.out.sub 1, ?_⟩
                try simp only [Act.put, List.setIfInBounds_toArray, List.set_cons_succ, List.set_cons_zero]
                refine wpT_yield _ (by rw [hops.out]; simp only [List.getElem?_toArray, List.getElem?_cons_succ, List.getElem?_cons_zero]; rfl) (by first | rfl | (rw [hops.out]; rfl)) (fun w' hS => by first | (go_simp; rfl)) ?_
                simp only [Act.put, List.setIfInBounds_toArray, List.set_cons_succ, List.set_cons_zero]
                refine wpT_yield _ (by rw [hops.out]; simp only [List.getElem?_toArray, List.getElem?_cons_succ, List.getElem?_cons_zero]; rfl) (by first | rfl | (rw [hops.out]; rfl)) (fun w' hS => by first | (go_simp; rfl)) ?_
                simp only [Act.put, List.setIfInBounds_toArray, List.set_cons_succ, List.set_cons_zero]
                refine wpT_yield _ (by rw [hops.out]; simp only [List.getElem?_toArray, List.getElem?_cons_succ, List.getElem?_cons_zero]; rfl) (by first | rfl | (rw [hops.out]; rfl)) (fun w' hS => by first | (go_simp; rfl)) ?_
                simp only [Act.put, List.setIfInBounds_toArray, List.set_cons_succ, List.set_cons_zero]
                refine wpT_act (by rw [hops.out]; simp only [List.getElem?_toArray, List.getElem?_cons_succ, List.getElem?_cons_zero]; rfl) (by first | rfl | (rw [hops.out]; rfl)) ?_ trivial
                refine st24 HS.out 1 r2 (by rfl) (by rfl) (by rfl) (by rfl) ?_
                intro Wn hS
                have HS := Lib.hid hS; clear hS
                refine ⟨HS.out.sub 1, ?_⟩
                try simp only [Act.put, List.setIfInBounds_toArray, List.set_cons_succ, List.set_cons_zero]
                exact ⟨rfl, rfl, HS.out⟩
              exact trivial
            case hK =>
              intro Wn hS
              clear HS; have HS := Lib.hid hS; clear hS
              go_wp2_with (first
                | (refine atd 46 (by rfl) ?_; refine wl (by rfl) (ld24 HS.out 1 (by rfl) (by rfl) (by rfl) ?_))
                | (refine atd 47 (by rfl) ?_; refine wl (by rfl) (ld24 HS.out 6 (by rfl) (by rfl) (by rfl) ?_))
                | (go_at_call 35; (first | refine (HC.out _).mono ?_); rintro e Wn ⟨rfl, hb⟩; have hS := HS.out.call hb; clear hb; clear HS; have HS := Lib.hid hS; clear hS)
                | (refine atd 52 (by rfl) ?_; refine wl (by rfl) (ld24 HS.out 1 (by rfl) (by rfl) (by rfl) ?_))
                | (refine atd 53 (by rfl) ?_; refine wl (by rfl) (ld24 HS.out 6 (by rfl) (by rfl) (by rfl) ?_))
                | (go_at_call 19; (first | refine (HSB.out _).mono ?_); rintro e Wn ⟨rfl, hb⟩; have hS := HS.out.call hb; clear hb; clear HS; have HS := Lib.hid hS; clear hS)
                | (refine wl (by rfl) (st24 HS.out 1 rn (by rfl) (by rfl) (by rfl) (by rfl) ?_); intro Wn hS; clear HS; have HS := Lib.hid hS; clear hS)
                | (refine wl (by rfl) (s_st (v := .int .i64 (1 : Nat)) HS.out 2 (by rfl) (by rfl) (by rfl) (by kernel_rfl) (by rfl) (by rfl) (by rw [bl_len]; omega) ?_); intro Wn hS; clear HS; have HS := Lib.hid hS; clear hS))
              go_roundw
              case rel => exact ⟨i, by omega, rfl, by rw [E1.out, E2.out, ← HSET.out]; exact HS.out.sub 0⟩
              case measure => simp [intOf]
          · obtain ⟨e1, e2⟩ := d3 ho (by omega)
            have hcp : cmpW r2 m < 0 := by unfold cmpW; rw [if_neg (by omega), if_pos (by omega)]; decide
            have E1 := Lib.hid e1; have E2 := Lib.hid e2
            obtain ⟨cv, hcvE⟩ : ∃ x, x = cmpW r2 m := ⟨_, rfl⟩
            rw [← hcvE] at hcp HC
            clear d1 d2 d3 e1 e2 ho hov b3 hge hcvE
            go_wp2_with (first
              | (refine atd 25 (by rfl) ?_; refine wl (by rfl) (ld24 HS.out 0 (by rfl) (by rfl) (by rfl) ?_))
              | (go_at_call 33; (first | refine (bitsR r _).mono ?_); rintro e Wn ⟨x11, rfl, hb⟩; have hS := HS.out.take hb; clear hb; clear HS; have HS := Lib.hid hS; clear hS)
              | (refine atd 29 (by rfl) ?_; refine wl (by rfl) (s_ld HS.out 0 (by rfl) (by rfl) (by rfl) (by kernel_rfl) HOV.out ?_))
              | (refine atd 31 (by rfl) ?_; refine wl (by rfl) (ld24 HS.out 1 (by rfl) (by rfl) (by rfl) ?_))
              | (go_at_call 22; (first | refine (HLF.out _).mono ?_); rintro e Wn ⟨rfl, hb⟩; have hS := HS.out.call hb; clear hb; clear HS; have HS := Lib.hid hS; clear hS)
              | (refine wl (by rfl) (st24 HS.out 1 r1 (by rfl) (by rfl) (by rfl) (by rfl) ?_); intro Wn hS; clear HS; have HS := Lib.hid hS; clear hS)
              | (refine atd 36 (by rfl) ?_; refine wl (by rfl) (s_ld HS.out 3 (by rfl) (by rfl) (by rfl) (by kernel_rfl) HV.out ?_)))
            apply region_join0 (S := fun V => St w V [Blk x11 (bl r 256) 3, Blk b9 (wc r2).toList 24, Blk xq (bl (n / 2 ^ (i + 1) / m * 2 ^ (i + 1)) 256) 3, Blk x7 (bl n 256) 3, Blk b5 (wc 0).toList 24, Blk b4 (wc 0).toList 24, Blk b3 (wc m).toList 24, Blk b2 (wc n).toList 24] [])
            case hreg =>
              refine wp_region_tr (.act 0 (.act 1 (.act 2 (.yield 3 (.yield 4 (.yield 5 (.act 6 .done .none)))) .none) .none) (.act 1 (.act 0 (.act 2 (.yield 3 (.yield 4 (.yield 5 (.act 6 .done .none)))) .none) .none) .none)) (by kernel_rfl) (by kernel_rfl) (by kernel_rfl) (fun _ _ _ _ _ h => absurd h.1 (by simp)) (fun w' => St w w' [Blk x11 (bl r 256) 3, Blk xq (bl (n / 2 ^ (i + 1) / m * 2 ^ (i + 1)) 256) 3, Blk x7 (bl n 256) 3, Blk b5 (wc 0).toList 24, Blk b4 (wc 0).toList 24, Blk b3 (wc m).toList 24, Blk b2 (wc n).toList 24] []) (HS.out.drew.sub 1) ?_
              intro OPS hops
              have hS := HS.out.drew
              have HS := Lib.hid hS; clear hS
              refine wpT_act (by rw [hops.out]; simp only [List.getElem?_toArray, List.getElem?_cons_succ, List.getElem?_cons_zero]; rfl) (by first | rfl | (rw [hops.out]; rfl)) ?_ ?_
              · refine ld24 HS.out 1 (by rfl) (by rfl) (by rfl) ?_
                refine ⟨HS.out.sub 1, ?_⟩
                try simp only [Act.put, List.setIfInBounds_toArray, List.set_cons_succ, List.set_cons_zero]
                refine wpT_act (by rw [hops.out]; simp only [List.getElem?_toArray, List.getElem?_cons_succ, List.getElem?_cons_zero]; rfl) (by first | rfl | (rw [hops.out]; rfl)) ?_ trivial
                go_simp
                refine (HO.out _).mono ?_
                rintro e Wn ⟨rfl, hb⟩
                have hS := HS.out.call hb
                have HS := Lib.hid hS; clear hS
                clear hb
                refine ⟨HS.out.sub 1, ?_⟩
                try simp only [Act.put, List.setIfInBounds_toArray, List.set_cons_succ, List.set_cons_zero]
                refine wpT_act (by rw [hops.out]; simp only [List.getElem?_toArray, List.getElem?_cons_succ, List.getElem?_cons_zero]; rfl) (by first | rfl | (rw [hops.out]; rfl)) ?_ trivial
                go_simp
                refine (HA.out _).mono ?_
                rintro e Wn ⟨rfl, hb⟩
                have hS := HS.out.call hb
                have HS := Lib.hid hS; clear hS
                clear hb
                refine ⟨HS.out.sub 1, ?_⟩
                try simp only [Act.put, List.setIfInBounds_toArray, List.set_cons_succ, List.set_cons_zero]
                refine wpT_yield _ (by rw [hops.out]; simp only [List.getElem?_toArray, List.getElem?_cons_succ, List.getElem?_cons_zero]; rfl) (by first | rfl | (rw [hops.out]; rfl)) (fun w' hS => by first | (go_simp; rfl)) ?_
                simp only [Act.put, List.setIfInBounds_toArray, List.set_cons_succ, List.set_cons_zero]
                refine wpT_yield _ (by rw [hops.out]; simp only [List.getElem?_toArray, List.getElem?_cons_succ, List.getElem?_cons_zero]; rfl) (by first | rfl | (rw [hops.out]; rfl)) (fun w' hS => by first | (go_simp; rfl)) ?_
                simp only [Act.put, List.setIfInBounds_toArray, List.set_cons_succ, List.set_cons_zero]
                refine wpT_yield _ (by rw [hops.out]; simp only [List.getElem?_toArray, List.getElem?_cons_succ, List.getElem?_cons_zero]; rfl) (by first | rfl | (rw [hops.out]; rfl)) (fun w' hS => by first | (go_simp; rfl)) ?_
                simp only [Act.put, List.setIfInBounds_toArray, List.set_cons_succ, List.set_cons_zero]
                refine wpT_act (by rw [hops.out]; simp only [List.getElem?_toArray, List.getElem?_cons_succ, List.getElem?_cons_zero]; rfl) (by first | rfl | (rw [hops.out]; rfl)) ?_ trivial
                refine st24 HS.out 1 r2 (by rfl) (by rfl) (by rfl) (by rfl) ?_
                intro Wn hS
                have HS := Lib.hid hS; clear hS
                refine ⟨HS.out.sub 1, ?_⟩
                try simp only [Act.put, List.setIfInBounds_toArray, List.set_cons_succ, List.set_cons_zero]
                exact ⟨rfl, rfl, HS.out⟩
              refine wpT_act (by rw [hops.out]; simp only [List.getElem?_toArray, List.getElem?_cons_succ, List.getElem?_cons_zero]; rfl) (by first | rfl | (rw [hops.out]; rfl)) ?_ ?_
              · go_simp
                refine (HO.out _).mono ?_
                rintro e Wn ⟨rfl, hb⟩
                have hS := HS.out.call hb
                have HS := Lib.hid hS; clear hS
                clear hb
                refine ⟨HS.out.sub 1, ?_⟩
                try simp only [Act.put, List.setIfInBounds_toArray, List.set_cons_succ, List.set_cons_zero]
                refine wpT_act (by rw [hops.out]; simp only [List.getElem?_toArray, List.getElem?_cons_succ, List.getElem?_cons_zero]; rfl) (by first | rfl | (rw [hops.out]; rfl)) ?_ trivial
                refine ld24 HS.out 1 (by rfl) (by rfl) (by rfl) ?_
                refine ⟨HS.out.sub 1, ?_⟩
                try simp only [Act.put, List.setIfInBounds_toArray, List.set_cons_succ, List.set_cons_zero]
                refine wpT_act (by rw [hops.out]; simp only [List.getElem?_toArray, List.getElem?_cons_succ, List.getElem?_cons_zero]; rfl) (by first | rfl | (rw [hops.out]; rfl)) ?_ trivial
                go_simp
                refine (HA.out _).mono ?_
                rintro e Wn ⟨rfl, hb⟩
                have hS := HS.out.call hb
                have HS := Lib.hid hS; clear hS
                clear hb
                refine ⟨HS.out.sub 1, ?_⟩
                try simp only [Act.put, List.setIfInBounds_toArray, List.set_cons_succ, List.set_cons_zero]
                refine wpT_yield _ (by rw [hops.out]; simp only [List.getElem?_toArray, List.getElem?_cons_succ, List.getElem?_cons_zero]; rfl) (by first | rfl | (rw [hops.out]; rfl)) (fun w' hS => by first | (go_simp; rfl)) ?_
                simp only [Act.put, List.setIfInBounds_toArray, List.set_cons_succ, List.set_cons_zero]
                refine wpT_yield _ (by rw [hops.out]; simp only [List.getElem?_toArray, List.getElem?_cons_succ, List.getElem?_cons_zero]; rfl) (by first | rfl | (rw [hops.out]; rfl)) (fun w' hS => by first | (go_simp; rfl)) ?_
                simp only [Act.put, List.setIfInBounds_toArray, List.set_cons_succ, List.set_cons_zero]
                refine wpT_yield _ (by rw [hops.out]; simp only [List.getElem?_toArray, List.getElem?_cons_succ, List.getElem?_cons_zero]; rfl) (by first | rfl | (rw [hops.out]; rfl)) (fun w' hS => by first | (go_simp; rfl)) ?_
                simp only [Act.put, List.setIfInBounds_toArray, List.set_cons_succ, List.set_cons_zero]
                refine wpT_act (by rw [hops.out]; simp only [List.getElem?_toArray, List.getElem?_cons_succ, List.getElem?_cons_zero]; rfl) (by first | rfl | (rw [hops.out]; rfl)) ?_ trivial
                refine st24 HS.out 1 r2 (by rfl) (by rfl) (by rfl) (by rfl) ?_
                intro Wn hS
                have HS := Lib.hid hS; clear hS
                refine ⟨HS.out.sub 1, ?_⟩
                try simp only [Act.put, List.setIfInBounds_toArray, List.set_cons_succ, List.set_cons_zero]
                exact ⟨rfl, rfl, HS.out⟩
              exact trivial
            case hK =>
              intro Wn hS
              clear HS; have HS := Lib.hid hS; clear hS
              go_wp2_with (first
                | (refine atd 46 (by rfl) ?_; refine wl (by rfl) (ld24 HS.out 1 (by rfl) (by rfl) (by rfl) ?_))
                | (refine atd 47 (by rfl) ?_; refine wl (by rfl) (ld24 HS.out 6 (by rfl) (by rfl) (by rfl) ?_))
                | (go_at_call 35; (first | refine (HC.out _).mono ?_); rintro e Wn ⟨rfl, hb⟩; have hS := HS.out.call hb; clear hb; clear HS; have HS := Lib.hid hS; clear hS)
                | (refine atd 52 (by rfl) ?_; refine wl (by rfl) (ld24 HS.out 1 (by rfl) (by rfl) (by rfl) ?_))
                | (refine atd 53 (by rfl) ?_; refine wl (by rfl) (ld24 HS.out 6 (by rfl) (by rfl) (by rfl) ?_))
                | (go_at_call 19; (first | refine (HSB.out _).mono ?_); rintro e Wn ⟨rfl, hb⟩; have hS := HS.out.call hb; clear hb; clear HS; have HS := Lib.hid hS; clear hS)
                | (refine wl (by rfl) (st24 HS.out 1 rn (by rfl) (by rfl) (by rfl) (by rfl) ?_); intro Wn hS; clear HS; have HS := Lib.hid hS; clear hS)
                | (refine wl (by rfl) (s_st (v := .int .i64 (1 : Nat)) HS.out 2 (by rfl) (by rfl) (by rfl) (by kernel_rfl) (by rfl) (by rfl) (by rw [bl_len]; omega) ?_); intro Wn hS; clear HS; have HS := Lib.hid hS; clear hS))
              go_roundw
              case rel => exact ⟨i, by omega, rfl, by rw [E1.out, E2.out, ← HQ0.out]; exact HS.out.sub 0⟩
              case measure => simp [intOf]
        · rw [ho] at hov
          have HOV := Lib.hid hov
          obtain ⟨e1, e2⟩ := d1 ho
          have E1 := Lib.hid e1; have E2 := Lib.hid e2
          clear d1 d2 d3 e1 e2 ho hov b3
          go_wp2_with (first
            | (refine atd 25 (by rfl) ?_; refine wl (by rfl) (ld24 HS.out 0 (by rfl) (by rfl) (by rfl) ?_))
            | (go_at_call 33; (first | refine (bitsR r _).mono ?_); rintro e Wn ⟨x11, rfl, hb⟩; have hS := HS.out.take hb; clear hb; clear HS; have HS := Lib.hid hS; clear hS)
            | (refine atd 29 (by rfl) ?_; refine wl (by rfl) (s_ld HS.out 0 (by rfl) (by rfl) (by rfl) (by kernel_rfl) HOV.out ?_))
            | (refine atd 31 (by rfl) ?_; refine wl (by rfl) (ld24 HS.out 1 (by rfl) (by rfl) (by rfl) ?_))
            | (go_at_call 22; (first | refine (HLF.out _).mono ?_); rintro e Wn ⟨rfl, hb⟩; have hS := HS.out.call hb; clear hb; clear HS; have HS := Lib.hid hS; clear hS)
            | (refine wl (by rfl) (st24 HS.out 1 r1 (by rfl) (by rfl) (by rfl) (by rfl) ?_); intro Wn hS; clear HS; have HS := Lib.hid hS; clear hS)
            | (refine atd 36 (by rfl) ?_; refine wl (by rfl) (s_ld HS.out 3 (by rfl) (by rfl) (by rfl) (by kernel_rfl) HV.out ?_)))
          apply region_join0 (S := fun V => St w V [Blk x11 (bl r 256) 3, Blk b9 (wc r2).toList 24, Blk xq (bl (n / 2 ^ (i + 1) / m * 2 ^ (i + 1)) 256) 3, Blk x7 (bl n 256) 3, Blk b5 (wc 0).toList 24, Blk b4 (wc 0).toList 24, Blk b3 (wc m).toList 24, Blk b2 (wc n).toList 24] [])
          case hreg =>
            refine wp_region_tr (.act 0 (.act 1 (.act 2 (.yield 3 (.yield 4 (.yield 5 (.act 6 .done .none)))) .none) .none) (.act 1 (.act 0 (.act 2 (.yield 3 (.yield 4 (.yield 5 (.act 6 .done .none)))) .none) .none) .none)) (by kernel_rfl) (by kernel_rfl) (by kernel_rfl) (fun _ _ _ _ _ h => absurd h.1 (by simp)) (fun w' => St w w' [Blk x11 (bl r 256) 3, Blk xq (bl (n / 2 ^ (i + 1) / m * 2 ^ (i + 1)) 256) 3, Blk x7 (bl n 256) 3, Blk b5 (wc 0).toList 24, Blk b4 (wc 0).toList 24, Blk b3 (wc m).toList 24, Blk b2 (wc n).toList 24] []) (HS.out.drew.sub 1) ?_
            intro OPS hops
            have hS := HS.out.drew
            have HS := Lib.hid hS; clear hS
            refine wpT_act (by rw [hops.out]; simp only [List.getElem?_toArray, List.getElem?_cons_succ, List.getElem?_cons_zero]; rfl) (by first | rfl | (rw [hops.out]; rfl)) ?_ ?_
            · refine ld24 HS.out 1 (by rfl) (by rfl) (by rfl) ?_
              refine ⟨HS.out.sub 1, ?_⟩
              try simp only [Act.put, List.setIfInBounds_toArray, List.set_cons_succ, List.set_cons_zero]
              refine wpT_act (by rw [hops.out]; simp only [List.getElem?_toArray, List.getElem?_cons_succ, List.getElem?_cons_zero]; rfl) (by first | rfl | (rw [hops.out]; rfl)) ?_ trivial
              go_simp
              refine (HO.out _).mono ?_
              rintro e Wn ⟨rfl, hb⟩
              have hS := HS.out.call hb
              have HS := Lib.hid hS; clear hS
              clear hb
              refine ⟨HS.out.sub 1, ?_⟩
              try simp only [Act.put, List.setIfInBounds_toArray, List.set_cons_succ, List.set_cons_zero]
              refine wpT_act (by rw [hops.out]; simp only [List.getElem?_toArray, List.getElem?_cons_succ, List.getElem?_cons_zero]; rfl) (by first | rfl | (rw [hops.out]; rfl)) ?_ trivial
              go_simp
              refine (HA.out _).mono ?_
              rintro e Wn ⟨rfl, hb⟩
              have hS := HS.out.call hb
              have HS := Lib.hid hS; clear hS
              clear hb
              refine ⟨HS.out.sub 1, ?_⟩
              try simp only [Act.put, List.setIfInBounds_toArray, List.set_cons_succ, List.set_cons_zero]
              refine wpT_yield _ (by rw [hops.out]; simp only [List.getElem?_toArray, List.getElem?_cons_succ, List.getElem?_cons_zero]; rfl) (by first | rfl | (rw [hops.out]; rfl)) (fun w' hS => by first | (go_simp; rfl)) ?_
              simp only [Act.put, List.setIfInBounds_toArray, List.set_cons_succ, List.set_cons_zero]
              refine wpT_yield _ (by rw [hops.out]; simp only [List.getElem?_toArray, List.getElem?_cons_succ, List.getElem?_cons_zero]; rfl) (by first | rfl | (rw [hops.out]; rfl)) (fun w' hS => by first | (go_simp; rfl)) ?_
              simp only [Act.put, List.setIfInBounds_toArray, List.set_cons_succ, List.set_cons_zero]
              refine wpT_yield _ (by rw [hops.out]; simp only [List.getElem?_toArray, List.getElem?_cons_succ, List.getElem?_cons_zero]; rfl) (by first | rfl | (rw [hops.out]; rfl)) (fun w' hS => by first | (go_simp; rfl)) ?_
              simp only [Act.put, List.setIfInBounds_toArray, List.set_cons_succ, List.set_cons_zero]
              refine wpT_act (by rw [hops.out]; simp only [List.getElem?_toArray, List.getElem?_cons_succ, List.getElem?_cons_zero]; rfl) (by first | rfl | (rw [hops.out]; rfl)) ?_ trivial
              refine st24 HS.out 1 r2 (by rfl) (by rfl) (by rfl) (by rfl) ?_
              intro Wn hS
              have HS := Lib.hid hS; clear hS
              refine ⟨HS.out.sub 1, ?_⟩
              try simp only [Act.put, List.setIfInBounds_toArray, List.set_cons_succ, List.set_cons_zero]
              exact ⟨rfl, rfl, HS.out⟩
            refine wpT_act (by rw [hops.out]; simp only [List.getElem?_toArray, List.getElem?_cons_succ, List.getElem?_cons_zero]; rfl) (by first | rfl | (rw [hops.out]; rfl)) ?_ ?_
            · go_simp
              refine (HO.out _).mono ?_
              rintro e Wn ⟨rfl, hb⟩
              have hS := HS.out.call hb
              have HS := Lib.hid hS; clear hS
              clear hb
              refine ⟨HS.out.sub 1, ?_⟩
              try simp only [Act.put, List.setIfInBounds_toArray, List.set_cons_succ, List.set_cons_zero]
              refine wpT_act (by rw [hops.out]; simp only [List.getElem?_toArray, List.getElem?_cons_succ, List.getElem?_cons_zero]; rfl) (by first | rfl | (rw [hops.out]; rfl)) ?_ trivial
              refine ld24 HS.out 1 (by rfl) (by rfl) (by rfl) ?_
              refine ⟨HS.out.sub 1, ?_⟩
              try simp only [Act.put, List.setIfInBounds_toArray, List.set_cons_succ, List.set_cons_zero]
              refine wpT_act (by rw [hops.out]; simp only [List.getElem?_toArray, List.getElem?_cons_succ, List.getElem?_cons_zero]; rfl) (by first | rfl | (rw [hops.out]; rfl)) ?_ trivial
              go_simp
              refine (HA.out _).mono ?_
              rintro e Wn ⟨rfl, hb⟩
              have hS := HS.out.call hb
              have HS := Lib.hid hS; clear hS
              clear hb
              refine ⟨HS.out.sub 1, ?_⟩
              try simp only [Act.put, List.setIfInBounds_toArray, List.set_cons_succ, List.set_cons_zero]
              refine wpT_yield _ (by rw [hops.out]; simp only [List.getElem?_toArray, List.getElem?_cons_succ, List.getElem?_cons_zero]; rfl) (by first | rfl | (rw [hops.out]; rfl)) (fun w' hS => by first | (go_simp; rfl)) ?_
              simp only [Act.put, List.setIfInBounds_toArray, List.set_cons_succ, List.set_cons_zero]
              refine wpT_yield _ (by rw [hops.out]; simp only [List.getElem?_toArray, List.getElem?_cons_succ, List.getElem?_cons_zero]; rfl) (by first | rfl | (rw [hops.out]; rfl)) (fun w' hS => by first | (go_simp; rfl)) ?_
              simp only [Act.put, List.setIfInBounds_toArray, List.set_cons_succ, List.set_cons_zero]
              refine wpT_yield _ (by rw [hops.out]; simp only [List.getElem?_toArray, List.getElem?_cons_succ, List.getElem?_cons_zero]; rfl) (by first | rfl | (rw [hops.out]; rfl)) (fun w' hS => by first | (go_simp; rfl)) ?_
              simp only [Act.put, List.setIfInBounds_toArray, List.set_cons_succ, List.set_cons_zero]
              refine wpT_act (by rw [hops.out]; simp only [List.getElem?_toArray, List.getElem?_cons_succ, List.getElem?_cons_zero]; rfl) (by first | rfl | (rw [hops.out]; rfl)) ?_ trivial
              refine st24 HS.out 1 r2 (by rfl) (by rfl) (by rfl) (by rfl) ?_
              intro Wn hS
              have HS := Lib.hid hS; clear hS
              refine ⟨HS.out.sub 1, ?_⟩
              try simp only [Act.put, List.setIfInBounds_toArray, List.set_cons_succ, List.set_cons_zero]
              exact ⟨rfl, rfl, HS.out⟩
            exact trivial
          case hK =>
            intro Wn hS
            clear HS; have HS := Lib.hid hS; clear hS
            go_wp2_with (first
              | (refine atd 46 (by rfl) ?_; refine wl (by rfl) (ld24 HS.out 1 (by rfl) (by rfl) (by rfl) ?_))
              | (refine atd 47 (by rfl) ?_; refine wl (by rfl) (ld24 HS.out 6 (by rfl) (by rfl) (by rfl) ?_))
              | (go_at_call 35; (first | refine (HC.out _).mono ?_); rintro e Wn ⟨rfl, hb⟩; have hS := HS.out.call hb; clear hb; clear HS; have HS := Lib.hid hS; clear hS)
              | (refine atd 52 (by rfl) ?_; refine wl (by rfl) (ld24 HS.out 1 (by rfl) (by rfl) (by rfl) ?_))
              | (refine atd 53 (by rfl) ?_; refine wl (by rfl) (ld24 HS.out 6 (by rfl) (by rfl) (by rfl) ?_))
              | (go_at_call 19; (first | refine (HSB.out _).mono ?_); rintro e Wn ⟨rfl, hb⟩; have hS := HS.out.call hb; clear hb; clear HS; have HS := Lib.hid hS; clear hS)
              | (refine wl (by rfl) (st24 HS.out 1 rn (by rfl) (by rfl) (by rfl) (by rfl) ?_); intro Wn hS; clear HS; have HS := Lib.hid hS; clear hS)
              | (refine wl (by rfl) (s_st (v := .int .i64 (1 : Nat)) HS.out 2 (by rfl) (by rfl) (by rfl) (by kernel_rfl) (by rfl) (by rfl) (by rw [bl_len]; omega) ?_); intro Wn hS; clear HS; have HS := Lib.hid hS; clear hS))
            go_roundw
            case rel => exact ⟨i, by omega, rfl, by rw [E1.out, E2.out, ← HSET.out]; exact HS.out.sub 0⟩
            case measure => simp [intOf]
end
end Go.Proofs.Ytkbambojnifjcaa
