/- Contracts and words that the laws stand on (RecordBackWalk). -/
import Derived.Test.YtlpklbpaknemaaaRecK
set_option linter.unusedVariables false
set_option linter.unusedSimpArgs false
namespace Go.Proofs.Ytlpklbpaknemaaa
section
open Go Go.RowKit Go.Proofs
attribute [local irreducible] Calls
set_option maxHeartbeats 1000000 in
set_option maxRecDepth 100000 in
theorem recordBack_walk (u v : Value) (l : List (Int × List UInt8)) (ys : List UInt8) (n : Nat) (w : World) (hu : RS w u l) (hv : HB w v ys) (hn : n < 65536) :
    Calls Try.prog 7 #[u, v, .int .u16 (n : Int)] w fun e w' => e = .returned (.bool true) ∧ Below w.heap.size w w' := by
  have HU := Lib.hid hu; have HV := Lib.hid hv
  obtain ⟨A, c, rfl, hlc⟩ := hu.shape
  obtain ⟨C, d, rfl, hmc⟩ := hv.shape
  clear hu hv
  cases hg1 : grt l with
  | false =>
    have G1 := Lib.hid (show grtI l = 1 by unfold grtI; rw [hg1]; rfl)
    clear hg1
    go_enter Try.func7, Try.ntmps7
    go_wp2_with (first
      | (go_at_call 25; refine (alive25 _).mono ?_; rintro e W0 ⟨rfl, hb⟩; have HB0 := Lib.hid hb; have HU0 := Lib.hid (HU.out.below hb); have HV0 := Lib.hid (HV.out.below hb); clear hb)
      | (go_at_call 18; refine (great18 _ l _ HU0.out).mono ?_; rintro e Wn ⟨rfl, rfl⟩; rw [G1.out]))
    go_ret
    exact ⟨rfl, HB0.out⟩
  | true =>
    have G1 := Lib.hid (show grtI l = 0 by unfold grtI; rw [hg1]; rfl)
    by_cases h50 : ys.length ≤ 50
    · have j50 : ¬ (50 : Int) < (ys.length : Int) := by omega
      obtain ⟨hl, hlp⟩ := grt_true hg1
      clear hg1
      cases hok : okL l with
      | false =>
        have ENE := Lib.hid (show encE l = 160 by unfold encE; rw [hok]; rfl)
        have ENO := Lib.hid (show encO l = [] by unfold encO; rw [hok]; rfl)
        clear hok hlp
        go_enter Try.func7, Try.ntmps7
        go_wp2_with (first
          | (go_at_call 25; refine (alive25 _).mono ?_; rintro e W0 ⟨rfl, hb⟩; have HB0 := Lib.hid hb; have HU0 := Lib.hid (HU.out.below hb); have HV0 := Lib.hid (HV.out.below hb); clear hb)
          | (go_at_call 18; refine (great18 _ l _ HU0.out).mono ?_; rintro e Wn ⟨rfl, rfl⟩; rw [G1.out])
          | (go_at_call 20; refine (enc20 _ l _ HU0.out (by omega)).mono ?_; rw [ENE.out, ENO.out]; rintro e Wn ⟨v8, rfl, hb⟩; have hS := (((St.start _).addF HV0.out.away0).addF HU0.out.away0).take hb; clear hb; obtain ⟨A8, c8, rfl⟩ := Row.sl (hS.res (i := 0) rfl); have HC8 := Lib.hid (Row.hb (hS.res (i := 0) rfl)).cap; have HS := Lib.hid hS; clear hS))
        go_ret
        exact ⟨rfl, HB0.out.trans (HS.out.below.mono HB0.out.size)⟩
      | true =>
        have hlen := encO_len hlp
        have ENE := Lib.hid (show encE l = 0 by unfold encE; rw [hok]; rfl)
        have heo : encO l = encL l := by unfold encO; rw [hok]; rfl
        have ENO := Lib.hid heo
        rw [heo] at hlen
        have hlen2 : (encL l).length ≤ 100000 := by
          have : l.length * (500 + 13) ≤ 60 * (500 + 13) := Nat.mul_le_mul_right _ hl
          omega
        have HLP := Lib.hid hlp
        obtain ⟨S, hS0⟩ : ∃ S, encL l = S := ⟨_, rfl⟩
        obtain ⟨cut, hcut⟩ : ∃ cut, n % (S.length + 1) = cut := ⟨_, rfl⟩
        have hcs : cut ≤ S.length := by have := Nat.mod_lt n (show 0 < S.length + 1 by omega); omega
        have htm : (n : Int).tmod ((S.length : Int) + 1) = (cut : Int) := by
          rw [Int.tmod_eq_emod_of_nonneg (by omega), ← hcut]; push_cast; rfl
        obtain ⟨i, hstop⟩ := Stop.ex l cut
        obtain ⟨post, hp1, hp2⟩ := cut_parts hok hstop (by rw [hS0]; exact hcs)
        obtain ⟨hs1, hs2, hs3⟩ := hstop
        rw [hS0] at hp1 hp2 hlen2
        obtain ⟨N, hN⟩ : ∃ N, (encL (l.take i)).length = N := ⟨_, rfl⟩
        have hA1 : ∀ v W, HB W v (([] ++ ys) ++ S) → Calls Try.prog 14 #[v, .int .i64 (ys.length : Int)] W fun e w' => ∃ A c, e = .returned (.tuple #[.slice A l.length c, .int .i64 ((ys.length : Int) + (S.length : Int))]) ∧ Below W.heap.size W w' ∧ RS w' (.slice A l.length c) l := fun v W hW => by
          have hxl : (([] ++ ys) ++ S).length = ys.length + S.length := by simp
          have := all14_enc v ys [] l _ W hW (by rw [hS0]; simp) hok (by rw [hS0]; exact decR_far (.inr (.inr (by rw [hxl]; push_cast; omega)))) (by rw [hxl]; omega)
          rw [hS0] at this
          refine this.mono ?_
          rintro e w' ⟨A, c, rfl, h⟩
          exact ⟨A, c, by push_cast; rfl, h⟩
        have hA2 : ∀ v W, HB W v (S.take cut) → Calls Try.prog 14 #[v, .int .i64 0] W fun e w' => ∃ A c, e = .returned (.tuple #[.slice A i c, .int .i64 (N : Int)]) ∧ Below W.heap.size W w' ∧ RS w' (.slice A i c) (l.take i) := fun v W hW => by
          have := all14_enc v [] post (l.take i) _ W hW hp1 (okL_take' hok i) hp2 (by rw [List.length_take]; omega)
          rw [hN, List.length_take, Nat.min_eq_left hs1, List.length_nil, Nat.zero_add] at this
          exact this
        have HA1 := Lib.hid hA1; have HA2 := Lib.hid hA2
        rw [hN] at hs2 hs3
        rw [hS0] at heo
        have ENO2 := Lib.hid heo
        have HN := Lib.hid hN
        have HS3 := Lib.hid hs3
        clear hA1 hA2 hp1 hp2 hcut hok hS0 ENO hlen hs3 hN hlp heo
        go_enter Try.func7, Try.ntmps7
        go_wp2_with (first
          | (go_at_call 25; refine (alive25 _).mono ?_; rintro e W0 ⟨rfl, hb⟩; have HB0 := Lib.hid hb; have HU0 := Lib.hid (HU.out.below hb); have HV0 := Lib.hid (HV.out.below hb); clear hb)
          | (go_at_call 18; refine (great18 _ l _ HU0.out).mono ?_; rintro e Wn ⟨rfl, rfl⟩; rw [G1.out])
          | (go_at_call 20; refine (enc20 _ l _ HU0.out (by omega)).mono ?_; rw [ENE.out, ENO2.out]; rintro e Wn ⟨v8, rfl, hb⟩; have hS := (((St.start _).addF HV0.out.away0).addF HU0.out.away0).take hb; clear hb; obtain ⟨A8, c8, rfl⟩ := Row.sl (hS.res (i := 0) rfl); have HC8 := Lib.hid (Row.hb (hS.res (i := 0) rfl)).cap; have HS := Lib.hid hS; clear hS)
          | (refine atd 40 (by rfl) ?_; refine wl (by rfl) (s_bs0 (E := 5) HS.out 1 (by rfl) Try.underlying22 (by kernel_rfl) (by rfl) ?_); intro b40 Wn hS; clear HS; have HS := Lib.hid hS; clear hS)
          | (refine atd 42 (by rfl) ?_; refine wl (by rfl) (s_app (xs := []) HS.out 0 (by rfl) Try.underlying22 u8_info (by rfl) (by rfl) (by rfl) (HS.out.fact (i := 1) rfl) (by simp; omega) ?_); intro v42 Wn hS; clear HS; have HS := Lib.hid hS; clear hS)
          | (refine atd 44 (by rfl) ?_; refine wl (by rfl) (s_app (xs := [] ++ ys) HS.out 0 (by rfl) Try.underlying22 u8_info (by rfl) (by rfl) (by rfl) (Row.hb (HS.out.res (i := 1) rfl)) (by simp; omega) ?_); intro v44 Wn hS; replace hS := (hS.freeze (i := 0) rfl).freeze (i := 0) rfl; clear HS; have HS := Lib.hid hS; clear hS)
          | (go_at_call 14; refine (HA1.out _ _ (Row.hb (HS.out.fact (i := 1) rfl))).mono ?_; rintro e Wn ⟨A10, c10, rfl, hb, hr⟩; have hS := (HS.out.call hb).addF hr.away0; clear hb hr; clear HS; have HS := Lib.hid hS; clear hS)
          | (refine atd 59 (by rfl) ?_; refine wl (by rfl) (wp_of_run (run_slh cut (by rfl) (by rfl) (by rfl) hcs HC8.out) ?_))
          | (go_at_call 14; refine (HA2.out _ _ ((Row.hb (HS.out.fact (i := 1) rfl)).take hcs)).mono ?_; rintro e Wn ⟨A13, c13, rfl, hb, hr⟩; have hS := (HS.out.call hb).addF hr.away0; clear hb hr; clear HS; have HS := Lib.hid hS; clear hS))
        have HRk := Lib.hid (HS.out.fact (i := 4) rfl : RS Wn (.slice A l.length c) l)
        go_loopw [15, 16] (fun s15 s16 wr => ∃ j : Nat, j ≤ i ∧ s15 = .int .i64 (j : Int) ∧ s16 = .int .i64 (((encL (l.take j)).length : Nat) : Int) ∧ wr = Wn) (fun s15 _ _ => l.length - (intOf s15).toNat)
        case atStart => exact ⟨0, by omega, rfl, by simp [encL], rfl⟩
        case round =>
          obtain ⟨j, hj, rfl, rfl, rfl⟩ := hrel
          obtain ⟨M, hM⟩ : ∃ M, (encL (l.take j)).length = M := ⟨_, rfl⟩
          have hMc : M ≤ cut := by have := encL_mono l hj; have := HN.out; omega
          by_cases hji : j < i
          · have hlt : j < l.length := by omega
            obtain ⟨bb, o, pv, rfl, _, c2, hbp⟩ := HRk.out.get hlt
            have hli : l[j]? = some l[j] := List.getElem?_eq_getElem hlt
            generalize l[j] = x at *
            obtain ⟨k, p⟩ := x
            dsimp only at c2 hbp
            obtain ⟨Ap, cp, rfl, _⟩ := hbp.shape
            have C2 := Lib.hid c2
            have hnext := encL_next l hli
            have hm1 := encL_mono l (show j + 1 ≤ i by omega)
            rw [HN.out, hnext, hM] at hm1
            have j1 : (j : Int) < (l.length : Int) := by omega
            have j3 : (M : Int) + 13 + (p.length : Int) ≤ (cut : Int) := by push_cast at hm1; omega
            dsimp only at hm1 hnext
            clear c2 hbp hli
            rw [hM]
            go_wp2_with (first
              | (refine wl (by rfl) (wp_of_run (run_ld (by kernel_rfl) (by rfl) (by rfl) C2.out) ?_)))
            exact ⟨⟨j + 1, by omega, by push_cast; rfl, by rw [hnext, hM]; push_cast; rfl, by trivial⟩, by simp [intOf]; omega⟩
          · obtain rfl : j = i := by omega
            have hMN : M = N := by have := HN.out; omega
            subst hMN
            rw [hM]
            have HT := Lib.hid (HRk.out.take j hs1)
            by_cases hlt : j < l.length
            · obtain ⟨bb, o, pv, rfl, _, c2, hbp⟩ := HRk.out.get hlt
              have hli : l[j]? = some l[j] := List.getElem?_eq_getElem hlt
              generalize l[j] = x at *
              obtain ⟨k, p⟩ := x
              dsimp only at c2 hbp
              obtain ⟨Ap, cp, rfl, _⟩ := hbp.shape
              have C2 := Lib.hid c2
              have h3 := HS3.out _ hli
              have h5 := HLP.out _ (List.mem_of_getElem? hli)
              dsimp only at h3 h5
              have j1 : (j : Int) < (l.length : Int) := by omega
              have j3 : ¬ (M : Int) + 13 + (p.length : Int) ≤ (cut : Int) := by omega
              clear c2 hbp hli
              go_wp2_with (first
                | (refine wl (by rfl) (wp_of_run (run_ld (by kernel_rfl) (by rfl) (by rfl) C2.out) ?_))
                | (go_at_call 22; refine (same22_d _ _ l l true _ (decide_eq_true rfl) (HS.out.fact (i := 1) rfl) (HS.out.fact (i := 4) rfl) (by omega) (by omega)).mono ?_; rintro e Wn ⟨rfl, hb⟩; have hS := HS.out.call hb; clear hb; clear HS; have HS := Lib.hid hS; clear hS)
                | (refine atd 121 (by rfl) ?_; refine wl (by rfl) (wp_of_run (run_sl31 j (by rfl) (by rfl) (by rfl) hs1 hlc) ?_))
                | (go_at_call 22; refine (same22_d _ _ (l.take j) (l.take j) true _ (decide_eq_true rfl) (HS.out.fact (i := 0) rfl) ((HS.out.fact (i := 4) rfl : RS _ (.slice _ l.length c) l).take j hs1) (by rw [List.length_take]; omega) (by rw [List.length_take]; omega)).mono ?_; rintro e Wn ⟨rfl, hb⟩; have hS := HS.out.call hb; clear hb; clear HS; have HS := Lib.hid hS; clear hS))
              go_ret
              exact ⟨rfl, HB0.out.trans (HS.out.below.mono HB0.out.size)⟩
            · have j1 : ¬ (j : Int) < (l.length : Int) := by omega
              go_wp2_with (first
                | (go_at_call 22; refine (same22_d _ _ l l true _ (decide_eq_true rfl) (HS.out.fact (i := 1) rfl) (HS.out.fact (i := 4) rfl) (by omega) (by omega)).mono ?_; rintro e Wn ⟨rfl, hb⟩; have hS := HS.out.call hb; clear hb; clear HS; have HS := Lib.hid hS; clear hS)
                | (refine atd 121 (by rfl) ?_; refine wl (by rfl) (wp_of_run (run_sl31 j (by rfl) (by rfl) (by rfl) hs1 hlc) ?_))
                | (go_at_call 22; refine (same22_d _ _ (l.take j) (l.take j) true _ (decide_eq_true rfl) (HS.out.fact (i := 0) rfl) ((HS.out.fact (i := 4) rfl : RS _ (.slice _ l.length c) l).take j hs1) (by rw [List.length_take]; omega) (by rw [List.length_take]; omega)).mono ?_; rintro e Wn ⟨rfl, hb⟩; have hS := HS.out.call hb; clear hb; clear HS; have HS := Lib.hid hS; clear hS))
              go_ret
              exact ⟨rfl, HB0.out.trans (HS.out.below.mono HB0.out.size)⟩
    · have j50 : (50 : Int) < (ys.length : Int) := by omega
      go_enter Try.func7, Try.ntmps7
      go_wp2_with (first
        | (go_at_call 25; refine (alive25 _).mono ?_; rintro e W0 ⟨rfl, hb⟩; have HB0 := Lib.hid hb; have HU0 := Lib.hid (HU.out.below hb); have HV0 := Lib.hid (HV.out.below hb); clear hb)
        | (go_at_call 18; refine (great18 _ l _ HU0.out).mono ?_; rintro e Wn ⟨rfl, rfl⟩; rw [G1.out]))
      go_ret
      exact ⟨rfl, HB0.out⟩
end
end Go.Proofs.Ytlpklbpaknemaaa
