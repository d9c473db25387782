/- Contracts and words that the laws stand on (SegF). -/
import Derived.Test.YtakeggdpnfibpaaSegmentRunsWalk
set_option linter.unusedVariables false
set_option linter.unusedSimpArgs false
namespace Go.Proofs.Ytakeggdpnfibpaa
section
open Go Go.RowKit Go.Proofs
attribute [local irreducible] Calls

theorem rfix8N (n : Nat) (w : World) (hn : n < 18446744073709551616) :
    Calls Try.prog 55 #[.int .i64 8, .int .u64 (n : Int)] w fun e w' => ∃ v', e = .returned (.tuple #[v', .int .i64 0]) ∧ New w w' (Row v' 5 1 (le 8 n).length (bs (le 8 n))) := by
  refine (rfixed_8 n w hn hn).mono ?_
  rintro e w' ⟨v', rfl, ho, hb⟩
  exact ⟨v', rfl, New.row ho hb⟩
theorem one255 (pv : Value) (p : List UInt8) (w : World) (hp : HB w pv p) (hl : p.length ≤ 200000) :
    Calls Try.prog 53 #[.agg #[.int .i64 255, pv]] w fun e w' => ∃ v', e = .returned v' ∧ New w w' (Row v' 5 1 (recB 255 p).length (bs (recB 255 p))) := one39 255 pv p w hp hl
theorem seg_err {num : Nat} {l : Grp} (h : segOk num l = false) {w W : World} (hb : Below w.heap.size w W) : ∃ v', Ending.returned (.tuple #[.slice none 0 0, .int .i64 170]) = .returned (.tuple #[v', .int .i64 (segE num l)]) ∧ New w W (Row v' 5 1 (segO num l).length (bs (segO num l))) := by
  unfold segE segO
  rw [h]
  exact ⟨_, rfl, New.row (World.ownsRow_nil _ _ _ _) hb⟩
set_option maxHeartbeats 2000000 in
set_option maxRecDepth 100000 in
theorem renc40 (num : Nat) (u : Value) (l : List (Int × List UInt8)) (w : World) (hn : num < 18446744073709551616) (hu : RS w u l) (hl : l.length ≤ 100000) (hpl : (encL l).length ≤ 1000000) :
    Calls Try.prog 40 #[.int .u64 (num : Int), u] w fun e w' => ∃ v', e = .returned (.tuple #[v', .int .i64 (segE num l)]) ∧ New w w' (Row v' 5 1 (segO num l).length (bs (segO num l))) := by
  have HU := Lib.hid hu
  have HS := Lib.hid ((St.start w).addF hu.away0)
  obtain ⟨A, c, rfl, hlc⟩ := hu.shape
  clear hu
  by_cases hg : num = 0 ∨ l.length = 0
  · have hbad : segOk num l = false := by
      cases h : segOk num l with
      | false => rfl
      | true =>
        obtain ⟨h1, h2, _⟩ := segOk_iff.1 h
        rcases hg with hg | hg
        · exact absurd hg h1
        · exact absurd (List.eq_nil_of_length_eq_zero hg) h2
    have HB2 := Lib.hid hbad
    clear hbad
    by_cases h0 : num = 0
    · have b0 : (num : Int) < 1 := by omega
      clear hg
      go_enter Try.func40, Try.ntmps40
      go_wp2_with fail
      go_ret2
      exact seg_err HB2.out HS.out.below
    · have b0 : ¬ (num : Int) < 1 := by omega
      have b1 : (l.length : Int) < 1 := by omega
      clear hg
      go_enter Try.func40, Try.ntmps40
      go_wp2_with fail
      go_ret2
      exact seg_err HB2.out HS.out.below
  · have b0 : ¬ (num : Int) < 1 := by omega
    have b1 : ¬ (l.length : Int) < 1 := by omega
    have H0 := Lib.hid (show num ≠ 0 by omega)
    have H1 := Lib.hid (show l ≠ [] from fun e => hg (.inr (by rw [e]; rfl)))
    clear hg
    go_enter Try.func40, Try.ntmps40
    go_wp2_with fail
    go_loopw [6] (fun s6 wr => ∃ i : Nat, i ≤ l.length ∧ s6 = .int .i64 (i : Int) ∧ no255 (l.take i) = true ∧ w = wr) (fun s6 _ => l.length - (intOf s6).toNat)
    case atStart => exact ⟨0, by omega, rfl, rfl, rfl⟩
    case round =>
      obtain ⟨i, hi, rfl, hall, rfl⟩ := hrel
      have HALL := Lib.hid hall
      clear hall
      by_cases hlt : i < l.length
      · obtain ⟨bb, o, pv, rfl, c1, c2, hbp⟩ := HU.out.get hlt
        have hli : l[i]? = some l[i] := List.getElem?_eq_getElem hlt
        generalize l[i] = x at *
        obtain ⟨k, p⟩ := x
        dsimp only at c1 c2 hbp
        have HLI := Lib.hid hli; have C1 := Lib.hid c1
        have j1 : (i : Int) < (l.length : Int) := by omega
        clear hli c1 c2 hbp
        cases hk : (k == 255) with
        | true =>
          have HK := Lib.hid hk
          have hk5 : k = 255 := eq_of_beq hk
          subst hk5
          clear hk
          go_wp2_with (first
            | (refine wl (by rfl) (wp_of_run (run_ld (by kernel_rfl) (by rfl) (by rfl) C1.out) ?_)))
          go_ret2
          refine seg_err ?_ HS.out.below
          cases h : segOk num l with
          | false => rfl
          | true =>
            have h3 := (segOk_iff.1 h).2.2.1
            unfold no255 at h3
            rw [List.all_eq_true] at h3
            have := h3 _ (List.mem_of_getElem? HLI.out)
            simp at this
        | false =>
          have HK := Lib.hid hk
          have hk5 : ¬ k = 255 := fun e => by rw [e] at hk; simp at hk
          go_wp2_with (first
            | (refine wl (by rfl) (wp_of_run (run_ld (by kernel_rfl) (by rfl) (by rfl) C1.out) ?_)))
          refine ⟨⟨i + 1, by omega, by push_cast; rfl, ?_, by trivial⟩, by simp [intOf]; omega⟩
          rw [take_snoc l i _ HLI.out]
          exact no255_snoc HALL.out HK.out
      · have j1 : ¬ (i : Int) < (l.length : Int) := by omega
        have h255 : no255 l = true := by
          have := HALL.out
          rwa [List.take_of_length_le (by omega)] at this
        have H255 := Lib.hid h255
        clear h255
        cases hok : okL l with
        | false =>
          have HE := Lib.hid (show encE l = 160 by unfold encE; rw [hok]; rfl)
          have HO := Lib.hid (show encO l = [] by unfold encO; rw [hok]; rfl)
          have HB2 := Lib.hid (show segOk num l = false by
            cases h : segOk num l with
            | false => rfl
            | true => rw [(segOk_iff.1 h).2.2.2.1] at hok; cases hok)
          clear hok
          go_wp2_with (first
            | (go_at_call 54; refine (enc21 _ l _ (HS.out.fact (i := 0) rfl) (by omega)).mono ?_; rintro e Wn ⟨v7, rfl, hb⟩; rw [HE.out]; rw [HO.out] at hb; have hS := HS.out.take hb; clear hb; clear HS; have HS := Lib.hid hS; clear hS))
          go_ret2
          exact seg_err HB2.out HS.out.below
        | true =>
          have HE := Lib.hid (show encE l = 0 by unfold encE; rw [hok]; rfl)
          have HO := Lib.hid (show encO l = encL l by unfold encO; rw [hok]; rfl)
          have HOK := Lib.hid hok
          have HSEG := Lib.hid (show encL l ++ recB 255 (le 8 num ++ le 4 l.length) = encL (segL num l) by
            unfold segL mkr
            rw [encL_app, encL_cons]
            simp [encL])
          clear hok
          by_cases hbig : 1500000 < (encL (segL num l)).length
          · have d1 : (1500000 : Int) < ((encL (segL num l)).length : Int) := by omega
            have HB2 := Lib.hid (segOk_no (num := num) (.inr hbig))
            go_wp2_with (first
              | (go_at_call 54; refine (enc21 _ l _ (HS.out.fact (i := 0) rfl) (by omega)).mono ?_; rintro e Wn ⟨v7, rfl, hb⟩; rw [HE.out]; rw [HO.out] at hb; have hS := HS.out.take hb; clear hb; clear HS; have HS := Lib.hid hS; clear hS)
              | (go_at_call 55; refine (rfix8N num _ hn).mono ?_; rintro e Wn ⟨v9, rfl, hb⟩; have hS := HS.out.take hb; clear hb; clear HS; have HS := Lib.hid hS; clear hS)
              | (go_at_call 55; refine (rfix4N l.length _ (by omega)).mono ?_; rintro e Wn ⟨v11, rfl, hb⟩; have hS := HS.out.take hb; clear hb; clear HS; have HS := Lib.hid hS; clear hS)
              | (refine atd 54 (by rfl) ?_; refine wl (by rfl) (s_app HS.out 1 (E := 5) (xs := le 8 num) (ys := le 4 l.length) (by rfl) Try.underlying28 u8_info (by rfl) (by rfl) (by rfl) (Row.hb (HS.out.res (i := 0) rfl)) (by simp [le_length]) ?_); intro v54 Wn hS; obtain ⟨A54, c54, rfl⟩ := Row.sl (hS.res (i := 1) rfl); clear HS; have HS := Lib.hid hS; clear hS)
              | (go_at_call 53; go_loud (refine (one255 _ (le 8 num ++ le 4 l.length) _ (Row.hb (HS.out.res (i := 1) rfl)) (by simp [le_length])).mono ?_); rintro e Wn ⟨v56, rfl, hb⟩; have hS := HS.out.take hb; clear hb; clear HS; have HS := Lib.hid hS; clear hS)
              | (refine atd 57 (by rfl) ?_; refine wl (by rfl) (s_app HS.out 3 (E := 5) (xs := encL l) (ys := recB 255 (le 8 num ++ le 4 l.length)) (by rfl) Try.underlying28 u8_info (by rfl) (by rfl) (by rfl) (Row.hb (HS.out.res (i := 0) rfl)) (by rw [recB_length]; simp [le_length]; omega) ?_); intro v57 Wn hS; rw [HSEG.out] at hS; obtain ⟨A57, c57, rfl⟩ := Row.sl (hS.res (i := 3) rfl); clear HS; have HS := Lib.hid hS; clear hS))
            go_ret2
            exact seg_err HB2.out HS.out.below
          · have d1 : ¬ (1500000 : Int) < ((encL (segL num l)).length : Int) := by omega
            have HYES := Lib.hid (segOk_iff.2 ⟨H0.out, H1.out, H255.out, HOK.out, (by omega : (encL (segL num l)).length ≤ 1500000)⟩)
            go_wp2_with (first
              | (go_at_call 54; refine (enc21 _ l _ (HS.out.fact (i := 0) rfl) (by omega)).mono ?_; rintro e Wn ⟨v7, rfl, hb⟩; rw [HE.out]; rw [HO.out] at hb; have hS := HS.out.take hb; clear hb; clear HS; have HS := Lib.hid hS; clear hS)
              | (go_at_call 55; refine (rfix8N num _ hn).mono ?_; rintro e Wn ⟨v9, rfl, hb⟩; have hS := HS.out.take hb; clear hb; clear HS; have HS := Lib.hid hS; clear hS)
              | (go_at_call 55; refine (rfix4N l.length _ (by omega)).mono ?_; rintro e Wn ⟨v11, rfl, hb⟩; have hS := HS.out.take hb; clear hb; clear HS; have HS := Lib.hid hS; clear hS)
              | (refine atd 54 (by rfl) ?_; refine wl (by rfl) (s_app HS.out 1 (E := 5) (xs := le 8 num) (ys := le 4 l.length) (by rfl) Try.underlying28 u8_info (by rfl) (by rfl) (by rfl) (Row.hb (HS.out.res (i := 0) rfl)) (by simp [le_length]) ?_); intro v54 Wn hS; obtain ⟨A54, c54, rfl⟩ := Row.sl (hS.res (i := 1) rfl); clear HS; have HS := Lib.hid hS; clear hS)
              | (go_at_call 53; go_loud (refine (one255 _ (le 8 num ++ le 4 l.length) _ (Row.hb (HS.out.res (i := 1) rfl)) (by simp [le_length])).mono ?_); rintro e Wn ⟨v56, rfl, hb⟩; have hS := HS.out.take hb; clear hb; clear HS; have HS := Lib.hid hS; clear hS)
              | (refine atd 57 (by rfl) ?_; refine wl (by rfl) (s_app HS.out 3 (E := 5) (xs := encL l) (ys := recB 255 (le 8 num ++ le 4 l.length)) (by rfl) Try.underlying28 u8_info (by rfl) (by rfl) (by rfl) (Row.hb (HS.out.res (i := 0) rfl)) (by rw [recB_length]; simp [le_length]; omega) ?_); intro v57 Wn hS; rw [HSEG.out] at hS; obtain ⟨A57, c57, rfl⟩ := Row.sl (hS.res (i := 3) rfl); clear HS; have HS := Lib.hid hS; clear hS))
            go_ret2
            unfold segE segO
            rw [HYES.out]
            exact ⟨_, rfl, HS.out.give 3 rfl⟩
end
end Go.Proofs.Ytakeggdpnfibpaa
