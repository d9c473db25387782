/- Contracts and words that the laws stand on (RecordOnlyWalk). -/
import Derived.Test.YtlpklbpaknemaaaRecI
set_option linter.unusedVariables false
set_option linter.unusedSimpArgs false
namespace Go.Proofs.Ytlpklbpaknemaaa
section
open Go Go.RowKit Go.Proofs
attribute [local irreducible] Calls
theorem only_plain (xs : List UInt8) (a : Nat) (ha : a ≤ xs.length) : ∃ (N : Nat) (l : List (UInt8 × List UInt8 × Int)), allF xs (xs.length + 1) (a : Int) = l ∧ N = a + (recS l).length ∧ N ≤ xs.length ∧ (xs.drop a).take (N - a) = recS l ∧ decR xs (N : Int) = none ∧ ((l.getLast?.map (·.2.2)).getD (a : Int)) = (N : Int) ∧ (∀ x ∈ l, x.2.1.length ≤ 200000) ∧ l.length ≤ xs.length + 1 := by
  obtain ⟨l, post, h1, h2, h3, h4, h5⟩ := allF_bytes (xs.length + 1) (xs.take a) (xs.drop a) (by rw [List.length_drop]; omega)
  have e1 : (xs.take a).length = a := by rw [List.length_take, Nat.min_eq_left ha]
  rw [e1, List.take_append_drop] at h1
  rw [List.take_append_drop] at h3
  rw [e1] at h4
  have e2 : (xs.take a ++ recS l).length = a + (recS l).length := by rw [List.length_append, e1]
  have e3 : xs.length = a + ((recS l).length + post.length) := by
    rw [← List.length_append, ← h2, List.length_drop]; omega
  refine ⟨a + (recS l).length, l, h1, rfl, by omega, ?_, by rw [← e2]; exact h3, by rw [h4, e2], h5, by rw [← h1]; exact allF_len xs _ _⟩
  rw [Nat.add_sub_cancel_left, h2, List.take_left' rfl]
set_option maxHeartbeats 1000000 in
set_option maxRecDepth 100000 in
theorem recordOnly_walk (v : Value) (xs : List UInt8) (i : Int) (w : World) (h : HB w v xs) :
    Calls Try.prog 5 #[v, .int .i64 i] w fun e w' => e = .returned (.bool true) ∧ Below w.heap.size w w' := by
  have HW := Lib.hid h
  obtain ⟨A, c, rfl, hlc⟩ := h.shape
  have HS := Lib.hid ((St.start w).addF h.away0)
  clear h
  by_cases hx : xs.length ≤ 20000
  · have j1 : ¬ (20000 : Int) < (xs.length : Int) := by omega
    by_cases hf : i < 0 ∨ (xs.length : Int) < i
    · have HF := Lib.hid hf
      rcases (by omega : i < 0 ∨ (¬ i < 0 ∧ (xs.length : Int) < i)) with k1 | ⟨k1, k2⟩
      all_goals clear hf
      · skip
        go_enter Try.func5, Try.ntmps5
        go_wp2_with (first
          | (go_at_call 25; refine (alive25 _).mono ?_; rintro e Wn ⟨rfl, hb⟩; have hS := HS.out.call hb; clear hb; clear HS; have HS := Lib.hid hS; clear hS)
          | (go_at_call 14; refine (all14_far _ xs i _ (HS.out.fact (i := 0) rfl) HF.out).mono ?_; rintro e Wn ⟨rfl, hb⟩; have hS := HS.out.call hb; clear hb; clear HS; have HS := Lib.hid hS; clear hS))
        go_ret
        exact ⟨rfl, HS.out.below⟩
      · skip
        go_enter Try.func5, Try.ntmps5
        go_wp2_with (first
          | (go_at_call 25; refine (alive25 _).mono ?_; rintro e Wn ⟨rfl, hb⟩; have hS := HS.out.call hb; clear hb; clear HS; have HS := Lib.hid hS; clear hS)
          | (go_at_call 14; refine (all14_far _ xs i _ (HS.out.fact (i := 0) rfl) HF.out).mono ?_; rintro e Wn ⟨rfl, hb⟩; have hS := HS.out.call hb; clear hb; clear HS; have HS := Lib.hid hS; clear hS))
        go_ret
        exact ⟨rfl, HS.out.below⟩
    · obtain ⟨a, rfl⟩ := Int.eq_ofNat_of_zero_le (show 0 ≤ i by omega)
      have k1 : ¬ (a : Int) < 0 := by omega
      have k2 : ¬ (xs.length : Int) < (a : Int) := by omega
      have ha : a ≤ xs.length := by omega
      obtain ⟨N, l, h1, hN, hNx, hcut, hdec, hend, hpay, hll⟩ := only_plain xs a ha
      have J1 := Lib.hid (show a ≤ N by omega)
      have J2 := Lib.hid hNx
      have k3 : (a : Int) ≤ (N : Int) := by omega
      have k4 : decide ((a : Int) ≤ (N : Int)) = true := decide_eq_true k3
      have hC14 : ∀ W, HB W (.slice A xs.length c) xs → Calls Try.prog 14 #[.slice A xs.length c, .int .i64 (a : Int)] W fun e w' => ∃ A' c', e = .returned (.tuple #[.slice A' l.length c', .int .i64 (N : Int)]) ∧ Below W.heap.size W w' ∧ RS w' (.slice A' l.length c') (l.map fun x => ((x.1.toNat : Int), x.2.1)) := fun W hW => by
        refine (all14 _ xs a W hW ha (by omega)).mono ?_
        rintro e w' ⟨ys, u, hys, rfl, hb, ho, hp⟩
        have hr := RS.of_rows ho hp
        rw [kp_strip, hys, h1] at hr
        have hnx : nxOf a ys = (N : Int) := by
          rw [← hend, ← h1, ← hys, nxOf, List.getLast?_map, Option.map_map]
          rfl
        obtain ⟨A', c', rfl⟩ := own_slice ho
        have hyl : ys.length = l.length := by rw [← h1, ← hys, List.length_map]
        rw [hyl] at hr
        exact ⟨A', c', by rw [hnx, hyl], hb, hr⟩
      have hC20 : ∀ W u, RS W u (l.map fun x => ((x.1.toNat : Int), x.2.1)) → Calls Try.prog 20 #[u] W fun e w' => ∃ v', e = .returned (.tuple #[v', .int .i64 0]) ∧ New W w' (Row v' 5 1 (recS l).length (bs (recS l))) := fun W u hu => by
        refine (enc20 u _ W hu (by rw [List.length_map]; omega)).mono ?_
        rintro e w' ⟨v', rfl, hn⟩
        have hok := okL_strip hpay
        unfold encO at hn
        rw [hok, if_pos rfl, encL_strip] at hn
        exact ⟨v', by unfold encE; rw [hok]; rfl, hn⟩
      have hC12 : ∀ W, HB W (.slice A xs.length c) xs → Calls Try.prog 12 #[.slice A xs.length c, .int .i64 (N : Int)] W fun e w' => e = .returned (.tuple #[.agg #[.int .i64 0, .slice none 0 0], .int .i64 0, .int .i64 160]) ∧ Below W.heap.size W w' := fun W hW => by
        refine (dec12_any _ xs N W hW (by omega)).mono fun e w' hp => ?_
        unfold DecPost at hp
        rw [hdec] at hp
        exact hp
      have C14 := Lib.hid hC14; have C20 := Lib.hid hC20; have C12 := Lib.hid hC12; have HC := Lib.hid hcut
      clear hC14 hC20 hC12 hcut h1 hN hdec hend hpay hNx hf
      go_enter Try.func5, Try.ntmps5
      go_wp2_with (first
        | (go_at_call 25; refine (alive25 _).mono ?_; rintro e Wn ⟨rfl, hb⟩; have hS := HS.out.call hb; clear hb; clear HS; have HS := Lib.hid hS; clear hS)
        | (go_at_call 14; refine (C14.out _ (HS.out.fact (i := 0) rfl)).mono ?_; rintro e Wn ⟨A6, c6, rfl, hb, hr⟩; have hS := (HS.out.call hb).addF hr.away0; clear hb hr; clear HS; have HS := Lib.hid hS; clear hS)
        | (go_at_call 20; refine (C20.out _ _ (HS.out.fact (i := 0) rfl)).mono ?_; rintro e Wn ⟨v8, rfl, hb⟩; have hS := HS.out.take hb; clear hb; obtain ⟨A8, c8, rfl⟩ := Row.sl (hS.res (i := 0) rfl); clear HS; have HS := Lib.hid hS; clear hS)
        | (go_at_call 12; refine (C12.out _ (HS.out.fact (i := 1) rfl)).mono ?_; rintro e Wn ⟨rfl, hb⟩; have hS := HS.out.call hb; clear hb; clear HS; have HS := Lib.hid hS; clear hS)
        | (refine atd 10 (by rfl) ?_; refine wl (by rfl) (s_al HS.out (by rfl) z25 (by rfl) ?_); intro b10 Wn hS; clear HS; have HS := Lib.hid hS; clear hS)
        | (refine wl (by rfl) (s_sta (cs := [.int .i64 0, .slice none 0 0]) HS.out 0 2 (by rfl) (by rfl) (by rfl) ag25 (by rfl) (by rfl) (by intro v hv; simp at hv; rcases hv with rfl | rfl <;> rfl) (by decide) ?_); intro Wn hS; clear HS; have HS := Lib.hid hS; clear hS))
      have H8 := Lib.hid (Row.hb (HS.out.res (i := 1) rfl))
      have hcu := (HS.out.fact (i := 1) rfl : HB Wn (.slice A xs.length c) xs).cut J1.out J2.out
      rw [HC.out] at hcu
      have HCU := Lib.hid hcu
      clear hcu
      refine wp_region_pi [(0, true), (1, true), (2, true), (3, true), (4, true), (5, true), (6, true), (7, true), (8, true), (9, true), (10, true), (11, true), (12, true), (13, true), (14, true), (15, true), (16, true), (17, true), (18, true), (19, true), (20, true), (21, true), (22, true), (23, true), (24, true)] (by kernel_rfl) (by kernel_rfl) rfl (by kernel_rfl) (fun _ _ _ _ _ h => h) (fun V => V = Wn.drew) rfl ?_
      intro OPS hops
      iterate 25
        first | (refine wpPi_yield _ (by rw [hops.out]; simp only [List.getElem?_toArray, List.getElem?_cons_succ, List.getElem?_cons_zero]; rfl) (by first | rfl | (rw [hops.out]; rfl)) (fun w' hS => by subst hS; first | exact run_str (by rfl) (by rfl) H8.out | exact run_str (by rfl) (by rfl) HCU.out | exact run_sllh a N (by rfl) (by rfl) (by rfl) (by rfl) J1.out J2.out hlc | (go_simp; rfl)) ?_; simp only [Act.put, List.setIfInBounds_toArray, List.set_cons_succ, List.set_cons_zero]) | (refine wpPi_skip (by rw [hops.out]; simp only [List.getElem?_toArray, List.getElem?_cons_succ, List.getElem?_cons_zero]; rfl) (by first | rfl | (rw [hops.out]; rfl)) ?_; simp only [Act.put, List.setIfInBounds_toArray, List.set_cons_succ, List.set_cons_zero])
      simp only [wpPi]
      clear OPS hops
      go_wp2_with fail
      go_ret
      exact ⟨rfl, HS.out.below.drew⟩
  · have j1 : (20000 : Int) < (xs.length : Int) := by omega
    go_enter Try.func5, Try.ntmps5
    go_wp2_with (first
      | (go_at_call 25; refine (alive25 _).mono ?_; rintro e Wn ⟨rfl, hb⟩; have hS := HS.out.call hb; clear hb; clear HS; have HS := Lib.hid hS; clear hS))
    go_ret
    exact ⟨rfl, HS.out.below⟩
end
end Go.Proofs.Ytlpklbpaknemaaa
