/- Contracts and words that the laws stand on (WideShA). -/
import Derived.Test.YtkbambojnifjcaaBits
import Derived.Test.YtkbambojnifjcaaWideDivX
set_option linter.unusedVariables false
set_option linter.unusedSimpArgs false
namespace Go.Proofs.Ytkbambojnifjcaa
section
open Go Go.RowKit Go.Proofs
theorem blen_two (k : Nat) : blen (2 ^ k) = k + 1 := by
  refine blen_eq _ _ (Nat.pow_lt_pow_right (by decide) (by omega)) (.inr ?_)
  unfold bitN
  rw [Nat.add_sub_cancel, Nat.div_self (Nat.two_pow_pos k)]
theorem blen_top (a : Nat) (h : a ≠ 0) : bitN a (blen a - 1) = 1 := by
  have hb : blen a = a.log2 + 1 := by unfold blen; rw [if_neg h]
  rw [hb, Nat.add_sub_cancel]
  have h1 := Nat.log2_self_le h
  have h2 : a < 2 ^ (a.log2 + 1) := Nat.lt_log2_self
  unfold bitN
  have a1 := Nat.div_pos h1 (Nat.two_pow_pos a.log2)
  have a2 : a / 2 ^ a.log2 < 2 := by rw [Nat.div_lt_iff_lt_mul (Nat.two_pow_pos _), Nat.mul_comm, ← Nat.pow_succ]; exact h2
  have a3 : a / 2 ^ a.log2 = 1 := by omega
  rw [a3]
theorem blen_div (a k : Nat) : blen (a / 2 ^ k) = blen a - k := by
  rcases Nat.lt_or_ge k (blen a) with h | h
  · have ha : a ≠ 0 := by rintro rfl; exact absurd h (by unfold blen; simp)
    refine blen_eq _ _ ?_ (.inr ?_)
    · rw [Nat.div_lt_iff_lt_mul (Nat.two_pow_pos k), ← Nat.pow_add, Nat.sub_add_cancel (by omega)]
      exact blen_lt a
    · rw [bitN_div, show k + (blen a - k - 1) = blen a - 1 by omega]; exact blen_top a ha
  · have : a / 2 ^ k = 0 := Nat.div_eq_of_lt (Nat.lt_of_lt_of_le (blen_lt a) (Nat.pow_le_pow_right (by decide) h))
    rw [this, show blen a - k = 0 by omega]; rfl
theorem blen_mul (a k : Nat) (h : a ≠ 0) : blen (a * 2 ^ k) = blen a + k := by
  refine blen_eq _ _ ?_ (.inr ?_)
  · rw [Nat.pow_add]; exact Nat.mul_lt_mul_of_pos_right (blen_lt a) (Nat.two_pow_pos k)
  · have hb : blen a = a.log2 + 1 := by unfold blen; rw [if_neg h]
    have := blen_top a h
    unfold bitN at *
    rw [show blen a + k - 1 = k + (blen a - 1) by omega, Nat.pow_add, ← Nat.div_div_eq_div_mul, Nat.mul_div_cancel _ (Nat.two_pow_pos k)]
    exact this
theorem shl_fits (a k : Nat) (h : blen a + k ≤ 256) : a * 2 ^ k < M4 := by
  rw [M4_pow]
  refine Nat.lt_of_lt_of_le (Nat.mul_lt_mul_of_pos_right (blen_lt a) (Nat.two_pow_pos k)) ?_
  rw [← Nat.pow_add]
  exact Nat.pow_le_pow_right (by decide) h
theorem shlW_nat (a k : Nat) (ha : a < M4) : shlW a (k : Int) = a * 2 ^ k % M4 := by
  unfold shlW
  split
  · obtain rfl : k = 0 := by omega
    rw [Nat.pow_zero, Nat.mul_one, Nat.mod_eq_of_lt ha]
  · rw [Int.toNat_natCast]
theorem shrW_nat (a k : Nat) : shrW a (k : Int) = a / 2 ^ k := by
  unfold shrW
  split
  · obtain rfl : k = 0 := by omega
    rw [Nat.pow_zero, Nat.div_one]
  · rw [Int.toNat_natCast]
theorem shl_shl (a i j : Nat) : a * 2 ^ i % M4 * 2 ^ j % M4 = a * 2 ^ (i + j) % M4 := by
  rw [Nat.mod_mul_mod, Nat.mul_assoc, ← Nat.pow_add]
theorem half_le (a h : Nat) : a * 2 ^ h % M4 / 2 ^ h ≤ a :=
  Nat.le_trans (Nat.div_le_div_right (Nat.mod_le _ _)) (by rw [Nat.mul_div_cancel _ (Nat.two_pow_pos h)]; exact Nat.le_refl a)
section
variable {w W : World} {L : List Res} {Fs : List (World → Prop)}
theorem St.swap {r s : Res} (h : St w W (r :: s :: L) Fs) : St w W (s :: r :: L) Fs := by
  have key : ∀ (i : Nat), (s :: r :: L)[i]? = (r :: s :: L)[if i = 0 then 1 else if i = 1 then 0 else i]? := by
    intro i
    match i with
    | 0 => rfl
    | 1 => rfl
    | i + 2 => rw [if_neg (by omega), if_neg (by omega)]; rfl
  refine ⟨h.below, fun x hx => h.own x (by simp only [List.mem_cons] at hx ⊢; rcases hx with h | h | h; exact .inr (.inl h); exact .inl h; exact .inr (.inr h)), ?_, fun F hF => (h.facts F hF).mono ?_⟩
  · intro i j x y hi hj hij
    rw [key] at hi hj
    refine h.apart _ _ x y hi hj ?_
    split <;> split <;> (try split) <;> (try split) <;> omega
  · rintro k ⟨x, hx, hk⟩
    refine ⟨x, ?_, hk⟩
    simp only [List.mem_cons] at hx ⊢
    rcases hx with h | h | h
    · exact .inr (.inl h)
    · exact .inl h
    · exact .inr (.inr h)
end
end
section
open Go Go.RowKit Go.Proofs
attribute [local irreducible] wc pw bl bitN fl shlW shrW Calls cmpW dfold
set_option maxHeartbeats 8000000 in
set_option maxRecDepth 100000 in
theorem shf_A (a k p lo hi q r0 la sm kh kd hf hh : Nat) (d mx cv : Int) (w : World) (h1 : (∀ w, Calls Try.prog 9 #[] w fun e' w' => e' = .returned (.bool true) ∧ Below w.heap.size w w')) (h2 : (∀ w, Calls Try.prog 12 #[.int .u64 1] w fun e' w' => e' = .returned (.agg (wc 1)) ∧ Below w.heap.size w w')) (h3 : (∀ w, Calls Try.prog 21 #[.agg (wc 1), .int .i64 (k : Int)] w fun e' w' => e' = .returned (.agg (wc p)) ∧ Below w.heap.size w w')) (h4 : (∀ w, Calls Try.prog 10 #[.agg (wc a), .agg (wc p)] w fun e' w' => e' = .returned (.tuple #[.agg (wc lo), .agg (wc hi)]) ∧ Below w.heap.size w w')) (h5 : (∀ w, Calls Try.prog 16 #[.agg (wc a), .agg (wc p)] w fun e' w' => e' = .returned (.tuple #[.agg (wc q), .agg (wc r0), .int .i64 0]) ∧ Below w.heap.size w w')) (h6 : (∀ w, Calls Try.prog 21 #[.agg (wc a), .int .i64 (k : Int)] w fun e' w' => e' = .returned (.agg (wc lo)) ∧ Below w.heap.size w w')) (h7 : (∀ w, Calls Try.prog 23 #[.agg (wc a), .int .i64 (k : Int)] w fun e' w' => e' = .returned (.agg (wc q)) ∧ Below w.heap.size w w')) (h8 : (∀ w, Calls Try.prog 26 #[.agg (wc p)] w fun e' w' => e' = .returned (.int .i64 ((k : Int) + 1)) ∧ Below w.heap.size w w')) (h9 : (∀ w, Calls Try.prog 26 #[.agg (wc q)] w fun e' w' => e' = .returned (.int .i64 mx) ∧ Below w.heap.size w w')) (h10 : (∀ w, Calls Try.prog 26 #[.agg (wc a)] w fun e' w' => e' = .returned (.int .i64 (la : Int)) ∧ Below w.heap.size w w')) (h13 : (∀ w, Calls Try.prog 21 #[.agg (wc a), .int .i64 (kh : Int)] w fun e' w' => e' = .returned (.agg (wc hf)) ∧ Below w.heap.size w w')) (h14 : (∀ w, Calls Try.prog 23 #[.agg (wc hf), .int .i64 (kh : Int)] w fun e' w' => e' = .returned (.agg (wc hh)) ∧ Below w.heap.size w w')) (h15 : (∀ w, Calls Try.prog 15 #[.agg (wc hh), .agg (wc a)] w fun e' w' => e' = .returned (.int .i64 cv) ∧ Below w.heap.size w w')) (h16 : (∀ w, Calls Try.prog 21 #[.agg (wc hf), .int .i64 (kd : Int)] w fun e' w' => e' = .returned (.agg (wc lo)) ∧ Below w.heap.size w w')) (hk : k ≤ 255) (hla : la ≤ 256) (hd : (la : Int) - (k : Int) = d) (hmx : max 0 d = mx) (hsm : la + k = sm) (hkh : k / 2 = kh) (hkd : k - kh = kd) (hcv : cv ≤ 0) (hs : 256 < sm) : Calls Try.prog 8 #[.agg (wc a), .int .u8 (k : Int)] w fun e w' => e = .returned (.bool true) ∧ Below w.heap.size w w' := by
  have HS := Lib.hid (St.start w)
  have H1 := Lib.hid h1
  have H2 := Lib.hid h2
  have H3 := Lib.hid h3
  have H4 := Lib.hid h4
  have H5 := Lib.hid h5
  have H6 := Lib.hid h6
  have H7 := Lib.hid h7
  have H8 := Lib.hid h8
  have H9 := Lib.hid h9
  have H10 := Lib.hid h10
  have H13 := Lib.hid h13
  have H14 := Lib.hid h14
  have H15 := Lib.hid h15
  have H16 := Lib.hid h16
  clear h1 h2 h3 h4 h5 h6 h7 h8 h9 h10 h13 h14 h15 h16
  have hg := guard24; have he := eq_self; have hns := ne_self
  have k0 : (0 : Int) ≤ (k : Int) := by omega
  have k1 : (k : Int) ≤ 255 := by omega
  have la0 : (0 : Int) ≤ (la : Int) := by omega
  have la1 : (la : Int) ≤ 256 := by omega
  have e1 : (k : Int) / 2 = (kh : Int) := by omega
  have e2 : (k : Int).tdiv 2 = (kh : Int) := by rw [Int.tdiv_eq_ediv_of_nonneg (by omega)]; omega
  have e3 : IntKind.i64.wrap (kh : Int) = (kh : Int) := by rw [IntKind.wrap_i64]; omega
  have e4 : (k : Int) - (kh : Int) = (kd : Int) := by omega
  have e5 : IntKind.i64.wrap (kd : Int) = (kd : Int) := by rw [IntKind.wrap_i64]; omega
  have e6 : IntKind.i64.wrap d = d := by rw [IntKind.wrap_i64]; omega
  have e7 : (la : Int) + (k : Int) = (sm : Int) := by omega
  have e8 : IntKind.i64.wrap (sm : Int) = (sm : Int) := by rw [IntKind.wrap_i64]; omega
  have s1 : (0 : Int) ≤ (sm : Int) := by omega
  have s2 : ¬ (sm : Int) ≤ 256 := by omega
  have S3 := Lib.hid (decide_eq_false s2)
  clear hsm hkh hkd hk hla hs
  go_enter Try.func8, Try.ntmps8
  go_wp2_with (first
    | (refine atd 2 (by rfl) ?_; refine wl (by rfl) (bx24 HS.out a (by rfl) (by rfl) ?_); intro b2 Wn hS; clear HS; have HS := Lib.hid hS; clear hS)
    | (go_at_call 9; (first | refine (H1.out _).mono ?_); rintro e Wn ⟨rfl, hb⟩; have hS := HS.out.call hb; clear hb; clear HS; have HS := Lib.hid hS; clear hS)
    | (go_at_call 12; (first | refine (H2.out _).mono ?_); rintro e Wn ⟨rfl, hb⟩; have hS := HS.out.call hb; clear hb; clear HS; have HS := Lib.hid hS; clear hS)
    | (go_at_call 21; (refine (H3.out _).mono ?_); rintro e Wn ⟨rfl, hb⟩; have hS := HS.out.call hb; clear hb; clear HS; have HS := Lib.hid hS; clear hS)
    | (refine atd 7 (by rfl) ?_; refine wl (by rfl) (s_al HS.out (by rfl) z24 (by rfl) ?_); intro b7 Wn hS; replace hS := al24 hS; clear HS; have HS := Lib.hid hS; clear hS)
    | (refine sto 7 (by rfl) ?_; refine wl (by rfl) (st24 HS.out 0 p (by rfl) (by rfl) (by rfl) (by rfl) ?_); intro Wn hS; clear HS; have HS := Lib.hid hS; clear hS)
    | (refine atd 23 (by rfl) ?_; refine wl (by rfl) (ld24 HS.out 1 (by rfl) (by rfl) (by rfl) ?_))
    | (refine atd 24 (by rfl) ?_; refine wl (by rfl) (ld24 HS.out 0 (by rfl) (by rfl) (by rfl) ?_))
    | (go_at_call 10; (first | refine (H4.out _).mono ?_); rintro e Wn ⟨rfl, hb⟩; have hS := HS.out.call hb; clear hb; clear HS; have HS := Lib.hid hS; clear hS)
    | (refine atd 8 (by rfl) ?_; refine wl (by rfl) (s_al HS.out (by rfl) z24 (by rfl) ?_); intro b8 Wn hS; replace hS := al24 hS; clear HS; have HS := Lib.hid hS; clear hS)
    | (refine atd 9 (by rfl) ?_; refine wl (by rfl) (s_al HS.out (by rfl) z24 (by rfl) ?_); intro b9 Wn hS; replace hS := al24 hS; clear HS; have HS := Lib.hid hS; clear hS)
    | (refine sto 8 (by rfl) ?_; refine wl (by rfl) (st24 HS.out 1 lo (by rfl) (by rfl) (by rfl) (by rfl) ?_); intro Wn hS; clear HS; have HS := Lib.hid hS; clear hS)
    | (refine sto 9 (by rfl) ?_; refine wl (by rfl) (st24 HS.out 0 hi (by rfl) (by rfl) (by rfl) (by rfl) ?_); intro Wn hS; clear HS; have HS := Lib.hid hS; clear hS)
    | (refine atd 29 (by rfl) ?_; refine wl (by rfl) (ld24 HS.out 3 (by rfl) (by rfl) (by rfl) ?_))
    | (refine atd 30 (by rfl) ?_; refine wl (by rfl) (ld24 HS.out 2 (by rfl) (by rfl) (by rfl) ?_))
    | (go_at_call 16; (first | refine (H5.out _).mono ?_); rintro e Wn ⟨rfl, hb⟩; have hS := HS.out.call hb; clear hb; clear HS; have HS := Lib.hid hS; clear hS)
    | (refine atd 10 (by rfl) ?_; refine wl (by rfl) (s_al HS.out (by rfl) z24 (by rfl) ?_); intro b10 Wn hS; replace hS := al24 hS; clear HS; have HS := Lib.hid hS; clear hS)
    | (refine atd 11 (by rfl) ?_; refine wl (by rfl) (s_al HS.out (by rfl) z24 (by rfl) ?_); intro b11 Wn hS; replace hS := al24 hS; clear HS; have HS := Lib.hid hS; clear hS)
    | (refine sto 10 (by rfl) ?_; refine wl (by rfl) (st24 HS.out 1 q (by rfl) (by rfl) (by rfl) (by rfl) ?_); intro Wn hS; clear HS; have HS := Lib.hid hS; clear hS)
    | (refine sto 11 (by rfl) ?_; refine wl (by rfl) (st24 HS.out 0 r0 (by rfl) (by rfl) (by rfl) (by rfl) ?_); intro Wn hS; clear HS; have HS := Lib.hid hS; clear hS))
  apply region_join2 (S := fun (b13 b14 : Nat) V => St w V [Blk b14 (wc q).toList 24, Blk b13 (wc lo).toList 24, Blk b11 (wc r0).toList 24, Blk b10 (wc q).toList 24, Blk b9 (wc hi).toList 24, Blk b8 (wc lo).toList 24, Blk b7 (wc p).toList 24, Blk b2 (wc a).toList 24] [])
  case hreg =>
    refine wp_region_tr (.yield 0 (.yield 1 (.yield 3 (.yield 4 (.act 2 (.act 5 (.act 6 (.act 7 (.act 8 (.act 9 .done .none) .none) .none) (.act 7 (.act 6 (.act 8 (.act 9 .done .none) .none) .none) .none)) (.act 6 (.act 5 (.act 7 (.act 8 (.act 9 .done .none) .none) .none) (.act 7 (.act 5 (.act 8 (.act 9 .done .none) .none) .none) .none)) (.act 7 (.act 5 (.act 6 (.act 8 (.act 9 .done .none) .none) .none) (.act 6 (.act 5 (.act 8 (.act 9 .done .none) .none) .none) .none)) .none))) (.act 6 (.act 2 (.act 5 (.act 7 (.act 8 (.act 9 .done .none) .none) .none) (.act 7 (.act 5 (.act 8 (.act 9 .done .none) .none) .none) .none)) (.act 7 (.act 2 (.act 5 (.act 8 (.act 9 .done .none) .none) .none) .none) .none)) (.act 7 (.act 2 (.act 5 (.act 6 (.act 8 (.act 9 .done .none) .none) .none) (.act 6 (.act 5 (.act 8 (.act 9 .done .none) .none) .none) .none)) (.act 6 (.act 2 (.act 5 (.act 8 (.act 9 .done .none) .none) .none) .none) .none)) .none))))))) (by kernel_rfl) (by kernel_rfl) (by kernel_rfl) (fun _ _ _ _ _ h => absurd h.1 (by simp)) (fun w' => St w w' [Blk b11 (wc r0).toList 24, Blk b10 (wc q).toList 24, Blk b9 (wc hi).toList 24, Blk b8 (wc lo).toList 24, Blk b7 (wc p).toList 24, Blk b2 (wc a).toList 24] []) HS.out.drew ?_
    intro OPS hops
    have hS := HS.out.drew
    have HS := Lib.hid hS; clear hS
    refine wpT_yield _ (by rw [hops.out]; simp only [List.getElem?_toArray, List.getElem?_cons_succ, List.getElem?_cons_zero]; rfl) (by first | rfl | (rw [hops.out]; rfl)) (fun w' hS => by first | exact ldw hS 5 (by rfl) (by rfl) (by rfl) | (go_simp; rfl)) ?_
    simp only [Act.put, List.setIfInBounds_toArray, List.set_cons_succ, List.set_cons_zero]
    refine wpT_yield _ (by rw [hops.out]; simp only [List.getElem?_toArray, List.getElem?_cons_succ, List.getElem?_cons_zero]; rfl) (by first | rfl | (rw [hops.out]; rfl)) (fun w' hS => by first | exact ldw hS 5 (by rfl) (by rfl) (by rfl) | (go_simp; rfl)) ?_
    simp only [Act.put, List.setIfInBounds_toArray, List.set_cons_succ, List.set_cons_zero]
    refine wpT_yield _ (by rw [hops.out]; simp only [List.getElem?_toArray, List.getElem?_cons_succ, List.getElem?_cons_zero]; rfl) (by first | rfl | (rw [hops.out]; rfl)) (fun w' hS => by first | exact ldw hS 5 (by rfl) (by rfl) (by rfl) | (go_simp; rfl)) ?_
    simp only [Act.put, List.setIfInBounds_toArray, List.set_cons_succ, List.set_cons_zero]
    refine wpT_yield _ (by rw [hops.out]; simp only [List.getElem?_toArray, List.getElem?_cons_succ, List.getElem?_cons_zero]; rfl) (by first | rfl | (rw [hops.out]; rfl)) (fun w' hS => by first | exact ldw hS 5 (by rfl) (by rfl) (by rfl) | (go_simp; rfl)) ?_
    simp only [Act.put, List.setIfInBounds_toArray, List.set_cons_succ, List.set_cons_zero]
    refine wpT_act (by rw [hops.out]; simp only [List.getElem?_toArray, List.getElem?_cons_succ, List.getElem?_cons_zero]; rfl) (by first | rfl | (rw [hops.out]; rfl)) ?_ ?_
    · go_simp
      refine (H6.out _).mono ?_
      rintro e Wn ⟨rfl, hb⟩
      have hS := HS.out.call hb
      have HS := Lib.hid hS; clear hS
      clear hb
      refine ⟨(by first | exact HS.out | exact HS.out.sub 0 | exact (HS.out.sub 0).sub 0), ?_⟩
      try simp only [Act.put, List.setIfInBounds_toArray, List.set_cons_succ, List.set_cons_zero]
      refine wpT_act (by rw [hops.out]; simp only [List.getElem?_toArray, List.getElem?_cons_succ, List.getElem?_cons_zero]; rfl) (by first | rfl | (rw [hops.out]; rfl)) ?_ ?_
      · go_simp
        refine (H7.out _).mono ?_
        rintro e Wn ⟨rfl, hb⟩
        have hS := HS.out.call hb
        have HS := Lib.hid hS; clear hS
        clear hb
        refine ⟨(by first | exact HS.out | exact HS.out.sub 0 | exact (HS.out.sub 0).sub 0), ?_⟩
        try simp only [Act.put, List.setIfInBounds_toArray, List.set_cons_succ, List.set_cons_zero]
        refine wpT_act (by rw [hops.out]; simp only [List.getElem?_toArray, List.getElem?_cons_succ, List.getElem?_cons_zero]; rfl) (by first | rfl | (rw [hops.out]; rfl)) ?_ ?_
        · refine s_al HS.out (by rfl) z24 (by rfl) ?_
          intro b13 Wn hS
          replace hS := al24 hS
          have HS := Lib.hid hS; clear hS
          refine ⟨(by first | exact HS.out | exact HS.out.sub 0 | exact (HS.out.sub 0).sub 0), ?_⟩
          try simp only [Act.put, List.setIfInBounds_toArray, List.set_cons_succ, List.set_cons_zero]
          refine wpT_act (by rw [hops.out]; simp only [List.getElem?_toArray, List.getElem?_cons_succ, List.getElem?_cons_zero]; rfl) (by first | rfl | (rw [hops.out]; rfl)) ?_ trivial
          refine s_al HS.out (by rfl) z24 (by rfl) ?_
          intro b14 Wn hS
          replace hS := al24 hS
          have HS := Lib.hid hS; clear hS
          refine ⟨(by first | exact HS.out | exact HS.out.sub 0 | exact (HS.out.sub 0).sub 0), ?_⟩
          try simp only [Act.put, List.setIfInBounds_toArray, List.set_cons_succ, List.set_cons_zero]
          refine wpT_act (by rw [hops.out]; simp only [List.getElem?_toArray, List.getElem?_cons_succ, List.getElem?_cons_zero]; rfl) (by first | rfl | (rw [hops.out]; rfl)) ?_ trivial
          first | refine st24 HS.out 0 lo (by rfl) (by rfl) (by rfl) (by rfl) ?_ | refine st24 HS.out 1 lo (by rfl) (by rfl) (by rfl) (by rfl) ?_
          intro Wn hS
          have HS := Lib.hid hS; clear hS
          refine ⟨(by first | exact HS.out | exact HS.out.sub 0 | exact (HS.out.sub 0).sub 0), ?_⟩
          try simp only [Act.put, List.setIfInBounds_toArray, List.set_cons_succ, List.set_cons_zero]
          refine wpT_act (by rw [hops.out]; simp only [List.getElem?_toArray, List.getElem?_cons_succ, List.getElem?_cons_zero]; rfl) (by first | rfl | (rw [hops.out]; rfl)) ?_ trivial
          first | refine st24 HS.out 0 q (by rfl) (by rfl) (by rfl) (by rfl) ?_ | refine st24 HS.out 1 q (by rfl) (by rfl) (by rfl) (by rfl) ?_
          intro Wn hS
          have HS := Lib.hid hS; clear hS
          refine ⟨(by first | exact HS.out | exact HS.out.sub 0 | exact (HS.out.sub 0).sub 0), ?_⟩
          try simp only [Act.put, List.setIfInBounds_toArray, List.set_cons_succ, List.set_cons_zero]
          first | exact ⟨rfl, b13, b14, rfl, HS.out⟩ | exact ⟨rfl, b13, b14, rfl, HS.out.swap⟩
        refine wpT_act (by rw [hops.out]; simp only [List.getElem?_toArray, List.getElem?_cons_succ, List.getElem?_cons_zero]; rfl) (by first | rfl | (rw [hops.out]; rfl)) ?_ ?_
        · refine s_al HS.out (by rfl) z24 (by rfl) ?_
          intro b14 Wn hS
          replace hS := al24 hS
          have HS := Lib.hid hS; clear hS
          refine ⟨(by first | exact HS.out | exact HS.out.sub 0 | exact (HS.out.sub 0).sub 0), ?_⟩
          try simp only [Act.put, List.setIfInBounds_toArray, List.set_cons_succ, List.set_cons_zero]
          refine wpT_act (by rw [hops.out]; simp only [List.getElem?_toArray, List.getElem?_cons_succ, List.getElem?_cons_zero]; rfl) (by first | rfl | (rw [hops.out]; rfl)) ?_ trivial
          refine s_al HS.out (by rfl) z24 (by rfl) ?_
          intro b13 Wn hS
          replace hS := al24 hS
          have HS := Lib.hid hS; clear hS
          refine ⟨(by first | exact HS.out | exact HS.out.sub 0 | exact (HS.out.sub 0).sub 0), ?_⟩
          try simp only [Act.put, List.setIfInBounds_toArray, List.set_cons_succ, List.set_cons_zero]
          refine wpT_act (by rw [hops.out]; simp only [List.getElem?_toArray, List.getElem?_cons_succ, List.getElem?_cons_zero]; rfl) (by first | rfl | (rw [hops.out]; rfl)) ?_ trivial
          first | refine st24 HS.out 0 lo (by rfl) (by rfl) (by rfl) (by rfl) ?_ | refine st24 HS.out 1 lo (by rfl) (by rfl) (by rfl) (by rfl) ?_
          intro Wn hS
          have HS := Lib.hid hS; clear hS
          refine ⟨(by first | exact HS.out | exact HS.out.sub 0 | exact (HS.out.sub 0).sub 0), ?_⟩
          try simp only [Act.put, List.setIfInBounds_toArray, List.set_cons_succ, List.set_cons_zero]
          refine wpT_act (by rw [hops.out]; simp only [List.getElem?_toArray, List.getElem?_cons_succ, List.getElem?_cons_zero]; rfl) (by first | rfl | (rw [hops.out]; rfl)) ?_ trivial
          first | refine st24 HS.out 0 q (by rfl) (by rfl) (by rfl) (by rfl) ?_ | refine st24 HS.out 1 q (by rfl) (by rfl) (by rfl) (by rfl) ?_
          intro Wn hS
          have HS := Lib.hid hS; clear hS
          refine ⟨(by first | exact HS.out | exact HS.out.sub 0 | exact (HS.out.sub 0).sub 0), ?_⟩
          try simp only [Act.put, List.setIfInBounds_toArray, List.set_cons_succ, List.set_cons_zero]
          first | exact ⟨rfl, b13, b14, rfl, HS.out⟩ | exact ⟨rfl, b13, b14, rfl, HS.out.swap⟩
        exact trivial
      refine wpT_act (by rw [hops.out]; simp only [List.getElem?_toArray, List.getElem?_cons_succ, List.getElem?_cons_zero]; rfl) (by first | rfl | (rw [hops.out]; rfl)) ?_ ?_
      · refine s_al HS.out (by rfl) z24 (by rfl) ?_
        intro b13 Wn hS
        replace hS := al24 hS
        have HS := Lib.hid hS; clear hS
        refine ⟨(by first | exact HS.out | exact HS.out.sub 0 | exact (HS.out.sub 0).sub 0), ?_⟩
        try simp only [Act.put, List.setIfInBounds_toArray, List.set_cons_succ, List.set_cons_zero]
        refine wpT_act (by rw [hops.out]; simp only [List.getElem?_toArray, List.getElem?_cons_succ, List.getElem?_cons_zero]; rfl) (by first | rfl | (rw [hops.out]; rfl)) ?_ ?_
        · go_simp
          refine (H7.out _).mono ?_
          rintro e Wn ⟨rfl, hb⟩
          have hS := HS.out.call hb
          have HS := Lib.hid hS; clear hS
          clear hb
          refine ⟨(by first | exact HS.out | exact HS.out.sub 0 | exact (HS.out.sub 0).sub 0), ?_⟩
          try simp only [Act.put, List.setIfInBounds_toArray, List.set_cons_succ, List.set_cons_zero]
          refine wpT_act (by rw [hops.out]; simp only [List.getElem?_toArray, List.getElem?_cons_succ, List.getElem?_cons_zero]; rfl) (by first | rfl | (rw [hops.out]; rfl)) ?_ trivial
          refine s_al HS.out (by rfl) z24 (by rfl) ?_
          intro b14 Wn hS
          replace hS := al24 hS
          have HS := Lib.hid hS; clear hS
          refine ⟨(by first | exact HS.out | exact HS.out.sub 0 | exact (HS.out.sub 0).sub 0), ?_⟩
          try simp only [Act.put, List.setIfInBounds_toArray, List.set_cons_succ, List.set_cons_zero]
          refine wpT_act (by rw [hops.out]; simp only [List.getElem?_toArray, List.getElem?_cons_succ, List.getElem?_cons_zero]; rfl) (by first | rfl | (rw [hops.out]; rfl)) ?_ trivial
          first | refine st24 HS.out 0 lo (by rfl) (by rfl) (by rfl) (by rfl) ?_ | refine st24 HS.out 1 lo (by rfl) (by rfl) (by rfl) (by rfl) ?_
          intro Wn hS
          have HS := Lib.hid hS; clear hS
          refine ⟨(by first | exact HS.out | exact HS.out.sub 0 | exact (HS.out.sub 0).sub 0), ?_⟩
          try simp only [Act.put, List.setIfInBounds_toArray, List.set_cons_succ, List.set_cons_zero]
          refine wpT_act (by rw [hops.out]; simp only [List.getElem?_toArray, List.getElem?_cons_succ, List.getElem?_cons_zero]; rfl) (by first | rfl | (rw [hops.out]; rfl)) ?_ trivial
          first | refine st24 HS.out 0 q (by rfl) (by rfl) (by rfl) (by rfl) ?_ | refine st24 HS.out 1 q (by rfl) (by rfl) (by rfl) (by rfl) ?_
          intro Wn hS
          have HS := Lib.hid hS; clear hS
          refine ⟨(by first | exact HS.out | exact HS.out.sub 0 | exact (HS.out.sub 0).sub 0), ?_⟩
          try simp only [Act.put, List.setIfInBounds_toArray, List.set_cons_succ, List.set_cons_zero]
          first | exact ⟨rfl, b13, b14, rfl, HS.out⟩ | exact ⟨rfl, b13, b14, rfl, HS.out.swap⟩
        refine wpT_act (by rw [hops.out]; simp only [List.getElem?_toArray, List.getElem?_cons_succ, List.getElem?_cons_zero]; rfl) (by first | rfl | (rw [hops.out]; rfl)) ?_ ?_
        · refine s_al HS.out (by rfl) z24 (by rfl) ?_
          intro b14 Wn hS
          replace hS := al24 hS
          have HS := Lib.hid hS; clear hS
          refine ⟨(by first | exact HS.out | exact HS.out.sub 0 | exact (HS.out.sub 0).sub 0), ?_⟩
          try simp only [Act.put, List.setIfInBounds_toArray, List.set_cons_succ, List.set_cons_zero]
          refine wpT_act (by rw [hops.out]; simp only [List.getElem?_toArray, List.getElem?_cons_succ, List.getElem?_cons_zero]; rfl) (by first | rfl | (rw [hops.out]; rfl)) ?_ trivial
          go_simp
          refine (H7.out _).mono ?_
          rintro e Wn ⟨rfl, hb⟩
          have hS := HS.out.call hb
          have HS := Lib.hid hS; clear hS
          clear hb
          refine ⟨(by first | exact HS.out | exact HS.out.sub 0 | exact (HS.out.sub 0).sub 0), ?_⟩
          try simp only [Act.put, List.setIfInBounds_toArray, List.set_cons_succ, List.set_cons_zero]
          refine wpT_act (by rw [hops.out]; simp only [List.getElem?_toArray, List.getElem?_cons_succ, List.getElem?_cons_zero]; rfl) (by first | rfl | (rw [hops.out]; rfl)) ?_ trivial
          first | refine st24 HS.out 0 lo (by rfl) (by rfl) (by rfl) (by rfl) ?_ | refine st24 HS.out 1 lo (by rfl) (by rfl) (by rfl) (by rfl) ?_
          intro Wn hS
          have HS := Lib.hid hS; clear hS
          refine ⟨(by first | exact HS.out | exact HS.out.sub 0 | exact (HS.out.sub 0).sub 0), ?_⟩
          try simp only [Act.put, List.setIfInBounds_toArray, List.set_cons_succ, List.set_cons_zero]
          refine wpT_act (by rw [hops.out]; simp only [List.getElem?_toArray, List.getElem?_cons_succ, List.getElem?_cons_zero]; rfl) (by first | rfl | (rw [hops.out]; rfl)) ?_ trivial
          first | refine st24 HS.out 0 q (by rfl) (by rfl) (by rfl) (by rfl) ?_ | refine st24 HS.out 1 q (by rfl) (by rfl) (by rfl) (by rfl) ?_
          intro Wn hS
          have HS := Lib.hid hS; clear hS
          refine ⟨(by first | exact HS.out | exact HS.out.sub 0 | exact (HS.out.sub 0).sub 0), ?_⟩
          try simp only [Act.put, List.setIfInBounds_toArray, List.set_cons_succ, List.set_cons_zero]
          first | exact ⟨rfl, b13, b14, rfl, HS.out⟩ | exact ⟨rfl, b13, b14, rfl, HS.out.swap⟩
        exact trivial
      refine wpT_act (by rw [hops.out]; simp only [List.getElem?_toArray, List.getElem?_cons_succ, List.getElem?_cons_zero]; rfl) (by first | rfl | (rw [hops.out]; rfl)) ?_ ?_
      · refine s_al HS.out (by rfl) z24 (by rfl) ?_
        intro b14 Wn hS
        replace hS := al24 hS
        have HS := Lib.hid hS; clear hS
        refine ⟨(by first | exact HS.out | exact HS.out.sub 0 | exact (HS.out.sub 0).sub 0), ?_⟩
        try simp only [Act.put, List.setIfInBounds_toArray, List.set_cons_succ, List.set_cons_zero]
        refine wpT_act (by rw [hops.out]; simp only [List.getElem?_toArray, List.getElem?_cons_succ, List.getElem?_cons_zero]; rfl) (by first | rfl | (rw [hops.out]; rfl)) ?_ ?_
        · go_simp
          refine (H7.out _).mono ?_
          rintro e Wn ⟨rfl, hb⟩
          have hS := HS.out.call hb
          have HS := Lib.hid hS; clear hS
          clear hb
          refine ⟨(by first | exact HS.out | exact HS.out.sub 0 | exact (HS.out.sub 0).sub 0), ?_⟩
          try simp only [Act.put, List.setIfInBounds_toArray, List.set_cons_succ, List.set_cons_zero]
          refine wpT_act (by rw [hops.out]; simp only [List.getElem?_toArray, List.getElem?_cons_succ, List.getElem?_cons_zero]; rfl) (by first | rfl | (rw [hops.out]; rfl)) ?_ trivial
          refine s_al HS.out (by rfl) z24 (by rfl) ?_
          intro b13 Wn hS
          replace hS := al24 hS
          have HS := Lib.hid hS; clear hS
          refine ⟨(by first | exact HS.out | exact HS.out.sub 0 | exact (HS.out.sub 0).sub 0), ?_⟩
          try simp only [Act.put, List.setIfInBounds_toArray, List.set_cons_succ, List.set_cons_zero]
          refine wpT_act (by rw [hops.out]; simp only [List.getElem?_toArray, List.getElem?_cons_succ, List.getElem?_cons_zero]; rfl) (by first | rfl | (rw [hops.out]; rfl)) ?_ trivial
          first | refine st24 HS.out 0 lo (by rfl) (by rfl) (by rfl) (by rfl) ?_ | refine st24 HS.out 1 lo (by rfl) (by rfl) (by rfl) (by rfl) ?_
          intro Wn hS
          have HS := Lib.hid hS; clear hS
          refine ⟨(by first | exact HS.out | exact HS.out.sub 0 | exact (HS.out.sub 0).sub 0), ?_⟩
          try simp only [Act.put, List.setIfInBounds_toArray, List.set_cons_succ, List.set_cons_zero]
          refine wpT_act (by rw [hops.out]; simp only [List.getElem?_toArray, List.getElem?_cons_succ, List.getElem?_cons_zero]; rfl) (by first | rfl | (rw [hops.out]; rfl)) ?_ trivial
          first | refine st24 HS.out 0 q (by rfl) (by rfl) (by rfl) (by rfl) ?_ | refine st24 HS.out 1 q (by rfl) (by rfl) (by rfl) (by rfl) ?_
          intro Wn hS
          have HS := Lib.hid hS; clear hS
          refine ⟨(by first | exact HS.out | exact HS.out.sub 0 | exact (HS.out.sub 0).sub 0), ?_⟩
          try simp only [Act.put, List.setIfInBounds_toArray, List.set_cons_succ, List.set_cons_zero]
          first | exact ⟨rfl, b13, b14, rfl, HS.out⟩ | exact ⟨rfl, b13, b14, rfl, HS.out.swap⟩
        refine wpT_act (by rw [hops.out]; simp only [List.getElem?_toArray, List.getElem?_cons_succ, List.getElem?_cons_zero]; rfl) (by first | rfl | (rw [hops.out]; rfl)) ?_ ?_
        · refine s_al HS.out (by rfl) z24 (by rfl) ?_
          intro b13 Wn hS
          replace hS := al24 hS
          have HS := Lib.hid hS; clear hS
          refine ⟨(by first | exact HS.out | exact HS.out.sub 0 | exact (HS.out.sub 0).sub 0), ?_⟩
          try simp only [Act.put, List.setIfInBounds_toArray, List.set_cons_succ, List.set_cons_zero]
          refine wpT_act (by rw [hops.out]; simp only [List.getElem?_toArray, List.getElem?_cons_succ, List.getElem?_cons_zero]; rfl) (by first | rfl | (rw [hops.out]; rfl)) ?_ trivial
          go_simp
          refine (H7.out _).mono ?_
          rintro e Wn ⟨rfl, hb⟩
          have hS := HS.out.call hb
          have HS := Lib.hid hS; clear hS
          clear hb
          refine ⟨(by first | exact HS.out | exact HS.out.sub 0 | exact (HS.out.sub 0).sub 0), ?_⟩
          try simp only [Act.put, List.setIfInBounds_toArray, List.set_cons_succ, List.set_cons_zero]
          refine wpT_act (by rw [hops.out]; simp only [List.getElem?_toArray, List.getElem?_cons_succ, List.getElem?_cons_zero]; rfl) (by first | rfl | (rw [hops.out]; rfl)) ?_ trivial
          first | refine st24 HS.out 0 lo (by rfl) (by rfl) (by rfl) (by rfl) ?_ | refine st24 HS.out 1 lo (by rfl) (by rfl) (by rfl) (by rfl) ?_
          intro Wn hS
          have HS := Lib.hid hS; clear hS
          refine ⟨(by first | exact HS.out | exact HS.out.sub 0 | exact (HS.out.sub 0).sub 0), ?_⟩
          try simp only [Act.put, List.setIfInBounds_toArray, List.set_cons_succ, List.set_cons_zero]
          refine wpT_act (by rw [hops.out]; simp only [List.getElem?_toArray, List.getElem?_cons_succ, List.getElem?_cons_zero]; rfl) (by first | rfl | (rw [hops.out]; rfl)) ?_ trivial
          first | refine st24 HS.out 0 q (by rfl) (by rfl) (by rfl) (by rfl) ?_ | refine st24 HS.out 1 q (by rfl) (by rfl) (by rfl) (by rfl) ?_
          intro Wn hS
          have HS := Lib.hid hS; clear hS
          refine ⟨(by first | exact HS.out | exact HS.out.sub 0 | exact (HS.out.sub 0).sub 0), ?_⟩
          try simp only [Act.put, List.setIfInBounds_toArray, List.set_cons_succ, List.set_cons_zero]
          first | exact ⟨rfl, b13, b14, rfl, HS.out⟩ | exact ⟨rfl, b13, b14, rfl, HS.out.swap⟩
        exact trivial
      exact trivial
    refine wpT_act (by rw [hops.out]; simp only [List.getElem?_toArray, List.getElem?_cons_succ, List.getElem?_cons_zero]; rfl) (by first | rfl | (rw [hops.out]; rfl)) ?_ ?_
    · refine s_al HS.out (by rfl) z24 (by rfl) ?_
      intro b13 Wn hS
      replace hS := al24 hS
      have HS := Lib.hid hS; clear hS
      refine ⟨(by first | exact HS.out | exact HS.out.sub 0 | exact (HS.out.sub 0).sub 0), ?_⟩
      try simp only [Act.put, List.setIfInBounds_toArray, List.set_cons_succ, List.set_cons_zero]
      refine wpT_act (by rw [hops.out]; simp only [List.getElem?_toArray, List.getElem?_cons_succ, List.getElem?_cons_zero]; rfl) (by first | rfl | (rw [hops.out]; rfl)) ?_ ?_
      · go_simp
        refine (H6.out _).mono ?_
        rintro e Wn ⟨rfl, hb⟩
        have hS := HS.out.call hb
        have HS := Lib.hid hS; clear hS
        clear hb
        refine ⟨(by first | exact HS.out | exact HS.out.sub 0 | exact (HS.out.sub 0).sub 0), ?_⟩
        try simp only [Act.put, List.setIfInBounds_toArray, List.set_cons_succ, List.set_cons_zero]
        refine wpT_act (by rw [hops.out]; simp only [List.getElem?_toArray, List.getElem?_cons_succ, List.getElem?_cons_zero]; rfl) (by first | rfl | (rw [hops.out]; rfl)) ?_ ?_
        · go_simp
          refine (H7.out _).mono ?_
          rintro e Wn ⟨rfl, hb⟩
          have hS := HS.out.call hb
          have HS := Lib.hid hS; clear hS
          clear hb
          refine ⟨(by first | exact HS.out | exact HS.out.sub 0 | exact (HS.out.sub 0).sub 0), ?_⟩
          try simp only [Act.put, List.setIfInBounds_toArray, List.set_cons_succ, List.set_cons_zero]
          refine wpT_act (by rw [hops.out]; simp only [List.getElem?_toArray, List.getElem?_cons_succ, List.getElem?_cons_zero]; rfl) (by first | rfl | (rw [hops.out]; rfl)) ?_ trivial
          refine s_al HS.out (by rfl) z24 (by rfl) ?_
          intro b14 Wn hS
          replace hS := al24 hS
          have HS := Lib.hid hS; clear hS
          refine ⟨(by first | exact HS.out | exact HS.out.sub 0 | exact (HS.out.sub 0).sub 0), ?_⟩
          try simp only [Act.put, List.setIfInBounds_toArray, List.set_cons_succ, List.set_cons_zero]
          refine wpT_act (by rw [hops.out]; simp only [List.getElem?_toArray, List.getElem?_cons_succ, List.getElem?_cons_zero]; rfl) (by first | rfl | (rw [hops.out]; rfl)) ?_ trivial
          first | refine st24 HS.out 0 lo (by rfl) (by rfl) (by rfl) (by rfl) ?_ | refine st24 HS.out 1 lo (by rfl) (by rfl) (by rfl) (by rfl) ?_
          intro Wn hS
          have HS := Lib.hid hS; clear hS
          refine ⟨(by first | exact HS.out | exact HS.out.sub 0 | exact (HS.out.sub 0).sub 0), ?_⟩
          try simp only [Act.put, List.setIfInBounds_toArray, List.set_cons_succ, List.set_cons_zero]
          refine wpT_act (by rw [hops.out]; simp only [List.getElem?_toArray, List.getElem?_cons_succ, List.getElem?_cons_zero]; rfl) (by first | rfl | (rw [hops.out]; rfl)) ?_ trivial
          first | refine st24 HS.out 0 q (by rfl) (by rfl) (by rfl) (by rfl) ?_ | refine st24 HS.out 1 q (by rfl) (by rfl) (by rfl) (by rfl) ?_
          intro Wn hS
          have HS := Lib.hid hS; clear hS
          refine ⟨(by first | exact HS.out | exact HS.out.sub 0 | exact (HS.out.sub 0).sub 0), ?_⟩
          try simp only [Act.put, List.setIfInBounds_toArray, List.set_cons_succ, List.set_cons_zero]
          first | exact ⟨rfl, b13, b14, rfl, HS.out⟩ | exact ⟨rfl, b13, b14, rfl, HS.out.swap⟩
        refine wpT_act (by rw [hops.out]; simp only [List.getElem?_toArray, List.getElem?_cons_succ, List.getElem?_cons_zero]; rfl) (by first | rfl | (rw [hops.out]; rfl)) ?_ ?_
        · refine s_al HS.out (by rfl) z24 (by rfl) ?_
          intro b14 Wn hS
          replace hS := al24 hS
          have HS := Lib.hid hS; clear hS
          refine ⟨(by first | exact HS.out | exact HS.out.sub 0 | exact (HS.out.sub 0).sub 0), ?_⟩
          try simp only [Act.put, List.setIfInBounds_toArray, List.set_cons_succ, List.set_cons_zero]
          refine wpT_act (by rw [hops.out]; simp only [List.getElem?_toArray, List.getElem?_cons_succ, List.getElem?_cons_zero]; rfl) (by first | rfl | (rw [hops.out]; rfl)) ?_ trivial
          go_simp
          refine (H7.out _).mono ?_
          rintro e Wn ⟨rfl, hb⟩
          have hS := HS.out.call hb
          have HS := Lib.hid hS; clear hS
          clear hb
          refine ⟨(by first | exact HS.out | exact HS.out.sub 0 | exact (HS.out.sub 0).sub 0), ?_⟩
          try simp only [Act.put, List.setIfInBounds_toArray, List.set_cons_succ, List.set_cons_zero]
          refine wpT_act (by rw [hops.out]; simp only [List.getElem?_toArray, List.getElem?_cons_succ, List.getElem?_cons_zero]; rfl) (by first | rfl | (rw [hops.out]; rfl)) ?_ trivial
          first | refine st24 HS.out 0 lo (by rfl) (by rfl) (by rfl) (by rfl) ?_ | refine st24 HS.out 1 lo (by rfl) (by rfl) (by rfl) (by rfl) ?_
          intro Wn hS
          have HS := Lib.hid hS; clear hS
          refine ⟨(by first | exact HS.out | exact HS.out.sub 0 | exact (HS.out.sub 0).sub 0), ?_⟩
          try simp only [Act.put, List.setIfInBounds_toArray, List.set_cons_succ, List.set_cons_zero]
          refine wpT_act (by rw [hops.out]; simp only [List.getElem?_toArray, List.getElem?_cons_succ, List.getElem?_cons_zero]; rfl) (by first | rfl | (rw [hops.out]; rfl)) ?_ trivial
          first | refine st24 HS.out 0 q (by rfl) (by rfl) (by rfl) (by rfl) ?_ | refine st24 HS.out 1 q (by rfl) (by rfl) (by rfl) (by rfl) ?_
          intro Wn hS
          have HS := Lib.hid hS; clear hS
          refine ⟨(by first | exact HS.out | exact HS.out.sub 0 | exact (HS.out.sub 0).sub 0), ?_⟩
          try simp only [Act.put, List.setIfInBounds_toArray, List.set_cons_succ, List.set_cons_zero]
          first | exact ⟨rfl, b13, b14, rfl, HS.out⟩ | exact ⟨rfl, b13, b14, rfl, HS.out.swap⟩
        exact trivial
      refine wpT_act (by rw [hops.out]; simp only [List.getElem?_toArray, List.getElem?_cons_succ, List.getElem?_cons_zero]; rfl) (by first | rfl | (rw [hops.out]; rfl)) ?_ ?_
      · refine s_al HS.out (by rfl) z24 (by rfl) ?_
        intro b14 Wn hS
        replace hS := al24 hS
        have HS := Lib.hid hS; clear hS
        refine ⟨(by first | exact HS.out | exact HS.out.sub 0 | exact (HS.out.sub 0).sub 0), ?_⟩
        try simp only [Act.put, List.setIfInBounds_toArray, List.set_cons_succ, List.set_cons_zero]
        refine wpT_act (by rw [hops.out]; simp only [List.getElem?_toArray, List.getElem?_cons_succ, List.getElem?_cons_zero]; rfl) (by first | rfl | (rw [hops.out]; rfl)) ?_ trivial
        go_simp
        refine (H6.out _).mono ?_
        rintro e Wn ⟨rfl, hb⟩
        have hS := HS.out.call hb
        have HS := Lib.hid hS; clear hS
        clear hb
        refine ⟨(by first | exact HS.out | exact HS.out.sub 0 | exact (HS.out.sub 0).sub 0), ?_⟩
        try simp only [Act.put, List.setIfInBounds_toArray, List.set_cons_succ, List.set_cons_zero]
        refine wpT_act (by rw [hops.out]; simp only [List.getElem?_toArray, List.getElem?_cons_succ, List.getElem?_cons_zero]; rfl) (by first | rfl | (rw [hops.out]; rfl)) ?_ trivial
        go_simp
        refine (H7.out _).mono ?_
        rintro e Wn ⟨rfl, hb⟩
        have hS := HS.out.call hb
        have HS := Lib.hid hS; clear hS
        clear hb
        refine ⟨(by first | exact HS.out | exact HS.out.sub 0 | exact (HS.out.sub 0).sub 0), ?_⟩
        try simp only [Act.put, List.setIfInBounds_toArray, List.set_cons_succ, List.set_cons_zero]
        refine wpT_act (by rw [hops.out]; simp only [List.getElem?_toArray, List.getElem?_cons_succ, List.getElem?_cons_zero]; rfl) (by first | rfl | (rw [hops.out]; rfl)) ?_ trivial
        first | refine st24 HS.out 0 lo (by rfl) (by rfl) (by rfl) (by rfl) ?_ | refine st24 HS.out 1 lo (by rfl) (by rfl) (by rfl) (by rfl) ?_
        intro Wn hS
        have HS := Lib.hid hS; clear hS
        refine ⟨(by first | exact HS.out | exact HS.out.sub 0 | exact (HS.out.sub 0).sub 0), ?_⟩
        try simp only [Act.put, List.setIfInBounds_toArray, List.set_cons_succ, List.set_cons_zero]
        refine wpT_act (by rw [hops.out]; simp only [List.getElem?_toArray, List.getElem?_cons_succ, List.getElem?_cons_zero]; rfl) (by first | rfl | (rw [hops.out]; rfl)) ?_ trivial
        first | refine st24 HS.out 0 q (by rfl) (by rfl) (by rfl) (by rfl) ?_ | refine st24 HS.out 1 q (by rfl) (by rfl) (by rfl) (by rfl) ?_
        intro Wn hS
        have HS := Lib.hid hS; clear hS
        refine ⟨(by first | exact HS.out | exact HS.out.sub 0 | exact (HS.out.sub 0).sub 0), ?_⟩
        try simp only [Act.put, List.setIfInBounds_toArray, List.set_cons_succ, List.set_cons_zero]
        first | exact ⟨rfl, b13, b14, rfl, HS.out⟩ | exact ⟨rfl, b13, b14, rfl, HS.out.swap⟩
      exact trivial
    refine wpT_act (by rw [hops.out]; simp only [List.getElem?_toArray, List.getElem?_cons_succ, List.getElem?_cons_zero]; rfl) (by first | rfl | (rw [hops.out]; rfl)) ?_ ?_
    · refine s_al HS.out (by rfl) z24 (by rfl) ?_
      intro b14 Wn hS
      replace hS := al24 hS
      have HS := Lib.hid hS; clear hS
      refine ⟨(by first | exact HS.out | exact HS.out.sub 0 | exact (HS.out.sub 0).sub 0), ?_⟩
      try simp only [Act.put, List.setIfInBounds_toArray, List.set_cons_succ, List.set_cons_zero]
      refine wpT_act (by rw [hops.out]; simp only [List.getElem?_toArray, List.getElem?_cons_succ, List.getElem?_cons_zero]; rfl) (by first | rfl | (rw [hops.out]; rfl)) ?_ ?_
      · go_simp
        refine (H6.out _).mono ?_
        rintro e Wn ⟨rfl, hb⟩
        have hS := HS.out.call hb
        have HS := Lib.hid hS; clear hS
        clear hb
        refine ⟨(by first | exact HS.out | exact HS.out.sub 0 | exact (HS.out.sub 0).sub 0), ?_⟩
        try simp only [Act.put, List.setIfInBounds_toArray, List.set_cons_succ, List.set_cons_zero]
        refine wpT_act (by rw [hops.out]; simp only [List.getElem?_toArray, List.getElem?_cons_succ, List.getElem?_cons_zero]; rfl) (by first | rfl | (rw [hops.out]; rfl)) ?_ ?_
        · go_simp
          refine (H7.out _).mono ?_
          rintro e Wn ⟨rfl, hb⟩
          have hS := HS.out.call hb
          have HS := Lib.hid hS; clear hS
          clear hb
          refine ⟨(by first | exact HS.out | exact HS.out.sub 0 | exact (HS.out.sub 0).sub 0), ?_⟩
          try simp only [Act.put, List.setIfInBounds_toArray, List.set_cons_succ, List.set_cons_zero]
          refine wpT_act (by rw [hops.out]; simp only [List.getElem?_toArray, List.getElem?_cons_succ, List.getElem?_cons_zero]; rfl) (by first | rfl | (rw [hops.out]; rfl)) ?_ trivial
          refine s_al HS.out (by rfl) z24 (by rfl) ?_
          intro b13 Wn hS
          replace hS := al24 hS
          have HS := Lib.hid hS; clear hS
          refine ⟨(by first | exact HS.out | exact HS.out.sub 0 | exact (HS.out.sub 0).sub 0), ?_⟩
          try simp only [Act.put, List.setIfInBounds_toArray, List.set_cons_succ, List.set_cons_zero]
          refine wpT_act (by rw [hops.out]; simp only [List.getElem?_toArray, List.getElem?_cons_succ, List.getElem?_cons_zero]; rfl) (by first | rfl | (rw [hops.out]; rfl)) ?_ trivial
          first | refine st24 HS.out 0 lo (by rfl) (by rfl) (by rfl) (by rfl) ?_ | refine st24 HS.out 1 lo (by rfl) (by rfl) (by rfl) (by rfl) ?_
          intro Wn hS
          have HS := Lib.hid hS; clear hS
          refine ⟨(by first | exact HS.out | exact HS.out.sub 0 | exact (HS.out.sub 0).sub 0), ?_⟩
          try simp only [Act.put, List.setIfInBounds_toArray, List.set_cons_succ, List.set_cons_zero]
          refine wpT_act (by rw [hops.out]; simp only [List.getElem?_toArray, List.getElem?_cons_succ, List.getElem?_cons_zero]; rfl) (by first | rfl | (rw [hops.out]; rfl)) ?_ trivial
          first | refine st24 HS.out 0 q (by rfl) (by rfl) (by rfl) (by rfl) ?_ | refine st24 HS.out 1 q (by rfl) (by rfl) (by rfl) (by rfl) ?_
          intro Wn hS
          have HS := Lib.hid hS; clear hS
          refine ⟨(by first | exact HS.out | exact HS.out.sub 0 | exact (HS.out.sub 0).sub 0), ?_⟩
          try simp only [Act.put, List.setIfInBounds_toArray, List.set_cons_succ, List.set_cons_zero]
          first | exact ⟨rfl, b13, b14, rfl, HS.out⟩ | exact ⟨rfl, b13, b14, rfl, HS.out.swap⟩
        refine wpT_act (by rw [hops.out]; simp only [List.getElem?_toArray, List.getElem?_cons_succ, List.getElem?_cons_zero]; rfl) (by first | rfl | (rw [hops.out]; rfl)) ?_ ?_
        · refine s_al HS.out (by rfl) z24 (by rfl) ?_
          intro b13 Wn hS
          replace hS := al24 hS
          have HS := Lib.hid hS; clear hS
          refine ⟨(by first | exact HS.out | exact HS.out.sub 0 | exact (HS.out.sub 0).sub 0), ?_⟩
          try simp only [Act.put, List.setIfInBounds_toArray, List.set_cons_succ, List.set_cons_zero]
          refine wpT_act (by rw [hops.out]; simp only [List.getElem?_toArray, List.getElem?_cons_succ, List.getElem?_cons_zero]; rfl) (by first | rfl | (rw [hops.out]; rfl)) ?_ trivial
          go_simp
          refine (H7.out _).mono ?_
          rintro e Wn ⟨rfl, hb⟩
          have hS := HS.out.call hb
          have HS := Lib.hid hS; clear hS
          clear hb
          refine ⟨(by first | exact HS.out | exact HS.out.sub 0 | exact (HS.out.sub 0).sub 0), ?_⟩
          try simp only [Act.put, List.setIfInBounds_toArray, List.set_cons_succ, List.set_cons_zero]
          refine wpT_act (by rw [hops.out]; simp only [List.getElem?_toArray, List.getElem?_cons_succ, List.getElem?_cons_zero]; rfl) (by first | rfl | (rw [hops.out]; rfl)) ?_ trivial
          first | refine st24 HS.out 0 lo (by rfl) (by rfl) (by rfl) (by rfl) ?_ | refine st24 HS.out 1 lo (by rfl) (by rfl) (by rfl) (by rfl) ?_
          intro Wn hS
          have HS := Lib.hid hS; clear hS
          refine ⟨(by first | exact HS.out | exact HS.out.sub 0 | exact (HS.out.sub 0).sub 0), ?_⟩
          try simp only [Act.put, List.setIfInBounds_toArray, List.set_cons_succ, List.set_cons_zero]
          refine wpT_act (by rw [hops.out]; simp only [List.getElem?_toArray, List.getElem?_cons_succ, List.getElem?_cons_zero]; rfl) (by first | rfl | (rw [hops.out]; rfl)) ?_ trivial
          first | refine st24 HS.out 0 q (by rfl) (by rfl) (by rfl) (by rfl) ?_ | refine st24 HS.out 1 q (by rfl) (by rfl) (by rfl) (by rfl) ?_
          intro Wn hS
          have HS := Lib.hid hS; clear hS
          refine ⟨(by first | exact HS.out | exact HS.out.sub 0 | exact (HS.out.sub 0).sub 0), ?_⟩
          try simp only [Act.put, List.setIfInBounds_toArray, List.set_cons_succ, List.set_cons_zero]
          first | exact ⟨rfl, b13, b14, rfl, HS.out⟩ | exact ⟨rfl, b13, b14, rfl, HS.out.swap⟩
        exact trivial
      refine wpT_act (by rw [hops.out]; simp only [List.getElem?_toArray, List.getElem?_cons_succ, List.getElem?_cons_zero]; rfl) (by first | rfl | (rw [hops.out]; rfl)) ?_ ?_
      · refine s_al HS.out (by rfl) z24 (by rfl) ?_
        intro b13 Wn hS
        replace hS := al24 hS
        have HS := Lib.hid hS; clear hS
        refine ⟨(by first | exact HS.out | exact HS.out.sub 0 | exact (HS.out.sub 0).sub 0), ?_⟩
        try simp only [Act.put, List.setIfInBounds_toArray, List.set_cons_succ, List.set_cons_zero]
        refine wpT_act (by rw [hops.out]; simp only [List.getElem?_toArray, List.getElem?_cons_succ, List.getElem?_cons_zero]; rfl) (by first | rfl | (rw [hops.out]; rfl)) ?_ trivial
        go_simp
        refine (H6.out _).mono ?_
        rintro e Wn ⟨rfl, hb⟩
        have hS := HS.out.call hb
        have HS := Lib.hid hS; clear hS
        clear hb
        refine ⟨(by first | exact HS.out | exact HS.out.sub 0 | exact (HS.out.sub 0).sub 0), ?_⟩
        try simp only [Act.put, List.setIfInBounds_toArray, List.set_cons_succ, List.set_cons_zero]
        refine wpT_act (by rw [hops.out]; simp only [List.getElem?_toArray, List.getElem?_cons_succ, List.getElem?_cons_zero]; rfl) (by first | rfl | (rw [hops.out]; rfl)) ?_ trivial
        go_simp
        refine (H7.out _).mono ?_
        rintro e Wn ⟨rfl, hb⟩
        have hS := HS.out.call hb
        have HS := Lib.hid hS; clear hS
        clear hb
        refine ⟨(by first | exact HS.out | exact HS.out.sub 0 | exact (HS.out.sub 0).sub 0), ?_⟩
        try simp only [Act.put, List.setIfInBounds_toArray, List.set_cons_succ, List.set_cons_zero]
        refine wpT_act (by rw [hops.out]; simp only [List.getElem?_toArray, List.getElem?_cons_succ, List.getElem?_cons_zero]; rfl) (by first | rfl | (rw [hops.out]; rfl)) ?_ trivial
        first | refine st24 HS.out 0 lo (by rfl) (by rfl) (by rfl) (by rfl) ?_ | refine st24 HS.out 1 lo (by rfl) (by rfl) (by rfl) (by rfl) ?_
        intro Wn hS
        have HS := Lib.hid hS; clear hS
        refine ⟨(by first | exact HS.out | exact HS.out.sub 0 | exact (HS.out.sub 0).sub 0), ?_⟩
        try simp only [Act.put, List.setIfInBounds_toArray, List.set_cons_succ, List.set_cons_zero]
        refine wpT_act (by rw [hops.out]; simp only [List.getElem?_toArray, List.getElem?_cons_succ, List.getElem?_cons_zero]; rfl) (by first | rfl | (rw [hops.out]; rfl)) ?_ trivial
        first | refine st24 HS.out 0 q (by rfl) (by rfl) (by rfl) (by rfl) ?_ | refine st24 HS.out 1 q (by rfl) (by rfl) (by rfl) (by rfl) ?_
        intro Wn hS
        have HS := Lib.hid hS; clear hS
        refine ⟨(by first | exact HS.out | exact HS.out.sub 0 | exact (HS.out.sub 0).sub 0), ?_⟩
        try simp only [Act.put, List.setIfInBounds_toArray, List.set_cons_succ, List.set_cons_zero]
        first | exact ⟨rfl, b13, b14, rfl, HS.out⟩ | exact ⟨rfl, b13, b14, rfl, HS.out.swap⟩
      exact trivial
    exact trivial
  case hK =>
    intro b13 b14 Wn hS
    clear HS; have HS := Lib.hid hS; clear hS
    as_aux_lemma =>
      go_wp2_with (first
        | (refine atd 41 (by rfl) ?_; refine wl (by rfl) (ld24 HS.out 6 (by rfl) (by rfl) (by rfl) ?_))
        | (go_at_call 26; (first | refine (H8.out _).mono ?_); rintro e Wn ⟨rfl, hb⟩; have hS := HS.out.call hb; clear hb; clear HS; have HS := Lib.hid hS; clear hS)
        | (refine atd 47 (by rfl) ?_; refine wl (by rfl) (ld24 HS.out 1 (by rfl) (by rfl) (by rfl) ?_))
        | (refine atd 48 (by rfl) ?_; refine wl (by rfl) (ld24 HS.out 5 (by rfl) (by rfl) (by rfl) ?_))
        | (refine atd 56 (by rfl) ?_; refine wl (by rfl) (ld24 HS.out 0 (by rfl) (by rfl) (by rfl) ?_))
        | (refine atd 57 (by rfl) ?_; refine wl (by rfl) (ld24 HS.out 3 (by rfl) (by rfl) (by rfl) ?_)))
      have s3 := S3.out
      refine wp_region_pi [(0, true), (2, true), (4, true), (1, false), (3, false), (5, true), (6, true), (7, true), (8, true), (9, true), (11, true), (10, false), (12, true), (13, true), (14, true), (15, true), (16, true), (18, true), (17, false), (19, true), (20, true), (21, true), (22, true), (23, true), (24, true), (25, true), (27, true), (29, true), (26, false), (28, false), (30, true), (31, true), (32, true), (33, true), (34, true), (35, true)] (by kernel_rfl) (by kernel_rfl) rfl (by kernel_rfl) (fun _ _ _ _ _ h => h) (fun w' => St w w' [Blk b14 (wc q).toList 24, Blk b13 (wc lo).toList 24, Blk b11 (wc r0).toList 24, Blk b10 (wc q).toList 24, Blk b9 (wc hi).toList 24, Blk b8 (wc lo).toList 24, Blk b7 (wc p).toList 24, Blk b2 (wc a).toList 24] []) HS.out.drew ?_
      intro OPS hops
      have hS := HS.out.drew
      clear HS; have HS := Lib.hid hS; clear hS
      iterate 3
        first | (refine wpPi_yield _ (by rw [hops.out]; simp only [List.getElem?_toArray, List.getElem?_cons_succ, List.getElem?_cons_zero]; rfl) (by first | rfl | (rw [hops.out]; rfl)) (fun w' hS => by first | exact ldw hS 0 (by rfl) (by rfl) (by rfl) | exact ldw hS 7 (by rfl) (by rfl) (by rfl) | exact ldw hS 1 (by rfl) (by rfl) (by rfl) | (go_simp; rfl)) ?_; simp only [Act.put, List.setIfInBounds_toArray, List.set_cons_succ, List.set_cons_zero]) | (refine wpPi_skip (by rw [hops.out]; simp only [List.getElem?_toArray, List.getElem?_cons_succ, List.getElem?_cons_zero]; rfl) (by first | rfl | (rw [hops.out]; rfl)) ?_; simp only [Act.put, List.setIfInBounds_toArray, List.set_cons_succ, List.set_cons_zero])
      refine wpPi_act (by rw [hops.out]; simp only [List.getElem?_toArray, List.getElem?_cons_succ, List.getElem?_cons_zero]; rfl) (by first | rfl | (rw [hops.out]; rfl)) ?_
      go_simp
      refine (H9.out _).mono ?_
      rintro e Wn ⟨rfl, hb⟩
      have hS := HS.out.call hb
      clear HS; have HS := Lib.hid hS; clear hS
      clear hb
      refine ⟨HS.out, ?_⟩
      try simp only [Act.put, List.setIfInBounds_toArray, List.set_cons_succ, List.set_cons_zero]
      refine wpPi_act (by rw [hops.out]; simp only [List.getElem?_toArray, List.getElem?_cons_succ, List.getElem?_cons_zero]; rfl) (by first | rfl | (rw [hops.out]; rfl)) ?_
      go_simp
      refine (H10.out _).mono ?_
      rintro e Wn ⟨rfl, hb⟩
      have hS := HS.out.call hb
      clear HS; have HS := Lib.hid hS; clear hS
      clear hb
      refine ⟨HS.out, ?_⟩
      try simp only [Act.put, List.setIfInBounds_toArray, List.set_cons_succ, List.set_cons_zero]
      iterate 6
        first | (refine wpPi_yield _ (by rw [hops.out]; simp only [List.getElem?_toArray, List.getElem?_cons_succ, List.getElem?_cons_zero]; rfl) (by first | rfl | (rw [hops.out]; rfl)) (fun w' hS => by first | exact ldw hS 0 (by rfl) (by rfl) (by rfl) | exact ldw hS 7 (by rfl) (by rfl) (by rfl) | exact ldw hS 1 (by rfl) (by rfl) (by rfl) | (go_simp; rfl)) ?_; simp only [Act.put, List.setIfInBounds_toArray, List.set_cons_succ, List.set_cons_zero]) | (refine wpPi_skip (by rw [hops.out]; simp only [List.getElem?_toArray, List.getElem?_cons_succ, List.getElem?_cons_zero]; rfl) (by first | rfl | (rw [hops.out]; rfl)) ?_; simp only [Act.put, List.setIfInBounds_toArray, List.set_cons_succ, List.set_cons_zero])
      refine wpPi_act (by rw [hops.out]; simp only [List.getElem?_toArray, List.getElem?_cons_succ, List.getElem?_cons_zero]; rfl) (by first | rfl | (rw [hops.out]; rfl)) ?_
      go_simp
      refine (H10.out _).mono ?_
      rintro e Wn ⟨rfl, hb⟩
      have hS := HS.out.call hb
      clear HS; have HS := Lib.hid hS; clear hS
      clear hb
      refine ⟨HS.out, ?_⟩
      try simp only [Act.put, List.setIfInBounds_toArray, List.set_cons_succ, List.set_cons_zero]
      iterate 6
        first | (refine wpPi_yield _ (by rw [hops.out]; simp only [List.getElem?_toArray, List.getElem?_cons_succ, List.getElem?_cons_zero]; rfl) (by first | rfl | (rw [hops.out]; rfl)) (fun w' hS => by first | exact ldw hS 0 (by rfl) (by rfl) (by rfl) | exact ldw hS 7 (by rfl) (by rfl) (by rfl) | exact ldw hS 1 (by rfl) (by rfl) (by rfl) | (go_simp; rfl)) ?_; simp only [Act.put, List.setIfInBounds_toArray, List.set_cons_succ, List.set_cons_zero]) | (refine wpPi_skip (by rw [hops.out]; simp only [List.getElem?_toArray, List.getElem?_cons_succ, List.getElem?_cons_zero]; rfl) (by first | rfl | (rw [hops.out]; rfl)) ?_; simp only [Act.put, List.setIfInBounds_toArray, List.set_cons_succ, List.set_cons_zero])
      refine wpPi_actSkip (by rw [hops.out]; simp only [List.getElem?_toArray, List.getElem?_cons_succ, List.getElem?_cons_zero]; rfl) (by first | rfl | (rw [hops.out]; rfl)) ?_ ?_
      · exact HS.out
      simp only [Act.put, List.setIfInBounds_toArray, List.set_cons_succ, List.set_cons_zero]
      iterate 9
        first | (refine wpPi_yield _ (by rw [hops.out]; simp only [List.getElem?_toArray, List.getElem?_cons_succ, List.getElem?_cons_zero]; rfl) (by first | rfl | (rw [hops.out]; rfl)) (fun w' hS => by first | exact ldw hS 0 (by rfl) (by rfl) (by rfl) | exact ldw hS 7 (by rfl) (by rfl) (by rfl) | exact ldw hS 1 (by rfl) (by rfl) (by rfl) | (go_simp; rfl)) ?_; simp only [Act.put, List.setIfInBounds_toArray, List.set_cons_succ, List.set_cons_zero]) | (refine wpPi_skip (by rw [hops.out]; simp only [List.getElem?_toArray, List.getElem?_cons_succ, List.getElem?_cons_zero]; rfl) (by first | rfl | (rw [hops.out]; rfl)) ?_; simp only [Act.put, List.setIfInBounds_toArray, List.set_cons_succ, List.set_cons_zero])
      refine wpPi_actSkip (by rw [hops.out]; simp only [List.getElem?_toArray, List.getElem?_cons_succ, List.getElem?_cons_zero]; rfl) (by first | rfl | (rw [hops.out]; rfl)) ?_ ?_
      · exact HS.out
      simp only [Act.put, List.setIfInBounds_toArray, List.set_cons_succ, List.set_cons_zero]
      refine wpPi_actSkip (by rw [hops.out]; simp only [List.getElem?_toArray, List.getElem?_cons_succ, List.getElem?_cons_zero]; rfl) (by first | rfl | (rw [hops.out]; rfl)) ?_ ?_
      · exact HS.out
      simp only [Act.put, List.setIfInBounds_toArray, List.set_cons_succ, List.set_cons_zero]
      iterate 6
        first | (refine wpPi_yield _ (by rw [hops.out]; simp only [List.getElem?_toArray, List.getElem?_cons_succ, List.getElem?_cons_zero]; rfl) (by first | rfl | (rw [hops.out]; rfl)) (fun w' hS => by first | exact ldw hS 0 (by rfl) (by rfl) (by rfl) | exact ldw hS 7 (by rfl) (by rfl) (by rfl) | exact ldw hS 1 (by rfl) (by rfl) (by rfl) | (go_simp; rfl)) ?_; simp only [Act.put, List.setIfInBounds_toArray, List.set_cons_succ, List.set_cons_zero]) | (refine wpPi_skip (by rw [hops.out]; simp only [List.getElem?_toArray, List.getElem?_cons_succ, List.getElem?_cons_zero]; rfl) (by first | rfl | (rw [hops.out]; rfl)) ?_; simp only [Act.put, List.setIfInBounds_toArray, List.set_cons_succ, List.set_cons_zero])
      simp only [wpPi]
      clear OPS hops
      clear s3
      go_wp2_with (first
        | (refine atd 96 (by rfl) ?_; refine wl (by rfl) (ld24 HS.out 7 (by rfl) (by rfl) (by rfl) ?_))
        | (go_at_call 21; (first | refine (H13.out _).mono ?_); rintro e Wn ⟨rfl, hb⟩; have hS := HS.out.call hb; clear hb; clear HS; have HS := Lib.hid hS; clear hS)
        | (go_at_call 23; (first | refine (H14.out _).mono ?_); rintro e Wn ⟨rfl, hb⟩; have hS := HS.out.call hb; clear hb; clear HS; have HS := Lib.hid hS; clear hS)
        | (refine atd 15 (by rfl) ?_; refine wl (by rfl) (s_al HS.out (by rfl) z24 (by rfl) ?_); intro b15 Wn hS; replace hS := al24 hS; clear HS; have HS := Lib.hid hS; clear hS)
        | (refine sto 15 (by rfl) ?_; refine wl (by rfl) (st24 HS.out 0 hh (by rfl) (by rfl) (by rfl) (by rfl) ?_); intro Wn hS; clear HS; have HS := Lib.hid hS; clear hS))
      refine wp_region_pi [(0, true), (1, true), (2, true), (3, true), (4, false), (5, true), (6, true), (7, true), (8, true), (9, true), (10, true), (12, true), (13, true), (14, true), (15, true), (17, true), (11, false), (16, false), (18, true), (19, true), (20, true)] (by kernel_rfl) (by kernel_rfl) rfl (by kernel_rfl) (fun _ _ _ _ _ h => h) (fun w' => St w w' [Blk b15 (wc hh).toList 24, Blk b14 (wc q).toList 24, Blk b13 (wc lo).toList 24, Blk b11 (wc r0).toList 24, Blk b10 (wc q).toList 24, Blk b9 (wc hi).toList 24, Blk b8 (wc lo).toList 24, Blk b7 (wc p).toList 24, Blk b2 (wc a).toList 24] []) HS.out.drew ?_
      intro OPS hops
      have hS := HS.out.drew
      clear HS; have HS := Lib.hid hS; clear hS
      iterate 4
        first | (refine wpPi_yield _ (by rw [hops.out]; simp only [List.getElem?_toArray, List.getElem?_cons_succ, List.getElem?_cons_zero]; rfl) (by first | rfl | (rw [hops.out]; rfl)) (fun w' hS => by first | exact ldw hS 0 (by rfl) (by rfl) (by rfl) | exact ldw hS 8 (by rfl) (by rfl) (by rfl) | exact ldw hS 2 (by rfl) (by rfl) (by rfl) | (go_simp; rfl)) ?_; simp only [Act.put, List.setIfInBounds_toArray, List.set_cons_succ, List.set_cons_zero]) | (refine wpPi_skip (by rw [hops.out]; simp only [List.getElem?_toArray, List.getElem?_cons_succ, List.getElem?_cons_zero]; rfl) (by first | rfl | (rw [hops.out]; rfl)) ?_; simp only [Act.put, List.setIfInBounds_toArray, List.set_cons_succ, List.set_cons_zero])
      refine wpPi_act (by rw [hops.out]; simp only [List.getElem?_toArray, List.getElem?_cons_succ, List.getElem?_cons_zero]; rfl) (by first | rfl | (rw [hops.out]; rfl)) ?_
      go_simp
      refine (H15.out _).mono ?_
      rintro e Wn ⟨rfl, hb⟩
      have hS := HS.out.call hb
      clear HS; have HS := Lib.hid hS; clear hS
      clear hb
      refine ⟨HS.out, ?_⟩
      try simp only [Act.put, List.setIfInBounds_toArray, List.set_cons_succ, List.set_cons_zero]
      iterate 11
        first | (refine wpPi_yield _ (by rw [hops.out]; simp only [List.getElem?_toArray, List.getElem?_cons_succ, List.getElem?_cons_zero]; rfl) (by first | rfl | (rw [hops.out]; rfl)) (fun w' hS => by first | exact ldw hS 0 (by rfl) (by rfl) (by rfl) | exact ldw hS 8 (by rfl) (by rfl) (by rfl) | exact ldw hS 2 (by rfl) (by rfl) (by rfl) | (go_simp; rfl)) ?_; simp only [Act.put, List.setIfInBounds_toArray, List.set_cons_succ, List.set_cons_zero]) | (refine wpPi_skip (by rw [hops.out]; simp only [List.getElem?_toArray, List.getElem?_cons_succ, List.getElem?_cons_zero]; rfl) (by first | rfl | (rw [hops.out]; rfl)) ?_; simp only [Act.put, List.setIfInBounds_toArray, List.set_cons_succ, List.set_cons_zero])
      refine wpPi_act (by rw [hops.out]; simp only [List.getElem?_toArray, List.getElem?_cons_succ, List.getElem?_cons_zero]; rfl) (by first | rfl | (rw [hops.out]; rfl)) ?_
      go_simp
      refine (H13.out _).mono ?_
      rintro e Wn ⟨rfl, hb⟩
      have hS := HS.out.call hb
      clear HS; have HS := Lib.hid hS; clear hS
      clear hb
      refine ⟨HS.out, ?_⟩
      try simp only [Act.put, List.setIfInBounds_toArray, List.set_cons_succ, List.set_cons_zero]
      refine wpPi_act (by rw [hops.out]; simp only [List.getElem?_toArray, List.getElem?_cons_succ, List.getElem?_cons_zero]; rfl) (by first | rfl | (rw [hops.out]; rfl)) ?_
      go_simp
      refine (H16.out _).mono ?_
      rintro e Wn ⟨rfl, hb⟩
      have hS := HS.out.call hb
      clear HS; have HS := Lib.hid hS; clear hS
      clear hb
      refine ⟨HS.out, ?_⟩
      try simp only [Act.put, List.setIfInBounds_toArray, List.set_cons_succ, List.set_cons_zero]
      iterate 3
        first | (refine wpPi_yield _ (by rw [hops.out]; simp only [List.getElem?_toArray, List.getElem?_cons_succ, List.getElem?_cons_zero]; rfl) (by first | rfl | (rw [hops.out]; rfl)) (fun w' hS => by first | exact ldw hS 0 (by rfl) (by rfl) (by rfl) | exact ldw hS 8 (by rfl) (by rfl) (by rfl) | exact ldw hS 2 (by rfl) (by rfl) (by rfl) | (go_simp; rfl)) ?_; simp only [Act.put, List.setIfInBounds_toArray, List.set_cons_succ, List.set_cons_zero]) | (refine wpPi_skip (by rw [hops.out]; simp only [List.getElem?_toArray, List.getElem?_cons_succ, List.getElem?_cons_zero]; rfl) (by first | rfl | (rw [hops.out]; rfl)) ?_; simp only [Act.put, List.setIfInBounds_toArray, List.set_cons_succ, List.set_cons_zero])
      simp only [wpPi]
      clear OPS hops
      go_wp2_with fail
      go_ret
      exact ⟨rfl, HS.out.below⟩
end
end Go.Proofs.Ytkbambojnifjcaa
