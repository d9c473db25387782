/- Contracts and words that the laws stand on (RfB). -/
import Derived.Test.YteljmpoaggfliaaTrdB
import Derived.Test.YteljmpoaggfliaaRfA
import Derived.Test.YteljmpoaggfliaaTrdC
set_option linter.unusedVariables false
set_option linter.unusedSimpArgs false
namespace Go.Proofs.Yteljmpoaggfliaa
section
open Go Go.RowKit Go.Proofs
/-! Plain: the reference's first transaction, by places. -/
theorem pm_none {α : Type} {V : List UInt8 → α} {M : List UInt8 → List UInt8} {B : List UInt8 → Bool} {xs : List UInt8} (h : getSize xs = none) : pMany V M B xs = none := by unfold pMany; rw [h]
theorem pm_big {α : Type} {V : List UInt8 → α} {M : List UInt8 → List UInt8} {B : List UInt8 → Bool} {xs : List UInt8} {n k : Nat} (h : getSize xs = some (n, k)) (hn : 50 < n) : pMany V M B xs = none := by
  unfold pMany; rw [h]; simp only; rw [if_neg (by omega)]
theorem pm_many {α : Type} {V : List UInt8 → α} {M : List UInt8 → List UInt8} {B : List UInt8 → Bool} {xs : List UInt8} {n k : Nat} (h : getSize xs = some (n, k)) (hn : n ≤ 50) : pMany V M B xs = rMany V M B n (xs.drop k) := by
  unfold pMany; rw [h]; simp only; rw [if_pos hn]
section
variable {zs r1 r2 : List UInt8} {l7 : List TIn} {l8 : List TOut}
theorem nM4 {zs : List UInt8} (h4 : 4 ≤ zs.length) : numM 4 zs = zs.drop 4 := by unfold numM; rw [if_pos h4]
theorem pT_a (h : zs.length < 4) : pTx zs = none := by unfold pTx; rw [if_neg (by omega)]
theorem pT_none1 (h4 : 4 ≤ zs.length) (h : pMany rInV rInM rInB (zs.drop 4) = none) : pTx zs = none := by
  unfold pTx; rw [if_pos h4, nM4 h4, h]
theorem pT_none2 (h4 : 4 ≤ zs.length) (h1 : pMany rInV rInM rInB (zs.drop 4) = some (l7, r1)) (h : pMany rOutV rOutM rOutB r1 = none) : pTx zs = none := by
  unfold pTx; rw [if_pos h4, nM4 h4, h1]; simp only; rw [h]
theorem pT_all (h4 : 4 ≤ zs.length) (h1 : pMany rInV rInM rInB (zs.drop 4) = some (l7, r1)) (h2 : pMany rOutV rOutM rOutB r1 = some (l8, r2)) : pTx zs = if 4 ≤ r2.length then (if chkT ⟨numN 4 zs, l7, l8, numN 4 r2⟩ then some (⟨numN 4 zs, l7, l8, numN 4 r2⟩, numM 4 r2) else none) else none := by
  unfold pTx; rw [if_pos h4, nM4 h4, h1]; simp only; rw [h2]
theorem pT_short (h4 : 4 ≤ zs.length) (h1 : pMany rInV rInM rInB (zs.drop 4) = some (l7, r1)) (h2 : pMany rOutV rOutM rOutB r1 = some (l8, r2)) (h : r2.length < 4) : pTx zs = none := by
  rw [pT_all h4 h1 h2, if_neg (by omega)]
theorem chk_0 {v k : Nat} {l8 : List TOut} : chkT ⟨v, [], l8, k⟩ = false := by simp [chkT]
theorem chk_1 {v k : Nat} {l7 : List TIn} : chkT ⟨v, l7, [], k⟩ = false := by simp [chkT]
theorem pT_zero1 (h4 : 4 ≤ zs.length) (h1 : pMany rInV rInM rInB (zs.drop 4) = some ([], r1)) : pTx zs = none := by
  cases h2 : pMany rOutV rOutM rOutB r1 with
  | none => exact pT_none2 h4 h1 h2
  | some p =>
    obtain ⟨l8, r2⟩ := p
    rw [pT_all h4 h1 h2, chk_0]
    split <;> rfl
theorem pT_zero2 (h4 : 4 ≤ zs.length) (h1 : pMany rInV rInM rInB (zs.drop 4) = some (l7, r1)) (h2 : pMany rOutV rOutM rOutB r1 = some ([], r2)) : pTx zs = none := by
  rw [pT_all h4 h1 h2, chk_1]
  split <;> rfl
theorem pT_good (h4 : 4 ≤ zs.length) (h1 : pMany rInV rInM rInB (zs.drop 4) = some (l7, r1)) (h2 : pMany rOutV rOutM rOutB r1 = some (l8, r2)) (h : 4 ≤ r2.length) (c1 : 1 ≤ l7.length) (c2 : 1 ≤ l8.length) : pTx zs = some (⟨numN 4 zs, l7, l8, numN 4 r2⟩, r2.drop 4) := by
  obtain ⟨_, e1, o1⟩ := pMany_back (E := inB) (p := fun y => y.s.length ≤ 2000) (fun xs hB => ⟨(rIn_back hB).1, (rIn_back hB).2⟩) h1
  obtain ⟨_, e2, o2⟩ := pMany_back (E := outB) (p := fun y => y.s.length ≤ 2000) (fun xs hB => ⟨(rOut_back hB).1, (rOut_back hB).2⟩) h2
  rw [pT_all h4 h1 h2, if_pos h, if_pos (chkT_iff.2 ⟨⟨c1, e1, c2, e2⟩, o1, o2⟩), nM4 h]
end
/-- A rest, by its place. -/
theorem suf_at {zs r : List UInt8} {p : Nat} (h : ∃ q, r = (zs.drop p).drop q) : zs.drop (zs.length - r.length) = r ∧ zs.length - r.length ≤ zs.length := by
  obtain ⟨q, rfl⟩ := h
  refine ⟨?_, by omega⟩
  rw [List.drop_drop, List.length_drop]
  by_cases hq : p + q ≤ zs.length
  · rw [show zs.length - (zs.length - (p + q)) = p + q by omega]
  · rw [List.drop_of_length_le (by omega), List.drop_of_length_le (by omega)]
theorem numM_suf (k : Nat) (l : List UInt8) : ∃ q, numM k l = l.drop q := by
  unfold numM; split
  · exact ⟨k, rfl⟩
  · exact ⟨0, rfl⟩
theorem bytM_suf (l : List UInt8) : ∃ q, bytM l = l.drop q := by
  unfold bytM; split
  · exact ⟨_, rfl⟩
  · exact ⟨0, rfl⟩
theorem suf_trans {l m r : List UInt8} (h : ∃ q, m = l.drop q) (k : ∃ q, r = m.drop q) : ∃ q, r = l.drop q := by
  obtain ⟨a, rfl⟩ := h
  obtain ⟨b, rfl⟩ := k
  exact ⟨a + b, by rw [List.drop_drop]⟩
theorem rInM_suf (l : List UInt8) : ∃ q, rInM l = l.drop q := by
  unfold rInM rIn2
  exact suf_trans (suf_trans (suf_trans (numM_suf 32 l) (numM_suf 4 _)) (bytM_suf _)) (numM_suf 4 _)
theorem rOutM_suf (l : List UInt8) : ∃ q, rOutM l = l.drop q := by
  unfold rOutM
  exact suf_trans (numM_suf 8 l) (bytM_suf _)
end
section
open Go Go.RowKit Go.Proofs
attribute [local go_sem] Oper.semAt_some
attribute [local irreducible] Calls
theorem tx4_one (a b : Int) (A : Option Addr) (n c : Nat) (B : Option Addr) (m d : Nat) : ∀ v ∈ [Value.int .u32 a, .slice A n c, .slice B m d, .int .u32 b], v.oneCell' = true := by
  intro v hv; simp at hv; rcases hv with rfl | rfl | rfl | rfl <;> rfl
set_option maxHeartbeats 1000000 in
set_option maxRecDepth 100000 in
theorem rf29_a (Av : Option Addr) (cv : Nat) (zs : List UInt8) (w : World) (hv : HB w (.slice Av zs.length cv) zs) (hl : zs.length ≤ 20000) (h4 : zs.length < 4) :
    Calls Try.prog 29 #[.slice Av zs.length cv] w fun e w' => FirP zs w e w' := by
  have HS := Lib.hid ((St.start w).addF hv.away0)
  clear hv
  have HP := Lib.hid (pT_a h4)
  go_enter Try.func29, Try.ntmps29
  go_wp2_with (first
    | go_skip
    | (refine atd 2 (by rfl) ?_; refine wl (by rfl) (s_al (l := Z4) HS.out (by rfl) z55 (by rfl) ?_); intro b2 Wn hS; clear HS; have HS := Lib.hid hS; clear hS)
    | (refine atd 5 (by rfl) ?_; refine wl (by rfl) (s_al (l := Z4) HS.out (by rfl) z55 (by rfl) ?_); intro b5 Wn hS; clear HS; have HS := Lib.hid hS; clear hS)
    | (refine sto 5 (by rfl) ?_; refine wl (by rfl) (s_sta (cs := Z4) HS.out 0 4 (by rfl) (by rfl) (by rfl) ag55 (by rfl) (by rfl) Z4_one (by exact Nat.le_refl _) ?_); intro Wn hS; clear HS; have HS := Lib.hid hS; clear hS)
    | (go_at_call 85; refine (rfix_no 4 (j := 0) (by decide) (HS.out.fact (i := 0) rfl) hl (Nat.zero_le _) (by omega)).mono ?_; rintro e Wn ⟨rfl, hb⟩; subst hb)
    | (refine atd 26 (by rfl) ?_; refine wl (by rfl) (wp_of_run (run_b55z (by rfl)) ?_))
    | (refine sto 2 (by rfl) ?_; refine wl (by rfl) (s_sta (cs := Z4) HS.out 1 4 (by rfl) (by rfl) (by rfl) ag55 (by rfl) (by rfl) Z4_one (by exact Nat.le_refl _) ?_); intro Wn hS; clear HS; have HS := Lib.hid hS; clear hS))
  exact bodyPost_ret (ret_c55tt (p := 2) (u := 3) (q := 4) rfl _ b2 _ 55 (0, 0) (.int .i64 0) (.int .i64 60) (by rfl) (by rfl) (by rfl) (HS.out.blk (i := 1) rfl) (by rfl)) rfl (.inl ⟨HP.out, rfl, HS.out.below⟩)
set_option maxHeartbeats 1000000 in
set_option maxRecDepth 100000 in
theorem rf29_b (Av : Option Addr) (cv : Nat) (zs : List UInt8) (w : World) (hv : HB w (.slice Av zs.length cv) zs) (hl : zs.length ≤ 20000) (h4 : 4 ≤ zs.length) (hg : getSize (zs.drop 4) = none) :
    Calls Try.prog 29 #[.slice Av zs.length cv] w fun e w' => FirP zs w e w' := by
  have HS := Lib.hid ((St.start w).addF hv.away0)
  clear hv
  have HP := Lib.hid (pT_none1 h4 (pm_none hg)); have HGZ := Lib.hid hg
  clear hg
  go_enter Try.func29, Try.ntmps29
  go_wp2_with (first
    | go_skip
    | (refine atd 2 (by rfl) ?_; refine wl (by rfl) (s_al (l := Z4) HS.out (by rfl) z55 (by rfl) ?_); intro b2 Wn hS; clear HS; have HS := Lib.hid hS; clear hS)
    | (refine atd 5 (by rfl) ?_; refine wl (by rfl) (s_al (l := Z4) HS.out (by rfl) z55 (by rfl) ?_); intro b5 Wn hS; clear HS; have HS := Lib.hid hS; clear hS)
    | (refine sto 5 (by rfl) ?_; refine wl (by rfl) (s_sta (cs := Z4) HS.out 0 4 (by rfl) (by rfl) (by rfl) ag55 (by rfl) (by rfl) Z4_one (by exact Nat.le_refl _) ?_); intro Wn hS; clear HS; have HS := Lib.hid hS; clear hS)
    | (go_at_call 85; refine (rfix_ok 4 (j := 0) (p := 4) rfl (by decide) (HS.out.fact (i := 0) rfl) hl h4).mono ?_; rw [List.drop_zero]; (try rw [HN0.out]); rintro e Wn ⟨rfl, hb⟩; have hS := HS.out.call hb; clear hb; clear HS; have HS := Lib.hid hS; clear hS)
    | (go_at_call 86; refine (rsiz_no (j := 4) (HS.out.fact (i := 0) rfl) hl h4 HGZ.out).mono ?_; rintro e Wn ⟨rfl, hb⟩; have hS := HS.out.call hb; clear hb; clear HS; have HS := Lib.hid hS; clear hS)
    | (refine atd 44 (by rfl) ?_; refine wl (by rfl) (wp_of_run (run_b55z (by rfl)) ?_))
    | (refine sto 2 (by rfl) ?_; refine wl (by rfl) (s_sta (cs := Z4) HS.out 1 4 (by rfl) (by rfl) (by rfl) ag55 (by rfl) (by rfl) Z4_one (by exact Nat.le_refl _) ?_); intro Wn hS; clear HS; have HS := Lib.hid hS; clear hS))
  exact bodyPost_ret (ret_c55tt (p := 2) (u := 3) (q := 4) rfl _ b2 _ 55 (0, 0) (.int .i64 0) (.int .i64 60) (by rfl) (by rfl) (by rfl) (HS.out.blk (i := 1) rfl) (by rfl)) rfl (.inl ⟨HP.out, rfl, HS.out.below⟩)
set_option maxHeartbeats 1000000 in
set_option maxRecDepth 100000 in
theorem rf29_c (Av : Option Addr) (cv : Nat) (zs : List UInt8) (w : World) (hv : HB w (.slice Av zs.length cv) zs) (hl : zs.length ≤ 20000) (h4 : 4 ≤ zs.length) {k : Nat} (hg : getSize (zs.drop 4) = some (0, k)) :
    Calls Try.prog 29 #[.slice Av zs.length cv] w fun e w' => FirP zs w e w' := by
  have HS := Lib.hid ((St.start w).addF hv.away0)
  clear hv
  have HP := Lib.hid (pT_zero1 h4 (r1 := (zs.drop 4).drop k) (by rw [pm_many hg (by omega)]; rfl)); have HGZ := Lib.hid hg
  obtain ⟨q1, hq⟩ : ∃ q, 4 + k = q := ⟨_, rfl⟩
  have HQE := Lib.hid hq
  clear hg hq
  go_enter Try.func29, Try.ntmps29
  go_wp2_with (first
    | go_skip
    | (refine atd 2 (by rfl) ?_; refine wl (by rfl) (s_al (l := Z4) HS.out (by rfl) z55 (by rfl) ?_); intro b2 Wn hS; clear HS; have HS := Lib.hid hS; clear hS)
    | (refine atd 5 (by rfl) ?_; refine wl (by rfl) (s_al (l := Z4) HS.out (by rfl) z55 (by rfl) ?_); intro b5 Wn hS; clear HS; have HS := Lib.hid hS; clear hS)
    | (refine sto 5 (by rfl) ?_; refine wl (by rfl) (s_sta (cs := Z4) HS.out 0 4 (by rfl) (by rfl) (by rfl) ag55 (by rfl) (by rfl) Z4_one (by exact Nat.le_refl _) ?_); intro Wn hS; clear HS; have HS := Lib.hid hS; clear hS)
    | (go_at_call 85; refine (rfix_ok 4 (j := 0) (p := 4) rfl (by decide) (HS.out.fact (i := 0) rfl) hl h4).mono ?_; rw [List.drop_zero]; (try rw [HN0.out]); rintro e Wn ⟨rfl, hb⟩; have hS := HS.out.call hb; clear hb; clear HS; have HS := Lib.hid hS; clear hS)
    | (go_at_call 86; refine (rsiz_ok (j := 4) HQE.out (HS.out.fact (i := 0) rfl) hl h4 HGZ.out).mono ?_; rintro e Wn ⟨rfl, hb⟩; have hS := HS.out.call hb; clear hb; clear HS; have HS := Lib.hid hS; clear hS)
    | (refine atd 44 (by rfl) ?_; refine wl (by rfl) (wp_of_run (run_b55z (by rfl)) ?_))
    | (refine sto 2 (by rfl) ?_; refine wl (by rfl) (s_sta (cs := Z4) HS.out 1 4 (by rfl) (by rfl) (by rfl) ag55 (by rfl) (by rfl) Z4_one (by exact Nat.le_refl _) ?_); intro Wn hS; clear HS; have HS := Lib.hid hS; clear hS))
  exact bodyPost_ret (ret_c55tt (p := 2) (u := 3) (q := 4) rfl _ b2 _ 55 (0, 0) (.int .i64 0) (.int .i64 60) (by rfl) (by rfl) (by rfl) (HS.out.blk (i := 1) rfl) (by rfl)) rfl (.inl ⟨HP.out, rfl, HS.out.below⟩)
set_option maxHeartbeats 1000000 in
set_option maxRecDepth 100000 in
theorem rf29_d (Av : Option Addr) (cv : Nat) (zs : List UInt8) (w : World) (hv : HB w (.slice Av zs.length cv) zs) (hl : zs.length ≤ 20000) (h4 : 4 ≤ zs.length) {n k : Nat} (hn : 50 < n) (hg : getSize (zs.drop 4) = some (n, k)) :
    Calls Try.prog 29 #[.slice Av zs.length cv] w fun e w' => FirP zs w e w' := by
  have HS := Lib.hid ((St.start w).addF hv.away0)
  clear hv
  have HP := Lib.hid (pT_none1 h4 (pm_big hg hn)); have HGZ := Lib.hid hg
  obtain ⟨q1, hq⟩ : ∃ q, 4 + k = q := ⟨_, rfl⟩
  have HQE := Lib.hid hq
  have k1 : decide ((n : Int) < 1) = false := decide_eq_false (by omega)
  have k2 : (50 : Int) < (n : Int) := by omega
  clear hg hq
  go_enter Try.func29, Try.ntmps29
  go_wp2_with (first
    | go_skip
    | (refine atd 2 (by rfl) ?_; refine wl (by rfl) (s_al (l := Z4) HS.out (by rfl) z55 (by rfl) ?_); intro b2 Wn hS; clear HS; have HS := Lib.hid hS; clear hS)
    | (refine atd 5 (by rfl) ?_; refine wl (by rfl) (s_al (l := Z4) HS.out (by rfl) z55 (by rfl) ?_); intro b5 Wn hS; clear HS; have HS := Lib.hid hS; clear hS)
    | (refine sto 5 (by rfl) ?_; refine wl (by rfl) (s_sta (cs := Z4) HS.out 0 4 (by rfl) (by rfl) (by rfl) ag55 (by rfl) (by rfl) Z4_one (by exact Nat.le_refl _) ?_); intro Wn hS; clear HS; have HS := Lib.hid hS; clear hS)
    | (go_at_call 85; refine (rfix_ok 4 (j := 0) (p := 4) rfl (by decide) (HS.out.fact (i := 0) rfl) hl h4).mono ?_; rw [List.drop_zero]; (try rw [HN0.out]); rintro e Wn ⟨rfl, hb⟩; have hS := HS.out.call hb; clear hb; clear HS; have HS := Lib.hid hS; clear hS)
    | (go_at_call 86; refine (rsiz_ok (j := 4) HQE.out (HS.out.fact (i := 0) rfl) hl h4 HGZ.out).mono ?_; rintro e Wn ⟨rfl, hb⟩; have hS := HS.out.call hb; clear hb; clear HS; have HS := Lib.hid hS; clear hS)
    | (refine atd 44 (by rfl) ?_; refine wl (by rfl) (wp_of_run (run_b55z (by rfl)) ?_))
    | (refine sto 2 (by rfl) ?_; refine wl (by rfl) (s_sta (cs := Z4) HS.out 1 4 (by rfl) (by rfl) (by rfl) ag55 (by rfl) (by rfl) Z4_one (by exact Nat.le_refl _) ?_); intro Wn hS; clear HS; have HS := Lib.hid hS; clear hS))
  exact bodyPost_ret (ret_c55tt (p := 2) (u := 3) (q := 4) rfl _ b2 _ 55 (0, 0) (.int .i64 0) (.int .i64 60) (by rfl) (by rfl) (by rfl) (HS.out.blk (i := 1) rfl) (by rfl)) rfl (.inl ⟨HP.out, rfl, HS.out.below⟩)
set_option maxHeartbeats 8000000 in
set_option maxRecDepth 100000 in
theorem rf29_e (Av : Option Addr) (cv : Nat) (zs : List UInt8) (w : World) (hv : HB w (.slice Av zs.length cv) zs) (hl : zs.length ≤ 20000) (h4 : 4 ≤ zs.length) {n1 k : Nat} (hn1 : 1 ≤ n1) (hn5 : n1 ≤ 50) (hg : getSize (zs.drop 4) = some (n1, k)) :
    Calls Try.prog 29 #[.slice Av zs.length cv] w fun e w' => FirP zs w e w' := by
  have HS := Lib.hid ((St.start w).addF hv.away0)
  clear hv
  have HX1 := Lib.hid (show rMany rInV rInM rInB n1 ((zs.drop 4).drop k) = none → pTx zs = none from fun h => pT_none1 h4 (by rw [pm_many hg hn5]; exact h))
  have HX1' := Lib.hid (pm_many (V := rInV) (M := rInM) (B := rInB) hg hn5)
  have HGZ := Lib.hid hg
  obtain ⟨q1, hq⟩ : ∃ q, 4 + k = q := ⟨_, rfl⟩
  have HQE := Lib.hid hq
  rw [List.drop_drop, hq] at HX1 HX1'
  have HQ1 := Lib.hid (show q1 ≤ zs.length by have := (getSize_some hg).2.2.1; rw [List.length_drop] at this; omega)
  have k1 : decide ((n1 : Int) < 1) = false := decide_eq_false (by omega)
  have k2 : decide ((50 : Int) < (n1 : Int)) = false := decide_eq_false (by omega)
  have k3 : wrap64 (n1 : Int) = (n1 : Int) := by unfold wrap64; omega
  obtain ⟨N0, hN0⟩ : ∃ N, numN 4 zs = N := ⟨_, rfl⟩
  have HN0 := Lib.hid hN0
  have v1 : (N0 : Int) % 4294967296 = (N0 : Int) := by rw [← hN0]; exact u32_fit (numN_lt 4 zs (by decide))
  clear hg hq hN0
  go_enter Try.func29, Try.ntmps29
  go_wp2_with (first
    | go_skip
    | (refine atd 2 (by rfl) ?_; refine wl (by rfl) (s_al (l := Z4) HS.out (by rfl) z55 (by rfl) ?_); intro b2 Wn hS; clear HS; have HS := Lib.hid hS; clear hS)
    | (refine atd 5 (by rfl) ?_; refine wl (by rfl) (s_al (l := Z4) HS.out (by rfl) z55 (by rfl) ?_); intro b5 Wn hS; clear HS; have HS := Lib.hid hS; clear hS)
    | (refine sto 5 (by rfl) ?_; refine wl (by rfl) (s_sta (cs := Z4) HS.out 0 4 (by rfl) (by rfl) (by rfl) ag55 (by rfl) (by rfl) Z4_one (by exact Nat.le_refl _) ?_); intro Wn hS; clear HS; have HS := Lib.hid hS; clear hS)
    | (go_at_call 85; refine (rfix_ok 4 (j := 0) (p := 4) rfl (by decide) (HS.out.fact (i := 0) rfl) hl h4).mono ?_; rw [List.drop_zero]; (try rw [HN0.out]); rintro e Wn ⟨rfl, hb⟩; have hS := HS.out.call hb; clear hb; clear HS; have HS := Lib.hid hS; clear hS)
    | (go_at_call 86; refine (rsiz_ok (j := 4) HQE.out (HS.out.fact (i := 0) rfl) hl h4 HGZ.out).mono ?_; rintro e Wn ⟨rfl, hb⟩; have hS := HS.out.call hb; clear hb; clear HS; have HS := Lib.hid hS; clear hS))
  have h0 := (HS.out.scr0.new (Below.refl _ _) (r := Row (.slice none 0 0) 66 35 0 []) (World.ownsRow_nil _ _ _ _) (fun k hk => by simp [Row, Value.ownBlock] at hk))
  clear HS
  have HS := Lib.hid h0
  clear h0
  go_loopw [10, 7] (fun s10 s7 W' => ∃ (i p : Nat) (A7 : Option Addr) (c7 : Nat) (l : List (Value × TIn)) (ys : List UInt8), i ≤ n1 ∧ s10 = .int .i64 (i : Int) ∧ s7 = .int .i64 (p : Int) ∧ p ≤ zs.length ∧ zs.drop p = ys ∧ l.length = i ∧ rMany rInV rInM rInB i (zs.drop q1) = some (l.map (·.2), ys) ∧ St w W' [Row (.slice A7 l.length c7) 66 35 l.length (l.map inC).flatten, ScrR (l.map fun x : Value × TIn => (x.1, x.2.s)), Blk b5 [.int .u32 0, (.slice A7 l.length c7), .slice none 0 0, .int .u32 0] 55, Blk b2 Z4 55] [fun W => HB W (.slice Av zs.length cv) zs]) (fun s10 _ _ => n1 - (intOf s10).toNat)
  case atStart => exact ⟨0, q1, none, 0, [], _, by omega, rfl, rfl, HQ1.out, rfl, rfl, rfl, HS.out⟩
  case round =>
    obtain ⟨i, p, A7, c7, l, ys, hi, rfl, rfl, hpl, hy, hli, hm, hs⟩ := hrel
    clear HS
    have HS := Lib.hid hs; have HPL := Lib.hid hpl; have HY := Lib.hid hy; have HLI := Lib.hid hli; have HM := Lib.hid hm
    clear hs hpl hy hm
    by_cases h0 : i < n1
    · skip
      have j1 : (i : Int) < (n1 : Int) := by omega
      have hl5 : l.length ≤ 50 := by omega
      clear hli
      go_wp2_with (first
        | go_skip
        | (go_at_call 87; refine (rin87 _ zs p _ (HS.out.fact (i := 0) rfl) hl HPL.out).mono ?_; rw [HY.out]; obtain ⟨yv, hyv⟩ : ∃ yv, rInV ys = yv := ⟨_, rfl⟩; rw [hyv]; have HYV := Lib.hid hyv; have HYO := Lib.hid (show yv.ok by rw [← hyv]; exact rInV_ok ys); clear hyv; rintro e Wn (⟨hng, l', hlen, hone, rfl, hb⟩ | ⟨hg, Ai, ci, rfl, hn⟩); (case' inl => (have hS := HS.out.call hb; have HNG := Lib.hid hng; have HLEN := Lib.hid hlen; have HONE := Lib.hid hone; clear hb hng hlen hone; clear HS; have HS := Lib.hid hS; clear hS)); (case' inr => (have hS := HS.out.take hn; have HG := Lib.hid hg; clear hn hg; obtain ⟨pe, hpe⟩ : ∃ pe, zs.length - (rInM ys).length = pe := ⟨_, rfl⟩; rw [hpe]; have HPE := Lib.hid hpe; have kpe : decide ((pe : Int) < 0) = false := decide_eq_false (by omega); clear hpe; clear HS; have HS := Lib.hid hS; clear hS)))
        | (refine atd 11 (by rfl) ?_; refine wl (by rfl) (s_al (l := z35) HS.out (by rfl) z66 (by rfl) ?_); intro bx Wn hS; clear HS; have HS := Lib.hid hS; clear hS)
        | (refine sto 11 (by rfl) ?_; refine wl (by rfl) (s_sta (cs := l') HS.out 0 35 (by rfl) (by rfl) (by rfl) ag66 (by rfl) (by exact HLEN.out) (by exact HONE.out) (by exact Nat.le_of_eq (Eq.symm z35_len)) ?_); intro Wn hS; clear HS; have HS := Lib.hid hS; clear hS)
        | (refine sto 11 (by rfl) ?_; refine wl (by rfl) (s_sta (cs := inC (.slice Ai yv.s.length ci, yv)) HS.out 0 35 (by rfl) (by rfl) (by rfl) ag66 (by rfl) (inC_length (x := (.slice Ai yv.s.length ci, yv)) HYO.out) (inC_one (x := (.slice Ai yv.s.length ci, yv)) rfl) (by exact Nat.le_of_eq (Eq.symm z35_len)) ?_); intro Wn hS; rw [splice_all (l := z35) (cs := inC (.slice Ai yv.s.length ci, yv)) (Eq.trans (inC_length (x := (.slice Ai yv.s.length ci, yv)) HYO.out) (Eq.symm z35_len))] at hS; clear HS; have HS := Lib.hid hS; clear hS)
        | (refine atd 59 (by rfl) ?_; refine wl (by rfl) (wp_of_run (run_b55z (by rfl)) ?_))
        | (refine sto 2 (by rfl) ?_; refine wl (by rfl) (s_sta (cs := Z4) HS.out 4 4 (by rfl) (by rfl) (by rfl) ag55 (by rfl) (by rfl) Z4_one (by exact Nat.le_refl _) ?_); intro Wn hS; clear HS; have HS := Lib.hid hS; clear hS)
        | (refine atd 61 (by rfl) ?_; refine wl (by rfl) (s_ld HS.out 4 (by rfl) (by rfl) (by rfl) (by kernel_rfl) (by rfl) ?_))
        | (refine atd 62 (by rfl) ?_; refine wl (by rfl) (s_lda (cs := inC (.slice Ai yv.s.length ci, yv)) HS.out 0 35 (by rfl) (by rfl) (by rfl) ag66 (by exact all_tk (inC_length (x := (.slice Ai yv.s.length ci, yv)) HYO.out)) (inC_length (x := (.slice Ai yv.s.length ci, yv)) HYO.out) ?_))
        | (refine atd 63 (by rfl) ?_; refine wl (by rfl) (s_bs (E := 66) (z := (.agg z35.toArray)) HS.out 1 35 (inC (.slice Ai yv.s.length ci, yv)) (by rfl) Try.underlying52 (by kernel_rfl) (by simp only [List.map_toArray, List.map_cons, List.map_nil]; rfl) (by decide) (by decide) (fill_in (s := 35) (by decide) (inC (.slice Ai yv.s.length ci, yv)) (inC_length (x := (.slice Ai yv.s.length ci, yv)) HYO.out) _ (by simp)) (inC_length (x := (.slice Ai yv.s.length ci, yv)) HYO.out) (by decide) ?_); intro b46 Wn hS; clear HS; have HS := Lib.hid hS; clear hS)
        | (refine atd 64 (by rfl) ?_; refine wl (by rfl) (s_rows (size := 35) (bytes := 72) (z := (.agg z35.toArray)) HS.out 3 0 (by rfl) Try.underlying52 (by kernel_rfl) (by rfl) (by decide) (by rfl) (by rfl) (by rfl) (by rfl) (inC_one (x := (.slice Ai yv.s.length ci, yv)) rfl) (by omega) (by omega) ?_); intro v47 Wn hS; obtain ⟨A47, c47, rfl⟩ := row_sl (hS.res (i := 3) rfl); clear HS; have HS := Lib.hid hS; clear hS)
        | (refine sto 65 (by rfl) ?_; refine wl (by rfl) (s_st (v := .slice A47 (l.length + 1) c47) HS.out 5 (by rfl) (by rfl) (by rfl) (by kernel_rfl) (by rfl) (by rfl) (by exact (by decide : 1 < 4)) ?_); intro Wn hS; clear HS; have HS := Lib.hid hS; clear hS))
      all_goals first
        | (have hnone : rMany rInV rInM rInB n1 (zs.drop q1) = none := rMany_none (n := i + 1) (by rw [rMany_snoc HM.out, if_neg HNG.out]) (by omega)
           exact bodyPost_ret (ret_c55tt (p := 2) (u := 3) (q := 4) rfl _ b2 _ 55 (0, 0) (.int .i64 0) (.int .i64 60) (by rfl) (by rfl) (by rfl) (HS.out.blk (i := 4) rfl) (by rfl)) rfl (.inl ⟨HX1.out hnone, rfl, HS.out.below⟩))
        | skip
      have h := (show St w Wn (Row (.slice Ai yv.s.length ci) 5 1 yv.s.length (bs yv.s) :: Row (.slice A47 (l.length + 1) c47) 66 35 (l.length + 1) ((l.map inC).flatten ++ inC (.slice Ai yv.s.length ci, yv)) :: ScrR (l.map fun x : Value × TIn => (x.1, x.2.s)) :: Blk b5 [.int .u32 0, (.slice A47 (l.length + 1) c47), .slice none 0 0, .int .u32 0] 55 :: [Blk b2 Z4 55]) [fun W => HB W (.slice Av zs.length cv) zs] from (HS.out.sub 0).sub 0).scr (i := 1) rfl
      obtain ⟨hz1, hz2⟩ := suf_at (zs := zs) (p := p) (r := rInM ys) (by rw [HY.out]; exact rInM_suf ys)
      rw [HPE.out] at hz1 hz2
      refine ⟨⟨i + 1, pe, A47, c47, l ++ [(.slice Ai yv.s.length ci, yv)], rInM ys, by omega, by push_cast; rfl, rfl, hz2, hz1, by simp [HLI.out], by rw [rMany_snoc HM.out, if_pos HG.out, HYV.out]; simp, ?_⟩, by simp [intOf]; omega⟩
      have e1 : (l ++ [((.slice Ai yv.s.length ci, yv) : Value × TIn)]).length = l.length + 1 := by simp
      have e2 : ((l ++ [((.slice Ai yv.s.length ci, yv) : Value × TIn)]).map inC).flatten = (l.map inC).flatten ++ inC (.slice Ai yv.s.length ci, yv) := by simp
      have e3 : (l ++ [((.slice Ai yv.s.length ci, yv) : Value × TIn)]).map (fun x => (x.1, x.2.s)) = l.map (fun x => (x.1, x.2.s)) ++ [((.slice Ai yv.s.length ci : Value), yv.s)] := by simp
      rw [e1, e2, e3]
      exact h
    · obtain rfl : n1 = i := by omega
      have hm1 := HM.out
      clear h0 hi
      have hX := HX1'.out.trans hm1
      clear hli
      cases hgs : getSize ys with
      | none =>
        have HP := Lib.hid (pT_none2 h4 hX (pm_none hgs))
        go_wp2_with (first
          | go_skip
          | (go_at_call 86; refine (rsiz_no (j := p) (HS.out.fact (i := 0) rfl) hl HPL.out (by rw [HY.out]; exact hgs)).mono ?_; rintro e Wn ⟨rfl, hb⟩; have hS := HS.out.call hb; clear hb; clear HS; have HS := Lib.hid hS; clear hS)
          | (refine atd 84 (by rfl) ?_; refine wl (by rfl) (wp_of_run (run_b55z (by rfl)) ?_))
          | (refine sto 2 (by rfl) ?_; refine wl (by rfl) (s_sta (cs := Z4) HS.out 3 4 (by rfl) (by rfl) (by rfl) ag55 (by rfl) (by rfl) Z4_one (by exact Nat.le_refl _) ?_); intro Wn hS; clear HS; have HS := Lib.hid hS; clear hS))
        exact bodyPost_ret (ret_c55tt (p := 2) (u := 3) (q := 4) rfl _ b2 _ 55 (0, 0) (.int .i64 0) (.int .i64 60) (by rfl) (by rfl) (by rfl) (HS.out.blk (i := 3) rfl) (by rfl)) rfl (.inl ⟨HP.out, rfl, HS.out.below⟩)
      | some pr =>
        obtain ⟨n2, k2⟩ := pr
        obtain ⟨q2, hq2⟩ : ∃ q, p + k2 = q := ⟨_, rfl⟩
        have HQE2 := Lib.hid hq2
        have HGS := Lib.hid (show getSize (zs.drop p) = some (n2, k2) by rw [HY.out]; exact hgs)
        have hd2 : zs.drop q2 = ys.drop k2 := by rw [← HY.out, List.drop_drop, hq2]
        have HQ2 := Lib.hid (show q2 ≤ zs.length by have h1 := (getSize_some hgs).2.2.1; have h2 := HPL.out; rw [← HY.out, List.length_drop] at h1; omega)
        by_cases hn0 : n2 = 0
        · subst hn0
          have HP := Lib.hid (pT_zero2 h4 hX (r2 := ys.drop k2) (by rw [pm_many hgs (by omega)]; rfl))
          clear hq2 hd2 hgs
          go_wp2_with (first
            | go_skip
            | (go_at_call 86; refine (rsiz_ok (j := p) HQE2.out (HS.out.fact (i := 0) rfl) hl HPL.out HGS.out).mono ?_; rintro e Wn ⟨rfl, hb⟩; have hS := HS.out.call hb; clear hb; clear HS; have HS := Lib.hid hS; clear hS)
            | (refine atd 84 (by rfl) ?_; refine wl (by rfl) (wp_of_run (run_b55z (by rfl)) ?_))
            | (refine sto 2 (by rfl) ?_; refine wl (by rfl) (s_sta (cs := Z4) HS.out 3 4 (by rfl) (by rfl) (by rfl) ag55 (by rfl) (by rfl) Z4_one (by exact Nat.le_refl _) ?_); intro Wn hS; clear HS; have HS := Lib.hid hS; clear hS))
          exact bodyPost_ret (ret_c55tt (p := 2) (u := 3) (q := 4) rfl _ b2 _ 55 (0, 0) (.int .i64 0) (.int .i64 60) (by rfl) (by rfl) (by rfl) (HS.out.blk (i := 3) rfl) (by rfl)) rfl (.inl ⟨HP.out, rfl, HS.out.below⟩)
        · have k4 : decide ((n2 : Int) < 1) = false := decide_eq_false (by omega)
          by_cases hn50 : 50 < n2
          · have HP := Lib.hid (pT_none2 h4 hX (pm_big hgs hn50))
            have k5 : (50 : Int) < (n2 : Int) := by omega
            clear hq2 hd2 hgs hn50
            go_wp2_with (first
              | go_skip
              | (go_at_call 86; refine (rsiz_ok (j := p) HQE2.out (HS.out.fact (i := 0) rfl) hl HPL.out HGS.out).mono ?_; rintro e Wn ⟨rfl, hb⟩; have hS := HS.out.call hb; clear hb; clear HS; have HS := Lib.hid hS; clear hS)
              | (refine atd 84 (by rfl) ?_; refine wl (by rfl) (wp_of_run (run_b55z (by rfl)) ?_))
              | (refine sto 2 (by rfl) ?_; refine wl (by rfl) (s_sta (cs := Z4) HS.out 3 4 (by rfl) (by rfl) (by rfl) ag55 (by rfl) (by rfl) Z4_one (by exact Nat.le_refl _) ?_); intro Wn hS; clear HS; have HS := Lib.hid hS; clear hS))
            exact bodyPost_ret (ret_c55tt (p := 2) (u := 3) (q := 4) rfl _ b2 _ 55 (0, 0) (.int .i64 0) (.int .i64 60) (by rfl) (by rfl) (by rfl) (HS.out.blk (i := 3) rfl) (by rfl)) rfl (.inl ⟨HP.out, rfl, HS.out.below⟩)
          · have k5 : decide ((50 : Int) < (n2 : Int)) = false := decide_eq_false (by omega)
            have k6 : wrap64 (n2 : Int) = (n2 : Int) := by unfold wrap64; omega
            have hn52 : n2 ≤ 50 := by omega
            have HX2 := Lib.hid (show rMany rOutV rOutM rOutB n2 (zs.drop q2) = none → pTx zs = none from fun h => pT_none2 h4 hX (by rw [pm_many hgs hn52, ← hd2]; exact h))
            have HX2' := Lib.hid (show pMany rOutV rOutM rOutB ys = rMany rOutV rOutM rOutB n2 (zs.drop q2) by rw [pm_many hgs hn52, hd2])
            clear hq2 hd2 hgs hn50
            go_wp2_with (first
              | go_skip
              | (go_at_call 86; refine (rsiz_ok (j := p) HQE2.out (HS.out.fact (i := 0) rfl) hl HPL.out HGS.out).mono ?_; rintro e Wn ⟨rfl, hb⟩; have hS := HS.out.call hb; clear hb; clear HS; have HS := Lib.hid hS; clear hS))
            have hf2 := (HS.out.front (i := 3) rfl).front (i := 3) rfl
            clear HS
            have HS := Lib.hid hf2
            clear hf2
            have h0 := (HS.out.scr0.new (Below.refl _ _) (r := Row (.slice none 0 0) 68 2 0 []) (World.ownsRow_nil _ _ _ _) (fun k hk => by simp [Row, Value.ownBlock] at hk))
            clear HS
            have HS := Lib.hid h0
            clear h0
            go_loopw [13, 7] (fun s13 s7 W' => ∃ (i po : Nat) (A8 : Option Addr) (c8 : Nat) (lo : List (Value × TOut)) (yo : List UInt8), i ≤ n2 ∧ s13 = .int .i64 (i : Int) ∧ s7 = .int .i64 (po : Int) ∧ po ≤ zs.length ∧ zs.drop po = yo ∧ lo.length = i ∧ rMany rOutV rOutM rOutB i (zs.drop q2) = some (lo.map (·.2), yo) ∧ St w W' [Row (.slice A8 lo.length c8) 68 2 lo.length (lo.map outC).flatten, ScrR (lo.map fun x : Value × TOut => (x.1, x.2.s)), Blk b5 [.int .u32 0, .slice A7 l.length c7, (.slice A8 lo.length c8), .int .u32 0] 55, Blk b2 Z4 55, Row (.slice A7 l.length c7) 66 35 l.length (l.map inC).flatten, ScrR (l.map fun x : Value × TIn => (x.1, x.2.s))] [fun W => HB W (.slice Av zs.length cv) zs]) (fun s13 _ _ => n2 - (intOf s13).toNat)
            case atStart => exact ⟨0, q2, none, 0, [], _, by omega, rfl, rfl, HQ2.out, rfl, rfl, rfl, HS.out⟩
            case round =>
              obtain ⟨i, po, A8, c8, lo, yo, hi, rfl, rfl, hpl, hy, hli, hm, hs⟩ := hrel
              clear HS
              have HS := Lib.hid hs; have HPL2 := Lib.hid hpl; have HY2 := Lib.hid hy; have HLI2 := Lib.hid hli; have HM2 := Lib.hid hm
              clear hs hpl hy hm
              by_cases h0 : i < n2
              · skip
                have j1 : (i : Int) < (n2 : Int) := by omega
                have hl5 : lo.length ≤ 50 := by omega
                clear hli
                go_wp2_with (first
                  | go_skip
                  | (go_at_call 88; refine (rout88 _ zs po _ (HS.out.fact (i := 0) rfl) hl HPL2.out).mono ?_; rw [HY2.out]; obtain ⟨yv, hyv⟩ : ∃ yv, rOutV yo = yv := ⟨_, rfl⟩; rw [hyv]; have HYV := Lib.hid hyv; clear hyv; rintro e Wn (⟨hng, l', hlen, hone, rfl, hb⟩ | ⟨hg, Aj, cj, rfl, hn⟩); (case' inl => (have hS := HS.out.call hb; have HNG := Lib.hid hng; have HLEN := Lib.hid hlen; have HONE := Lib.hid hone; clear hb hng hlen hone; clear HS; have HS := Lib.hid hS; clear hS)); (case' inr => (have hS := HS.out.take hn; have HG := Lib.hid hg; clear hn hg; obtain ⟨pf, hpf⟩ : ∃ pf, zs.length - (rOutM yo).length = pf := ⟨_, rfl⟩; rw [hpf]; have HPF := Lib.hid hpf; have kpf : decide ((pf : Int) < 0) = false := decide_eq_false (by omega); clear hpf; clear HS; have HS := Lib.hid hS; clear hS)))
                  | (refine atd 14 (by rfl) ?_; refine wl (by rfl) (s_al (l := [.int .i64 0, .slice none 0 0]) HS.out (by rfl) z68 (by rfl) ?_); intro bx Wn hS; clear HS; have HS := Lib.hid hS; clear hS)
                  | (refine sto 14 (by rfl) ?_; refine wl (by rfl) (s_sta (cs := l') HS.out 0 2 (by rfl) (by rfl) (by rfl) ag68 (by rfl) (by exact HLEN.out) (by exact HONE.out) (by exact Nat.le_of_eq (Eq.symm (by rfl))) ?_); intro Wn hS; clear HS; have HS := Lib.hid hS; clear hS)
                  | (refine sto 14 (by rfl) ?_; refine wl (by rfl) (s_sta (cs := outC (.slice Aj yv.s.length cj, yv)) HS.out 0 2 (by rfl) (by rfl) (by rfl) ag68 (by rfl) ((by rfl)) ((by intro v hv; simp [outC] at hv; rcases hv with rfl | rfl <;> rfl)) (by exact Nat.le_of_eq (Eq.symm (by rfl))) ?_); intro Wn hS; rw [splice_all (l := [.int .i64 0, .slice none 0 0]) (cs := outC (.slice Aj yv.s.length cj, yv)) (Eq.trans ((by rfl)) (Eq.symm (by rfl)))] at hS; clear HS; have HS := Lib.hid hS; clear hS)
                  | (refine atd 99 (by rfl) ?_; refine wl (by rfl) (wp_of_run (run_b55z (by rfl)) ?_))
                  | (refine sto 2 (by rfl) ?_; refine wl (by rfl) (s_sta (cs := Z4) HS.out 4 4 (by rfl) (by rfl) (by rfl) ag55 (by rfl) (by rfl) Z4_one (by exact Nat.le_refl _) ?_); intro Wn hS; clear HS; have HS := Lib.hid hS; clear hS)
                  | (refine atd 101 (by rfl) ?_; refine wl (by rfl) (s_ld HS.out 4 (by rfl) (by rfl) (by rfl) (by kernel_rfl) (by rfl) ?_))
                  | (refine atd 102 (by rfl) ?_; refine wl (by rfl) (s_lda (cs := outC (.slice Aj yv.s.length cj, yv)) HS.out 0 2 (by rfl) (by rfl) (by rfl) ag68 (by exact all_tk ((by rfl))) ((by rfl)) ?_))
                  | (refine atd 103 (by rfl) ?_; refine wl (by rfl) (s_bs (E := 68) (z := (.agg #[.int .i64 0, .slice none 0 0])) HS.out 1 2 (outC (.slice Aj yv.s.length cj, yv)) (by rfl) Try.underlying53 (by kernel_rfl) (by simp only [List.map_toArray, List.map_cons, List.map_nil]; rfl) (by decide) (by decide) (fill_in (s := 2) (by decide) (outC (.slice Aj yv.s.length cj, yv)) (rfl) _ (by simp)) ((by rfl)) (by decide) ?_); intro b46 Wn hS; clear HS; have HS := Lib.hid hS; clear hS)
                  | (refine atd 104 (by rfl) ?_; refine wl (by rfl) (s_rows (size := 2) (bytes := 32) (z := (.agg #[.int .i64 0, .slice none 0 0])) HS.out 3 0 (by rfl) Try.underlying53 (by kernel_rfl) (by rfl) (by decide) (by rfl) (by rfl) (by rfl) (by rfl) ((by intro v hv; simp [outC] at hv; rcases hv with rfl | rfl <;> rfl)) (by omega) (by omega) ?_); intro v47 Wn hS; obtain ⟨A48, c48, rfl⟩ := row_sl (hS.res (i := 3) rfl); clear HS; have HS := Lib.hid hS; clear hS)
                  | (refine sto 105 (by rfl) ?_; refine wl (by rfl) (s_st (v := .slice A48 (lo.length + 1) c48) HS.out 5 (by rfl) (by rfl) (by rfl) (by kernel_rfl) (by rfl) (by rfl) (by exact (by decide : 2 < 4)) ?_); intro Wn hS; clear HS; have HS := Lib.hid hS; clear hS))
                all_goals first
                  | (have hnone : rMany rOutV rOutM rOutB n2 (zs.drop q2) = none := rMany_none (n := i + 1) (by rw [rMany_snoc HM2.out, if_neg HNG.out]) (by omega)
                     exact bodyPost_ret (ret_c55tt (p := 2) (u := 3) (q := 4) rfl _ b2 _ 55 (0, 0) (.int .i64 0) (.int .i64 60) (by rfl) (by rfl) (by rfl) (HS.out.blk (i := 4) rfl) (by rfl)) rfl (.inl ⟨HX2.out hnone, rfl, HS.out.below⟩))
                  | skip
                have h := (show St w Wn (Row (.slice Aj yv.s.length cj) 5 1 yv.s.length (bs yv.s) :: Row (.slice A48 (lo.length + 1) c48) 68 2 (lo.length + 1) ((lo.map outC).flatten ++ outC (.slice Aj yv.s.length cj, yv)) :: ScrR (lo.map fun x : Value × TOut => (x.1, x.2.s)) :: Blk b5 [.int .u32 0, .slice A7 l.length c7, (.slice A48 (lo.length + 1) c48), .int .u32 0] 55 :: [Blk b2 Z4 55, Row (.slice A7 l.length c7) 66 35 l.length (l.map inC).flatten, ScrR (l.map fun x : Value × TIn => (x.1, x.2.s))]) [fun W => HB W (.slice Av zs.length cv) zs] from (HS.out.sub 0).sub 0).scr (i := 1) rfl
                obtain ⟨hz1, hz2⟩ := suf_at (zs := zs) (p := po) (r := rOutM yo) (by rw [HY2.out]; exact rOutM_suf yo)
                rw [HPF.out] at hz1 hz2
                refine ⟨⟨i + 1, pf, A48, c48, lo ++ [(.slice Aj yv.s.length cj, yv)], rOutM yo, by omega, by push_cast; rfl, rfl, hz2, hz1, by simp [HLI2.out], by rw [rMany_snoc HM2.out, if_pos HG.out, HYV.out]; simp, ?_⟩, by simp [intOf]; omega⟩
                have e1 : (lo ++ [((.slice Aj yv.s.length cj, yv) : Value × TOut)]).length = lo.length + 1 := by simp
                have e2 : ((lo ++ [((.slice Aj yv.s.length cj, yv) : Value × TOut)]).map outC).flatten = (lo.map outC).flatten ++ outC (.slice Aj yv.s.length cj, yv) := by simp
                have e3 : (lo ++ [((.slice Aj yv.s.length cj, yv) : Value × TOut)]).map (fun x => (x.1, x.2.s)) = lo.map (fun x => (x.1, x.2.s)) ++ [((.slice Aj yv.s.length cj : Value), yv.s)] := by simp
                rw [e1, e2, e3]
                exact h
              · obtain rfl : n2 = i := by omega
                have hm2 := HM2.out
                clear h0 hi
                have hY := HX2'.out.trans HM2.out
                clear hli
                by_cases hz : yo.length < 4
                · have HP := Lib.hid (pT_short h4 hX hY hz)
                  go_wp2_with (first
                    | go_skip
                    | (go_at_call 85; refine (rfix_no 4 (j := po) (by decide) (HS.out.fact (i := 0) rfl) hl HPL2.out (by have := HY2.out; rw [← this, List.length_drop] at hz; omega)).mono ?_; rintro e Wn ⟨rfl, hb⟩; subst hb)
                    | (refine atd 116 (by rfl) ?_; refine wl (by rfl) (wp_of_run (run_b55z (by rfl)) ?_))
                    | (refine sto 2 (by rfl) ?_; refine wl (by rfl) (s_sta (cs := Z4) HS.out 3 4 (by rfl) (by rfl) (by rfl) ag55 (by rfl) (by rfl) Z4_one (by exact Nat.le_refl _) ?_); intro Wn hS; clear HS; have HS := Lib.hid hS; clear hS))
                  exact bodyPost_ret (ret_c55tt (p := 2) (u := 3) (q := 4) rfl _ b2 _ 55 (0, 0) (.int .i64 0) (.int .i64 60) (by rfl) (by rfl) (by rfl) (HS.out.blk (i := 3) rfl) (by rfl)) rfl (.inl ⟨HP.out, rfl, HS.out.below⟩)
                · have HP := Lib.hid (pT_good h4 hX hY (by omega) (by rw [List.length_map]; have := HLI.out; omega) (by rw [List.length_map]; have := HLI2.out; omega))
                  obtain ⟨pz, hpz⟩ : ∃ q, po + 4 = q := ⟨_, rfl⟩
                  have HPZ := Lib.hid hpz
                  have hyl : yo.length = zs.length - po := by rw [← HY2.out, List.length_drop]
                  have HPZ2 := Lib.hid (show pz ≤ zs.length by omega)
                  have HEN := Lib.hid (show zs.length - (yo.drop 4).length = pz by rw [List.length_drop]; omega)
                  obtain ⟨N9, hN9⟩ : ∃ N, numN 4 yo = N := ⟨_, rfl⟩
                  have HN9 := Lib.hid hN9
                  have v2 : (N9 : Int) % 4294967296 = (N9 : Int) := by rw [← hN9]; exact u32_fit (numN_lt 4 yo (by decide))
                  have HP0 := HP.out
                  rw [HN0.out, hN9] at HP0
                  clear hpz hyl hz hN9
                  clear HP
                  have HP := Lib.hid HP0
                  clear HP0
                  go_wp2_with (first
                    | go_skip
                    | (go_at_call 85; refine (rfix_ok 4 (j := po) HPZ.out (by decide) (HS.out.fact (i := 0) rfl) hl HPZ2.out).mono ?_; rw [HY2.out, HN9.out]; rintro e Wn ⟨rfl, hb⟩; have hS := HS.out.call hb; clear hb; clear HS; have HS := Lib.hid hS; clear hS)
                    | (refine sto 119 (by rfl) ?_; refine wl (by rfl) (s_st (v := .int .u32 (N0 : Int)) HS.out 2 (by rfl) (by rfl) (by rfl) (by kernel_rfl) (by rfl) (by rfl) (by exact (by decide : 0 < 4)) ?_); intro Wn hS; clear HS; have HS := Lib.hid hS; clear hS)
                    | (refine sto 122 (by rfl) ?_; refine wl (by rfl) (s_st (v := .int .u32 (N9 : Int)) HS.out 2 (by rfl) (by rfl) (by rfl) (by kernel_rfl) (by rfl) (by rfl) (by exact (by decide : 3 < 4)) ?_); intro Wn hS; clear HS; have HS := Lib.hid hS; clear hS)
                    | (refine atd 123 (by rfl) ?_; refine wl (by rfl) (s_lda (cs := [.int .u32 (N0 : Int), .slice A7 l.length c7, .slice A8 lo.length c8, .int .u32 (N9 : Int)]) HS.out 2 4 (by rfl) (by rfl) (by rfl) ag55 (by rfl) (by rfl) ?_))
                    | (refine sto 2 (by rfl) ?_; refine wl (by rfl) (s_sta (cs := [.int .u32 (N0 : Int), .slice A7 l.length c7, .slice A8 lo.length c8, .int .u32 (N9 : Int)]) HS.out 3 4 (by rfl) (by rfl) (by rfl) ag55 (by rfl) (by rfl) (tx4_one _ _ _ _ _ _ _ _) (by exact Nat.le_refl _) ?_); intro Wn hS; clear HS; have HS := Lib.hid hS; clear hS))
                  have hf := HS.out.dropF (Gs := []) (fun G hG => by cases hG)
                  have hq := (hf.sub 2).sub 2
                  exact bodyPost_ret (ret_c55tt (p := 2) (u := 3) (q := 4) rfl _ b2 _ 55 (0, 0) (.int .i64 (pz : Int)) (.int .i64 0) (by rfl) (by rfl) (by rfl) (HS.out.blk (i := 3) rfl) (by rfl)) rfl (.inr ⟨(⟨N0, .slice A7 l.length c7, l, .slice A8 lo.length c8, lo, N9⟩ : TxM), _, HP.out, (by rw [List.length_drop, ← HY2.out, List.length_drop]; omega), by rw [HEN.out]; rfl, St.txr (m := (⟨N0, .slice A7 l.length c7, l, .slice A8 lo.length c8, lo, N9⟩ : TxM)) hq⟩)
theorem rfirst29 (v : Value) (zs : List UInt8) (w : World) (hv : HB w v zs) (hl : zs.length ≤ 20000) : Calls Try.prog 29 #[v] w fun e w' => FirP zs w e w' := by
  obtain ⟨Av, cv, rfl, _⟩ := hv.shape
  by_cases h4 : 4 ≤ zs.length
  · cases hg : getSize (zs.drop 4) with
    | none => exact rf29_b Av cv zs w hv hl h4 hg
    | some p =>
      obtain ⟨n, k⟩ := p
      by_cases h0 : n = 0
      · subst h0; exact rf29_c Av cv zs w hv hl h4 hg
      · by_cases h5 : 50 < n
        · exact rf29_d Av cv zs w hv hl h4 h5 hg
        · exact rf29_e Av cv zs w hv hl h4 (by omega) (by omega) hg
  · exact rf29_a Av cv zs w hv hl (by omega)
end
section
open Go Go.RowKit Go.Proofs
attribute [local go_sem] Oper.semAt_some
attribute [local irreducible] Calls
set_option maxHeartbeats 4000000 in
set_option maxRecDepth 100000 in
theorem rdec31 (v : Value) (xs : List UInt8) (w : World) (hv : HB w v xs) (hl : xs.length ≤ 20000) :
    Calls Try.prog 31 #[v] w fun e w' => DecP xs w e w' := by
  have HS := Lib.hid ((St.start w).addF hv.away0)
  obtain ⟨Av, cv, rfl, _⟩ := hv.shape
  clear hv
  go_enter Try.func31, Try.ntmps31
  go_wp2_with (first
    | go_skip
    | (refine atd 2 (by rfl) ?_; refine wl (by rfl) (s_al (l := Z4) HS.out (by rfl) z55 (by rfl) ?_); intro b2 Wn hS; clear HS; have HS := Lib.hid hS; clear hS)
    | (refine atd 4 (by rfl) ?_; refine wl (by rfl) (s_al (l := Z4) HS.out (by rfl) z55 (by rfl) ?_); intro b4 Wn hS; clear HS; have HS := Lib.hid hS; clear hS)
    | (go_at_call 29; refine (rfirst29 _ xs _ (HS.out.fact (i := 0) rfl) hl).mono ?_; rintro e Wn (⟨hp, rfl, hb⟩ | ⟨m, r, hp, hr, rfl, hs⟩); (case' inl => (have hS := HS.out.call hb; have HP := Lib.hid (show pDec xs = none by unfold pDec; rw [hp]); clear hb hp; clear HS; have HS := Lib.hid hS; clear hS)); (case' inr => (have hS := HS.out.join hs; clear hs; clear HS; have HS := Lib.hid hS; clear hS; rcases r with _ | ⟨r0, rs⟩)); (case' nil => (have HP := Lib.hid (show pDec xs = some m.p by unfold pDec; rw [hp]); rw [show xs.length - ([] : List UInt8).length = xs.length from rfl]; clear hp hr)); (case' cons => (have HP := Lib.hid (show pDec xs = none by unfold pDec; rw [hp]); obtain ⟨K, hK⟩ : ∃ K, xs.length - (r0 :: rs).length = K := ⟨_, rfl⟩; rw [hK]; have hne : ((K : Int) == (xs.length : Int)) = false := (by rw [beq_eq_false_iff_ne]; rw [List.length_cons] at hK hr; omega); clear hp hr hK)))
    | (refine sto 4 (by rfl) ?_; refine wl (by rfl) (s_sta (cs := m.cs) HS.out 0 4 (by rfl) (by rfl) (by rfl) ag55 (by rfl) (by rfl) (cs_one (HS.out.res (i := 1) rfl)) (by exact Nat.le_refl _) ?_); intro Wn hS; clear HS; have HS := Lib.hid hS; clear hS)
    | (refine sto 4 (by rfl) ?_; refine wl (by rfl) (s_sta (cs := Z4) HS.out 0 4 (by rfl) (by rfl) (by rfl) ag55 (by rfl) (by rfl) (Z4_one) (by exact Nat.le_refl _) ?_); intro Wn hS; clear HS; have HS := Lib.hid hS; clear hS)
    | (refine atd 21 (by rfl) ?_; refine wl (by rfl) (wp_of_run (run_b55z (by rfl)) ?_))
    | (refine sto 2 (by rfl) ?_; refine wl (by rfl) (s_sta (cs := Z4) HS.out 1 4 (by rfl) (by rfl) (by rfl) ag55 (by rfl) (by rfl) (Z4_one) (by exact Nat.le_refl _) ?_); intro Wn hS; clear HS; have HS := Lib.hid hS; clear hS)
    | (refine sto 2 (by rfl) ?_; refine wl (by rfl) (s_sta (cs := Z4) HS.out 2 4 (by rfl) (by rfl) (by rfl) ag55 (by rfl) (by rfl) (Z4_one) (by exact Nat.le_refl _) ?_); intro Wn hS; clear HS; have HS := Lib.hid hS; clear hS)
    | (refine atd 22 (by rfl) ?_; refine wl (by rfl) (s_lda (cs := m.cs) HS.out 0 4 (by rfl) (by rfl) (by rfl) ag55 (by rfl) (by rfl) ?_))
    | (refine sto 2 (by rfl) ?_; refine wl (by rfl) (s_sta (cs := m.cs) HS.out 2 4 (by rfl) (by rfl) (by rfl) ag55 (by rfl) (by rfl) (cs_one (HS.out.res (i := 1) rfl)) (by exact Nat.le_refl _) ?_); intro Wn hS; clear HS; have HS := Lib.hid hS; clear hS))
  · exact bodyPost_ret (ret_c55t (p := 2) (u := 3) rfl _ b2 _ 55 (0, 0) (.int .i64 60) (by rfl) (by rfl) (HS.out.blk (i := 2) rfl) (by rfl)) rfl (.inl ⟨HP.out, rfl, HS.out.below⟩)
  · have hq := ((HS.out.dropF (Gs := []) (fun G hG => by cases hG)).sub 2).sub 0
    exact bodyPost_ret (ret_c55t (p := 2) (u := 3) rfl _ b2 _ 55 (0, 0) (.int .i64 0) (by rfl) (by rfl) (HS.out.blk (i := 2) rfl) (by rfl)) rfl (.inr ⟨m, HP.out, rfl, hq⟩)
  · exact bodyPost_ret (ret_c55t (p := 2) (u := 3) rfl _ b2 _ 55 (0, 0) (.int .i64 60) (by rfl) (by rfl) (HS.out.blk (i := 1) rfl) (by rfl)) rfl (.inl ⟨HP.out, rfl, HS.out.below⟩)
end
end Go.Proofs.Yteljmpoaggfliaa
