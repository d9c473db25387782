/- Contracts and words that the laws stand on (CoinThereWalk). -/
import Derived.Test.YteljmpoaggfliaaCoinA
set_option linter.unusedVariables false
set_option linter.unusedSimpArgs false
namespace Go.Proofs.Yteljmpoaggfliaa
section
open Go Go.RowKit Go.Proofs
attribute [local go_sem] Oper.semAt_some
attribute [local irreducible] Calls

theorem verC_set33 (x : Value × TVer) (m : Int) (h : x.2.ok) : (verC x).set 33 (.int .i64 m) = verC (x.1, { x.2 with made := m }) := by
  rw [verC, List.set_append_right _ _ (by simp [h.h])]; simp [verC, h.h]
theorem verC_set37 (x : Value × TVer) (m : Int) (h : x.2.ok) : (verC x).set 37 (.int .i64 m) = verC (x.1, { x.2 with spent := m }) := by
  rw [verC, List.set_append_right _ _ (by simp [h.h])]; simp [verC, h.h]
/-- The heights below i at which it is there begin at M, and end here. -/
def hiT (S i : Nat) : Nat := if S = 0 then i else min i S
def cT (M S i : Nat) : Int := ((hiT S i - M : Nat) : Int)
def fT (M S i : Nat) : Int := if hiT S i ≤ M then -1 else (M : Int)
def isT (M S i : Nat) : Bool := decide (M ≤ i ∧ (S = 0 ∨ i < S))
theorem cT_yes {M S i : Nat} (h : isT M S i = true) : cT M S (i + 1) = cT M S i + 1 := by
  have h := of_decide_eq_true h
  unfold cT hiT; split <;> omega
theorem cT_no {M S i : Nat} (h : isT M S i = false) : cT M S (i + 1) = cT M S i := by
  have h := of_decide_eq_false h
  unfold cT hiT; split <;> omega
theorem fT_no {M S i : Nat} (h : isT M S i = false) : fT M S (i + 1) = fT M S i := by
  have h := of_decide_eq_false h
  have a : hiT S i = i ∧ hiT S (i + 1) = i + 1 ∧ S = 0 ∨ hiT S i = min i S ∧ hiT S (i + 1) = min (i + 1) S ∧ S ≠ 0 := by
    by_cases hS : S = 0
    · exact .inl ⟨if_pos hS, if_pos hS, hS⟩
    · exact .inr ⟨if_neg hS, if_neg hS, hS⟩
  unfold fT at *
  by_cases q1 : hiT S i ≤ M
  · by_cases q2 : hiT S (i + 1) ≤ M
    · simp only [if_pos q1, if_pos q2] at * <;> omega
    · simp only [if_pos q1, if_neg q2] at * <;> omega
  · by_cases q2 : hiT S (i + 1) ≤ M
    · simp only [if_neg q1, if_pos q2] at * <;> omega
    · simp only [if_neg q1, if_neg q2] at * <;> omega
theorem fT_new {M S i : Nat} (h : isT M S i = true) (h2 : fT M S i < 0) : fT M S (i + 1) = i := by
  have h := of_decide_eq_true h
  have a : hiT S i = i ∧ hiT S (i + 1) = i + 1 ∧ S = 0 ∨ hiT S i = min i S ∧ hiT S (i + 1) = min (i + 1) S ∧ S ≠ 0 := by
    by_cases hS : S = 0
    · exact .inl ⟨if_pos hS, if_pos hS, hS⟩
    · exact .inr ⟨if_neg hS, if_neg hS, hS⟩
  unfold fT at *
  by_cases q1 : hiT S i ≤ M
  · by_cases q2 : hiT S (i + 1) ≤ M
    · simp only [if_pos q1, if_pos q2] at * <;> omega
    · simp only [if_pos q1, if_neg q2] at * <;> omega
  · by_cases q2 : hiT S (i + 1) ≤ M
    · simp only [if_neg q1, if_pos q2] at * <;> omega
    · simp only [if_neg q1, if_neg q2] at * <;> omega
theorem fT_old {M S i : Nat} (h : isT M S i = true) (h2 : ¬ fT M S i < 0) : fT M S (i + 1) = fT M S i := by
  have h := of_decide_eq_true h
  have a : hiT S i = i ∧ hiT S (i + 1) = i + 1 ∧ S = 0 ∨ hiT S i = min i S ∧ hiT S (i + 1) = min (i + 1) S ∧ S ≠ 0 := by
    by_cases hS : S = 0
    · exact .inl ⟨if_pos hS, if_pos hS, hS⟩
    · exact .inr ⟨if_neg hS, if_neg hS, hS⟩
  unfold fT at *
  by_cases q1 : hiT S i ≤ M
  · by_cases q2 : hiT S (i + 1) ≤ M
    · simp only [if_pos q1, if_pos q2] at * <;> omega
    · simp only [if_pos q1, if_neg q2] at * <;> omega
  · by_cases q2 : hiT S (i + 1) ≤ M
    · simp only [if_neg q1, if_pos q2] at * <;> omega
    · simp only [if_neg q1, if_neg q2] at * <;> omega
theorem cT_b (M S i : Nat) : 0 ≤ cT M S i ∧ cT M S i ≤ i := by unfold cT hiT; split <;> omega
theorem cT_0 (M S : Nat) : cT M S 0 = 0 := by
  unfold cT hiT
  by_cases hS : S = 0
  · rw [if_pos hS]; omega
  · rw [if_neg hS]; omega
theorem fT_0 (M S : Nat) : fT M S 0 = -1 := by
  unfold fT hiT
  rw [if_pos]
  by_cases hS : S = 0
  · rw [if_pos hS]; omega
  · rw [if_neg hS]; omega
theorem end_a {M : Nat} (h : M < 300) : cT M 0 300 = 300 - (M : Int) ∧ fT M 0 300 = M := by
  unfold cT fT hiT; simp only [if_true]; constructor
  · omega
  · rw [if_neg (by omega)]
theorem end_b {M S : Nat} (hS : S < 300) (h0 : S ≠ 0) (h : M < S) : cT M S 300 = (S : Int) - (M : Int) ∧ fT M S 300 = M := by
  unfold cT fT hiT; rw [if_neg h0, Nat.min_eq_right (by omega)]; constructor
  · omega
  · rw [if_neg (by omega)]
theorem end_c {M S : Nat} (hS : S < 300) (h0 : S ≠ 0) (h : ¬ M < S) : cT M S 300 = 0 := by
  unfold cT hiT; rw [if_neg h0, Nat.min_eq_right (by omega)]; omega
def vT (x : Value × TVer) (M S : Nat) : Value × TVer := (x.1, { x.2 with made := (M : Int), spent := (S : Int) })
theorem vT_ok {x : Value × TVer} (h : x.2.ok) {M S : Nat} (hM : M < 300) (hS : S < 300) : (vT x M S).2.ok := ⟨h.h, h.n, by show I64 (M : Int); unfold I64; omega, h.v, by show I64 (S : Int); unfold I64; omega, h.spr⟩
theorem vT_set {x : Value × TVer} (h : x.2.ok) {M : Nat} (hI : I64 (M : Int)) (S : Nat) : ((verC x).set 33 (.int .i64 (M : Int))).set 37 (.int .i64 (S : Int)) = verC (vT x M S) := by
  rw [verC_set33 x _ h]
  exact verC_set37 (x.1, { x.2 with made := (M : Int) }) _ (TVer.ok.mk h.h h.n (by exact hI) h.v h.spent h.spr)
theorem gT33 {x : Value × TVer} {M S : Nat} (h : (vT x M S).2.ok) : (verC (vT x M S))[33]? = some (.int .i64 (M : Int)) := verC_33 h
theorem gT37 {x : Value × TVer} {M S : Nat} (h : (vT x M S).2.ok) : (verC (vT x M S))[37]? = some (.int .i64 (S : Int)) := verC_37 h
theorem there22T (x : Value × TVer) (M S i : Nat) (w : World) (h : (vT x M S).2.ok) : Calls Try.prog 22 #[.agg (verC (vT x M S)).toArray, .int .i64 (i : Int)] w fun e w' => e = .returned (.bool (isT M S i)) ∧ Below w.heap.size w w' := by
  refine (there22 (vT x M S) i w h).mono ?_
  rintro e w' ⟨rfl, hb⟩
  refine ⟨?_, hb⟩
  congr 2
  unfold isThere isT vT
  simp only [decide_eq_decide]
  omega
attribute [local irreducible] verC vT cT fT isT
set_option maxHeartbeats 2000000 in
set_option maxRecDepth 100000 in
theorem coinThere6 (x : Value × TVer) (m s : Nat) (w : World) (hx : x.2.ok) :
    Calls Try.prog 6 #[.int .u16 (m : Int), .int .u16 (s : Int), .agg (verC x).toArray] w fun e w' => e = .returned (.bool true) ∧ Below w.heap.size w w' := by
  have HS := Lib.hid (St.start w)
  have Hx := Lib.hid hx
  obtain ⟨M, hM⟩ : ∃ M, M = m % 300 := ⟨_, rfl⟩
  obtain ⟨S, hS⟩ : ∃ S, S = s % 300 := ⟨_, rfl⟩
  have HM : M < 300 := by omega
  have HSS : S < 300 := by omega
  have HV := Lib.hid (vT_ok hx HM HSS)
  have HT := Lib.hid (vT_set hx (M := M) (by unfold I64; omega) S)
  have e1 : (m : Int).tmod 300 = (M : Int) := by rw [hM]; exact (Int.ofNat_tmod m 300).symm
  have e2 : (s : Int).tmod 300 = (S : Int) := by rw [hS]; exact (Int.ofNat_tmod s 300).symm
  clear hx hM hS
  go_enter Try.func6, Try.ntmps6
  go_wp2_with (first
    | go_skip
    | (refine atd 5 (by rfl) ?_; refine wl (by rfl) (s_bx (l := verC x) HS.out (by rfl) (by rfl) ?_); intro b5 Wn hS; clear HS; have HS := Lib.hid hS; clear hS)
    | (go_at_call 37; refine (alive37 _).mono ?_; rintro e Wn ⟨rfl, hb⟩; have hS := HS.out.call hb; clear hb; clear HS; have HS := Lib.hid hS; clear hS)
    | (refine sto 18 (by rfl) ?_; refine wl (by rfl) (s_st (v := .int .i64 (M : Int)) HS.out 0 (by rfl) (by rfl) (by rfl) (by kernel_rfl) (by rfl) (by rfl) (by rw [verC_length Hx.out]; decide) ?_); intro Wn hS; clear HS; have HS := Lib.hid hS; clear hS)
    | (refine sto 19 (by rfl) ?_; refine wl (by rfl) (s_st (v := .int .i64 (S : Int)) HS.out 0 (by rfl) (by rfl) (by rfl) (by kernel_rfl) (by rfl) (by rfl) (by rw [List.length_set, verC_length Hx.out]; decide) ?_); intro Wn hS; rw [HT.out] at hS; clear HS; have HS := Lib.hid hS; clear hS))
  go_loopw [10, 8, 9] (fun s10 s8 s9 W' => ∃ i : Nat, i ≤ 300 ∧ s10 = .int .i64 (i : Int) ∧ s8 = .int .i64 (cT M S i) ∧ s9 = .int .i64 (fT M S i) ∧ St w W' [Blk b5 (verC (vT x M S)) 46] []) (fun s10 _ _ _ => 300 - (intOf s10).toNat)
  case atStart => exact ⟨0, by omega, rfl, by rw [cT_0], by rw [fT_0], HS.out⟩
  case round =>
    obtain ⟨i, hi, rfl, rfl, rfl, hs⟩ := hrel
    have HS := Lib.hid hs
    clear hs
    by_cases hlt : i < 300
    · have j1 : (i : Int) < 300 := by omega
      have hcb := cT_b M S i
      cases hth : isT M S i with
      | false =>
        have HCN := Lib.hid (cT_no hth); have HFN := Lib.hid (fT_no hth)
        generalize cT M S i = ci at *
        generalize fT M S i = fi at *
        go_wp2_with (first
          | go_skip
          | (refine atd 24 (by rfl) ?_; refine wl (by rfl) (s_lda (cs := verC (vT x M S)) HS.out 0 70 (by rfl) (by rfl) (by rfl) ag46 (by exact verC_all HV.out) (verC_length HV.out) ?_))
          | (go_at_call 22; refine (there22T x M S i _ HV.out).mono ?_; rw [hth]; rintro e Wn ⟨rfl, hb⟩; have hS := HS.out.call hb; clear hb; clear HS; have HS := Lib.hid hS; clear hS))
        exact ⟨⟨i + 1, by omega, by push_cast; rfl, by rw [HCN.out], by rw [HFN.out], HS.out⟩, by simp [intOf]; omega⟩
      | true =>
        by_cases hf : fT M S i < 0
        · have HCN := Lib.hid (cT_yes hth); have HFN := Lib.hid (fT_new hth hf)
          generalize cT M S i = ci at *
          generalize fT M S i = fi at *
          go_wp2_with (first
            | go_skip
            | (refine atd 24 (by rfl) ?_; refine wl (by rfl) (s_lda (cs := verC (vT x M S)) HS.out 0 70 (by rfl) (by rfl) (by rfl) ag46 (by exact verC_all HV.out) (verC_length HV.out) ?_))
            | (go_at_call 22; refine (there22T x M S i _ HV.out).mono ?_; rw [hth]; rintro e Wn ⟨rfl, hb⟩; have hS := HS.out.call hb; clear hb; clear HS; have HS := Lib.hid hS; clear hS))
          exact ⟨⟨i + 1, by omega, by push_cast; rfl, by rw [HCN.out], by rw [HFN.out], HS.out⟩, by simp [intOf]; omega⟩
        · have HCN := Lib.hid (cT_yes hth); have HFN := Lib.hid (fT_old hth hf)
          generalize cT M S i = ci at *
          generalize fT M S i = fi at *
          have k3 : decide (fi < 0) = false := decide_eq_false hf
          clear hf
          go_wp2_with (first
            | go_skip
            | (refine atd 24 (by rfl) ?_; refine wl (by rfl) (s_lda (cs := verC (vT x M S)) HS.out 0 70 (by rfl) (by rfl) (by rfl) ag46 (by exact verC_all HV.out) (verC_length HV.out) ?_))
            | (go_at_call 22; refine (there22T x M S i _ HV.out).mono ?_; rw [hth]; rintro e Wn ⟨rfl, hb⟩; have hS := HS.out.call hb; clear hb; clear HS; have HS := Lib.hid hS; clear hS))
          exact ⟨⟨i + 1, by omega, by push_cast; rfl, by rw [HCN.out], by rw [HFN.out], HS.out⟩, by simp [intOf]; omega⟩
    · obtain rfl : i = 300 := by omega
      clear hi hlt
      have g33 := Lib.hid (show (verC (vT x M S))[33]? = some (.int .i64 (M : Int)) from gT33 HV.out); have g37 := Lib.hid (show (verC (vT x M S))[37]? = some (.int .i64 (S : Int)) from gT37 HV.out)
      by_cases h0 : S = 0
      · subst h0
        obtain ⟨q1, q2⟩ := end_a HM
        rw [q1, q2]
        clear q1 q2
        go_wp2_with (first
          | go_skip
          | (refine atd 33 (by rfl) ?_; refine wl (by rfl) (s_ld HS.out 0 (by rfl) (by rfl) (by rfl) (by kernel_rfl) (by exact g37.out) ?_))
          | (refine atd 39 (by rfl) ?_; refine wl (by rfl) (s_ld HS.out 0 (by rfl) (by rfl) (by rfl) (by kernel_rfl) (by exact g33.out) ?_))
          | (refine atd 46 (by rfl) ?_; refine wl (by rfl) (s_ld HS.out 0 (by rfl) (by rfl) (by rfl) (by kernel_rfl) (by exact g33.out) ?_))
          | (refine atd 53 (by rfl) ?_; refine wl (by rfl) (s_ld HS.out 0 (by rfl) (by rfl) (by rfl) (by kernel_rfl) (by exact g37.out) ?_))
          | (refine atd 55 (by rfl) ?_; refine wl (by rfl) (s_ld HS.out 0 (by rfl) (by rfl) (by rfl) (by kernel_rfl) (by exact g33.out) ?_))
          | (refine atd 66 (by rfl) ?_; refine wl (by rfl) (s_ld HS.out 0 (by rfl) (by rfl) (by rfl) (by kernel_rfl) (by exact g33.out) ?_)))
        go_ret
        exact ⟨rfl, HS.out.below⟩
      · have h0' : ((S : Int) == 0) = false := by rw [beq_eq_false_iff_ne]; omega
        by_cases h1 : M < S
        · obtain ⟨q1, q2⟩ := end_b HSS h0 h1
          rw [q1, q2]
          have hw : wrap64 ((S : Int) - (M : Int)) = (S : Int) - (M : Int) := by unfold wrap64; omega
          have hx : max (0 : Int) ((S : Int) - (M : Int)) = (S : Int) - (M : Int) := by omega
          have hx2 : ((S : Int) - (M : Int) == 0) = false := by rw [beq_eq_false_iff_ne]; omega
          clear q1 q2 e1 e2 HM HSS h0 h1
          obtain ⟨D, hD⟩ : ∃ D, (S : Int) - (M : Int) = D := ⟨_, rfl⟩
          rw [hD] at hw hx hx2 ⊢
          go_wp2_with (first
            | go_skip
            | (refine atd 33 (by rfl) ?_; refine wl (by rfl) (s_ld HS.out 0 (by rfl) (by rfl) (by rfl) (by kernel_rfl) (by exact g37.out) ?_))
            | (refine atd 39 (by rfl) ?_; refine wl (by rfl) (s_ld HS.out 0 (by rfl) (by rfl) (by rfl) (by kernel_rfl) (by exact g33.out) ?_))
            | (refine atd 46 (by rfl) ?_; refine wl (by rfl) (s_ld HS.out 0 (by rfl) (by rfl) (by rfl) (by kernel_rfl) (by exact g33.out) ?_))
            | (refine atd 53 (by rfl) ?_; refine wl (by rfl) (s_ld HS.out 0 (by rfl) (by rfl) (by rfl) (by kernel_rfl) (by exact g37.out) ?_))
            | (refine atd 55 (by rfl) ?_; refine wl (by rfl) (s_ld HS.out 0 (by rfl) (by rfl) (by rfl) (by kernel_rfl) (by exact g33.out) ?_))
            | (refine atd 66 (by rfl) ?_; refine wl (by rfl) (s_ld HS.out 0 (by rfl) (by rfl) (by rfl) (by kernel_rfl) (by exact g33.out) ?_)))
          go_ret
          exact ⟨rfl, HS.out.below⟩
        · rw [end_c HSS h0 h1]
          generalize fT M S 300 = fi
          have hw : wrap64 ((S : Int) - (M : Int)) = (S : Int) - (M : Int) := by unfold wrap64; omega
          have hx : max (0 : Int) ((S : Int) - (M : Int)) = 0 := by omega
          clear e1 e2 HM HSS h0 h1
          obtain ⟨D, hD⟩ : ∃ D, (S : Int) - (M : Int) = D := ⟨_, rfl⟩
          rw [hD] at hw hx
          go_wp2_with (first
            | go_skip
            | (refine atd 33 (by rfl) ?_; refine wl (by rfl) (s_ld HS.out 0 (by rfl) (by rfl) (by rfl) (by kernel_rfl) (by exact g37.out) ?_))
            | (refine atd 39 (by rfl) ?_; refine wl (by rfl) (s_ld HS.out 0 (by rfl) (by rfl) (by rfl) (by kernel_rfl) (by exact g33.out) ?_))
            | (refine atd 46 (by rfl) ?_; refine wl (by rfl) (s_ld HS.out 0 (by rfl) (by rfl) (by rfl) (by kernel_rfl) (by exact g33.out) ?_))
            | (refine atd 53 (by rfl) ?_; refine wl (by rfl) (s_ld HS.out 0 (by rfl) (by rfl) (by rfl) (by kernel_rfl) (by exact g37.out) ?_))
            | (refine atd 55 (by rfl) ?_; refine wl (by rfl) (s_ld HS.out 0 (by rfl) (by rfl) (by rfl) (by kernel_rfl) (by exact g33.out) ?_))
            | (refine atd 66 (by rfl) ?_; refine wl (by rfl) (s_ld HS.out 0 (by rfl) (by rfl) (by rfl) (by kernel_rfl) (by exact g33.out) ?_)))
          go_ret
          exact ⟨rfl, HS.out.below⟩
theorem coinThere_walk (m s : Nat) (c2 : List Value) (w : World) (g2 : Rd Try.prog w 46 c2) : Calls Try.prog 6 #[.int .u16 (m : Int), .int .u16 (s : Int), .agg c2.toArray] w fun e w' => e = .returned (.bool true) ∧ Below w.heap.size w w' := by
  obtain ⟨x, rfl, hx, _⟩ := ver_of g2
  exact coinThere6 x m s w hx
end
end Go.Proofs.Yteljmpoaggfliaa
