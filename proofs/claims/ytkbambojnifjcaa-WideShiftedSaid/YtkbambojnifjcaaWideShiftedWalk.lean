/- Contracts and words that the laws stand on (WideShiftedWalk). -/
import Derived.Test.YtkbambojnifjcaaWideShA
import Derived.Test.YtkbambojnifjcaaWideShB
import Derived.Test.YtkbambojnifjcaaWideShC
set_option linter.unusedVariables false
set_option linter.unusedSimpArgs false
namespace Go.Proofs.Ytkbambojnifjcaa
section
open Go Go.RowKit Go.Proofs
attribute [local irreducible] wc pw bl bitN fl shlW shrW Calls cmpW dfold
theorem wideShifted_walk (a k : Nat) (ha : a < M4) (hk : k ≤ 255) (w : World) : Calls Try.prog 8 #[.agg (wc a), .int .u8 (k : Int)] w fun e w' => e = .returned (.bool true) ∧ Below w.heap.size w w' := by
  have hp : 2 ^ k < M4 := by rw [M4_pow]; exact Nat.pow_lt_pow_right (by decide) (by omega)
  have hp0 := Nat.two_pow_pos k
  have hh2 : k / 2 ≤ 255 := by omega
  have h1 := fun w => alive9 w
  have h2 := fun w => of12 1 (by decide) w
  have h3 := fun w => left21 1 (k : Int) (by decide) (by omega) w
  rw [shlW_nat 1 k (by decide), Nat.one_mul, Nat.mod_eq_of_lt hp] at h3
  have h4 := fun w => mul10 a (2 ^ k) ha hp w
  have h5 := fun w => div16 a (2 ^ k) ha hp0 hp w
  have h6 := fun w => left21 a (k : Int) ha (by omega) w
  rw [shlW_nat a k ha] at h6
  have h7 := fun w => right23 a (k : Int) ha (by omega) w
  rw [shrW_nat] at h7
  have h8 := fun w => len26 (2 ^ k) hp w
  rw [blen_two] at h8
  have hql : a / 2 ^ k < M4 := Nat.lt_of_le_of_lt (Nat.div_le_self _ _) ha
  have h9 := fun w => len26 (a / 2 ^ k) hql w
  rw [blen_div] at h9
  have hla := blen_le a ha
  have hmx : ((blen a - k : Nat) : Int) = max 0 ((blen a : Int) - (k : Int)) := by omega
  rw [hmx] at h9
  have h10 := fun w => len26 a ha w
  have hfl : a * 2 ^ (k / 2) % M4 < M4 := Nat.mod_lt _ (by decide)
  have h13 := fun w => left21 a ((k / 2 : Nat) : Int) ha (by omega) w
  rw [shlW_nat a _ ha] at h13
  have h14 := fun w => right23 (a * 2 ^ (k / 2) % M4) ((k / 2 : Nat) : Int) hfl (by omega) w
  rw [shrW_nat] at h14
  have hhl := half_le a (k / 2)
  have h15 := fun w => compare15 (a * 2 ^ (k / 2) % M4 / 2 ^ (k / 2)) a (by omega) ha w
  have hcv : cmpW (a * 2 ^ (k / 2) % M4 / 2 ^ (k / 2)) a ≤ 0 := by unfold cmpW; split; decide; rw [if_pos (by omega)]; decide
  have h16 := fun w => left21 (a * 2 ^ (k / 2) % M4) ((k - k / 2 : Nat) : Int) hfl (by omega) w
  rw [shlW_nat _ _ hfl, shl_shl, show k / 2 + (k - k / 2) = k by omega] at h16
  have h8' : ∀ w, Calls Try.prog 26 #[.agg (wc (2 ^ k))] w fun e' w' => e' = .returned (.int .i64 ((k : Int) + 1)) ∧ Below w.heap.size w w' := h8
  by_cases hs : blen a + k ≤ 256
  · have hf := shl_fits a k hs
    have hml : a * 2 ^ k % M4 = a * 2 ^ k := Nat.mod_eq_of_lt hf
    have h11 := fun w => right23 (a * 2 ^ k % M4) (k : Int) (Nat.mod_lt _ (by decide)) (by omega) w
    rw [shrW_nat] at h11
    have hback : a * 2 ^ k % M4 / 2 ^ k = a := by rw [hml, Nat.mul_div_cancel _ hp0]
    rw [hback] at h11
    have hne := run_ne24 a 0 ha (by decide)
    rw [wc_zero] at hne
    by_cases h0 : a = 0
    · rw [decide_eq_true h0] at hne
      exact shf_B a k _ _ _ _ _ _ _ _ _ _ _ _ _ _ w h1 h2 h3 h4 h5 h6 h7 h8' h9 h10 h13 h14 h15 h16 h11 hk hla rfl rfl rfl rfl rfl hcv hs hne
    · rw [decide_eq_false h0] at hne
      have h12 := fun w => len26 (a * 2 ^ k % M4) (Nat.mod_lt _ (by decide)) w
      rw [hml, blen_mul a k h0, ← hml] at h12
      exact shf_C a k _ _ _ _ _ _ _ _ _ _ _ _ _ _ w h1 h2 h3 h4 h5 h6 h7 h8' h9 h10 h13 h14 h15 h16 h11 h12 hk hla rfl rfl rfl rfl rfl hcv hs hne
  · exact shf_A a k _ _ _ _ _ _ _ _ _ _ _ _ _ _ w h1 h2 h3 h4 h5 h6 h7 h8' h9 h10 h13 h14 h15 h16 hk hla rfl rfl rfl rfl rfl hcv (by omega)
end
end Go.Proofs.Ytkbambojnifjcaa
