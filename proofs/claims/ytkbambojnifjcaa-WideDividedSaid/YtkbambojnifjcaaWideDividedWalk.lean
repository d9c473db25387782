/- Contracts and words that the laws stand on (WideDividedWalk). -/
import Derived.Test.YtkbambojnifjcaaWideDivX
import Derived.Test.YtkbambojnifjcaaWideDivY
import Derived.Test.YtkbambojnifjcaaWideDivZ
set_option linter.unusedVariables false
set_option linter.unusedSimpArgs false
namespace Go.Proofs.Ytkbambojnifjcaa
section
open Go Go.RowKit Go.Proofs
attribute [local irreducible] wc pw bl bitN fl shlW shrW Calls cmpW dfold
set_option maxHeartbeats 4000000 in
set_option maxRecDepth 100000 in
theorem wideDivided_walk1 (a b c : Nat) (ha : a < M4) (hb0 : 0 < b) (hb : b < M4) (hc : c < M4) (w : World) : Calls Try.prog 7 #[.agg (wc a), .agg (wc b), .agg (wc c)] w fun e w' => e = .returned (.bool true) ∧ Below w.heap.size w w' := by
  have HS := Lib.hid (St.start w)
  have h1 := fun w => alive9 w
  have h2 := fun w => div16 a b ha hb0 hb w
  have hql : a / b < M4 := Nat.lt_of_le_of_lt (Nat.div_le_self _ _) ha
  have hrl : a % b < b := Nat.mod_lt _ hb0
  have hqb : a / b * b ≤ a := Nat.div_mul_le_self a b
  have hdm : a / b * b + a % b = a := by rw [Nat.mul_comm]; exact Nat.div_add_mod a b
  have h3 := fun w => mul10 (a / b) b hql hb w
  rw [Nat.mod_eq_of_lt (Nat.lt_of_le_of_lt hqb ha), Nat.div_eq_of_lt (Nat.lt_of_le_of_lt hqb ha)] at h3
  have h4 := fun w => add11 (a / b * b) (a % b) (by omega) (by omega) w
  rw [hdm, Nat.mod_eq_of_lt ha, decide_eq_false (Nat.not_le.2 ha)] at h4
  have h5 := fun w => compare15 (a % b) b (by omega) hb w
  rw [show cmpW (a % b) b = -1 from by unfold cmpW; rw [if_neg (by omega), if_pos hrl]] at h5
  have h6 := fun w => div16 c b hc hb0 hb w
  have hsl : c % b < b := Nat.mod_lt _ hb0
  have h7 := fun w => mul10 a b ha hb w
  have h8 := fun w => add11 (a * b % M4) (c % b) (Nat.mod_lt _ (by decide)) (by omega) w
  have hne := run_ne24 (a * b / M4) 0 (by
    have : a * b < M4 * M4 := Nat.mul_lt_mul_of_lt_of_lt ha hb
    rw [Nat.div_lt_iff_lt_mul (by decide)]; exact this) (by decide)
  rw [wc_zero] at hne
  have hcase : (a * b / M4 = 0 → M4 ≤ a * b % M4 + c % b ∨ (∀ w, Calls Try.prog 16 #[.agg (wc ((a * b % M4 + c % b) % M4)), .agg (wc b)] w fun e w' => e = .returned (.tuple #[.agg (wc a), .agg (wc (c % b)), .int .i64 0]) ∧ Below w.heap.size w w')) := by
    intro hh
    by_cases ho : M4 ≤ a * b % M4 + c % b
    · exact .inl ho
    · refine .inr fun w => ?_
      have hab : a * b % M4 = a * b := Nat.mod_eq_of_lt (by
        rcases Nat.lt_or_ge (a * b) M4 with h | h
        · exact h
        · have := Nat.div_pos h (by decide : 0 < M4); omega)
      have hs : (a * b % M4 + c % b) % M4 = a * b % M4 + c % b := Nat.mod_eq_of_lt (by omega)
      have := div16 ((a * b % M4 + c % b) % M4) b (Nat.mod_lt _ (by decide)) hb0 hb w
      rw [hs, hab] at this ⊢
      have d1 : (a * b + c % b) / b = a := by rw [Nat.mul_comm, Nat.mul_add_div hb0, Nat.div_eq_of_lt hsl, Nat.add_zero]
      have d2 : (a * b + c % b) % b = c % b := by rw [Nat.mul_comm, Nat.mul_add_mod, Nat.mod_eq_of_lt hsl]
      rwa [d1, d2] at this
  have hbz := run_eq24 b 0 hb (by decide)
  rw [decide_eq_false (by omega), wc_zero] at hbz
  by_cases hh : a * b / M4 = 0
  · rw [hh] at h7
    rcases hcase hh with ho | h9
    · rw [decide_eq_true ho] at h8
      exact divd_Y a b c _ _ _ _ _ _ _ w h1 h2 h3 h4 h5 h6 h7 h8 hbz (fun w => by rw [← wc_zero]; exact ne_self 0 w)
    · by_cases ho : M4 ≤ a * b % M4 + c % b
      · rw [decide_eq_true ho] at h8
        exact divd_Y a b c _ _ _ _ _ _ _ w h1 h2 h3 h4 h5 h6 h7 h8 hbz (fun w => by rw [← wc_zero]; exact ne_self 0 w)
      · rw [decide_eq_false ho] at h8
        exact divd_Z a b c _ _ _ _ _ _ _ w h1 h2 h3 h4 h5 h6 h7 h8 hbz (fun w => by rw [← wc_zero]; exact ne_self 0 w) h9
  · rw [decide_eq_false hh] at hne
    exact divd_X a b c _ _ _ _ _ _ _ _ _ w h1 h2 h3 h4 h5 h6 h7 h8 hbz (fun w => by rw [← wc_zero]; exact ne_self 0 w) hne
theorem wideDivided_walk (a b c : Nat) (ha : a < M4) (hb : b < M4) (hc : c < M4) (w : World) : Calls Try.prog 7 #[.agg (wc a), .agg (wc b), .agg (wc c)] w fun e w' => e = .returned (.bool true) ∧ Below w.heap.size w w' := by
  by_cases h : b = 0
  · subst h; exact wideDivided_walk0 a c w
  · exact wideDivided_walk1 a b c ha (by omega) hb hc w
end
end Go.Proofs.Ytkbambojnifjcaa
