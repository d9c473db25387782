/- Contracts and words that the laws stand on (TxQ). -/
import Derived.Test.YteljmpoaggfliaaTxF
set_option linter.unusedVariables false
set_option linter.unusedSimpArgs false
namespace Go.Proofs.Yteljmpoaggfliaa
section
open Go Go.RowKit Go.Proofs
/-- Outpoints are alike just if their hashes and numbers are. -/
theorem eqPt (d : Nat) (xs ys : List UInt8) (n m : Int) (hx : xs.length = 32) (hy : ys.length = 32) (W : World) : (Op.equalIn (d + 3) 44 (.agg (bs xs ++ [Value.int .u32 n]).toArray) (.agg (bs ys ++ [Value.int .u32 m]).toArray)).run Try.prog W = .ok (decide (xs = ys ∧ n = m)) W := by
  have hq0 : ∀ W, (Op.equalIn (d + 2) 23 (.agg (bs xs).toArray) (.agg (bs ys).toArray)).run Try.prog W = .ok (decide (xs = ys)) W := fun W => eqH d xs ys hx hy W
  have t1 := take_pt xs (Value.int .u32 n) hx
  have t2 := take_pt ys (Value.int .u32 m) hy
  have p1 := pt_32 xs n hx
  have p2 := pt_32 ys m hy
  go_simp
  by_cases h : xs = ys
  · by_cases h2 : n = m
    · simp [h, h2]
    · simp [h, h2]
  · simp [h]
end
end Go.Proofs.Yteljmpoaggfliaa
