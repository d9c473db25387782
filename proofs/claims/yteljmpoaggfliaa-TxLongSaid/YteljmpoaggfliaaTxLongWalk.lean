/- Contracts and words that the laws stand on (TxLongWalk). -/
import Derived.Test.YteljmpoaggfliaaTxE
set_option linter.unusedVariables false
set_option linter.unusedSimpArgs false
namespace Go.Proofs.Yteljmpoaggfliaa
section
open Go Go.RowKit Go.Proofs
attribute [local irreducible] Calls
theorem txLong_walk (cs : List Value) (w : World) (g : Rd Try.prog w 55 cs) : Calls Try.prog 5 #[.agg cs.toArray] w fun e w' => e = .returned (.bool true) ∧ Below w.heap.size w w' := by
  obtain ⟨t, rfl, hok, ht⟩ := tx_of g
  exact long5 t w hok ht
end
end Go.Proofs.Yteljmpoaggfliaa
