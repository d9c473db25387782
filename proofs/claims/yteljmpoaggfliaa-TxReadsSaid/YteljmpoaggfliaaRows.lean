/-
  No cell of these rows narrows 'for every input' (looked for: loops, veiled, ifaces, maps, wideKeys, modest, calm, conditions, laid).
  DERIVED. THE GIVEN ROWS OF THIS SEAT. 10 by the template 'for every input the law returns true; each argument reads behind the call as it read before'; 0 by the template 'total and deterministic' (their statements: YteljmpoaggfliaaTotals.lean).
  GIVEN WITH THE SEED: the statements are not yours to turn. If you find one false, say at which input.
  Laid BY PROGRAM, IN A SANDBOX (cutbox-rows.mjs): the forced cells as the released guide's own fill.sh prints them over the translation f76afd5b5edfdf30… (all of the seat's roots in one cut). By AI agents, Wed Nov 11 2026. No macro, syntax, notation, axiom, sorry.
-/
import Derived.Test.YteljmpoaggfliaaChecked
import GoSem.Claim
import GoSem.ClaimJoined
import GoSem.ClaimMapViews
import Derived.JoinedTies
import Derived.KernelRfl
namespace Go.Proofs.Yteljmpoaggfliaa
/- THE CELL 'sum', in the pinned program and in every row, IS THE sha256 OF THE DUMP (.gsa) THAT YteljmpoaggfliaaProg.lean LOADS. Nothing in Lean hashes anything: it is a label: what it is worth is what the hold of that sum in a sandbox is worth. -/
noncomputable def Try.pinned : Pinned := { name := "yteljmpoaggfliaa", sum := "f76afd5b5edfdf309207a3a683d28b630df3c6a443b44ccc802af692e4d624ef", checked := Try.checked }
namespace Rows
def none {H : Type} : Left H := { results := [], args := [] }

/-- 'purserlaw20.CoinParts': WHATEVER THE INPUT: true; the input reads as it did. -/
def coinPartsSpec : ChangeSpec := { name := "coinParts", fn := fun _ => fun
  | [d1, d2, d3, d4] => { results := [.lit (.bool true)], args := [d1, d2, d3, d4] }
  | _ => none }
def coinPartsRow : OpenClaim := { program := "yteljmpoaggfliaa", sum := "f76afd5b5edfdf309207a3a683d28b630df3c6a443b44ccc802af692e4d624ef", func := "purser/purserlaw20.CoinParts", spec := "coinParts", inPlace := ["internal/bytealg.Compare"], unfollowed := true, recurses := true, plainKeys := false, apart := false }
def CoinPartsSaid : Prop := coinPartsRow.holds Try.pinned (OpenSpec.ofChange coinPartsSpec)

/-- ITS FALSE NEIGHBOUR: 'it returns false'. Refute it at one input. -/
def coinPartsWrong : ChangeSpec := { name := "coinParts", fn := fun _ => fun
  | [d1, d2, d3, d4] => { results := [.lit (.bool false)], args := [d1, d2, d3, d4] }
  | _ => none }
def CoinPartsWrongFalsely : Prop := coinPartsRow.holds Try.pinned (OpenSpec.ofChange coinPartsWrong)

/-- 'purserlaw06.TxReads': WHATEVER THE INPUT: true; the input reads as it did. -/
def txReadsSpec : ChangeSpec := { name := "txReads", fn := fun _ => fun
  | [d] => { results := [.lit (.bool true)], args := [d] }
  | _ => none }
def txReadsRow : OpenClaim := { program := "yteljmpoaggfliaa", sum := "f76afd5b5edfdf309207a3a683d28b630df3c6a443b44ccc802af692e4d624ef", func := "purser/purserlaw06.TxReads", spec := "txReads", unfollowed := true, recurses := true, plainKeys := false, apart := false }
def TxReadsSaid : Prop := txReadsRow.holds Try.pinned (OpenSpec.ofChange txReadsSpec)

/-- ITS FALSE NEIGHBOUR: 'it returns false'. Refute it at one input. -/
def txReadsWrong : ChangeSpec := { name := "txReads", fn := fun _ => fun
  | [d] => { results := [.lit (.bool false)], args := [d] }
  | _ => none }
def TxReadsWrongFalsely : Prop := txReadsRow.holds Try.pinned (OpenSpec.ofChange txReadsWrong)

/-- 'purserlaw06.TxLong': WHATEVER THE INPUT: true; the input reads as it did. -/
def txLongSpec : ChangeSpec := { name := "txLong", fn := fun _ => fun
  | [d] => { results := [.lit (.bool true)], args := [d] }
  | _ => none }
def txLongRow : OpenClaim := { program := "yteljmpoaggfliaa", sum := "f76afd5b5edfdf309207a3a683d28b630df3c6a443b44ccc802af692e4d624ef", func := "purser/purserlaw06.TxLong", spec := "txLong", inPlace := ["internal/bytealg.MakeNoZero", "internal/abi.NoEscape"], unfollowed := true, recurses := true, plainKeys := false, apart := false }
def TxLongSaid : Prop := txLongRow.holds Try.pinned (OpenSpec.ofChange txLongSpec)

/-- ITS FALSE NEIGHBOUR: 'it returns false'. Refute it at one input. -/
def txLongWrong : ChangeSpec := { name := "txLong", fn := fun _ => fun
  | [d] => { results := [.lit (.bool false)], args := [d] }
  | _ => none }
def TxLongWrongFalsely : Prop := txLongRow.holds Try.pinned (OpenSpec.ofChange txLongWrong)

/-- 'purserlaw20.CoinThere': WHATEVER THE INPUT: true; the input reads as it did. -/
def coinThereSpec : ChangeSpec := { name := "coinThere", fn := fun _ => fun
  | [d1, d2, d3] => { results := [.lit (.bool true)], args := [d1, d2, d3] }
  | _ => none }
def coinThereRow : OpenClaim := { program := "yteljmpoaggfliaa", sum := "f76afd5b5edfdf309207a3a683d28b630df3c6a443b44ccc802af692e4d624ef", func := "purser/purserlaw20.CoinThere", spec := "coinThere", inPlace := ["internal/bytealg.MakeNoZero", "internal/abi.NoEscape"], unfollowed := true, recurses := true, plainKeys := false, apart := false }
def CoinThereSaid : Prop := coinThereRow.holds Try.pinned (OpenSpec.ofChange coinThereSpec)

/-- ITS FALSE NEIGHBOUR: 'it returns false'. Refute it at one input. -/
def coinThereWrong : ChangeSpec := { name := "coinThere", fn := fun _ => fun
  | [d1, d2, d3] => { results := [.lit (.bool false)], args := [d1, d2, d3] }
  | _ => none }
def CoinThereWrongFalsely : Prop := coinThereRow.holds Try.pinned (OpenSpec.ofChange coinThereWrong)

/-- 'purserlaw20.CoinForms': WHATEVER THE INPUT: true; the input reads as it did. -/
def coinFormsSpec : ChangeSpec := { name := "coinForms", fn := fun _ => fun
  | [d1, d2] => { results := [.lit (.bool true)], args := [d1, d2] }
  | _ => none }
def coinFormsRow : OpenClaim := { program := "yteljmpoaggfliaa", sum := "f76afd5b5edfdf309207a3a683d28b630df3c6a443b44ccc802af692e4d624ef", func := "purser/purserlaw20.CoinForms", spec := "coinForms", inPlace := ["internal/bytealg.MakeNoZero"], unfollowed := true, recurses := true, plainKeys := false, apart := false }
def CoinFormsSaid : Prop := coinFormsRow.holds Try.pinned (OpenSpec.ofChange coinFormsSpec)

/-- ITS FALSE NEIGHBOUR: 'it returns false'. Refute it at one input. -/
def coinFormsWrong : ChangeSpec := { name := "coinForms", fn := fun _ => fun
  | [d1, d2] => { results := [.lit (.bool false)], args := [d1, d2] }
  | _ => none }
def CoinFormsWrongFalsely : Prop := coinFormsRow.holds Try.pinned (OpenSpec.ofChange coinFormsWrong)

/-- 'purserlaw06.TxSorted': WHATEVER THE INPUT: true; the input reads as it did. -/
def txSortedSpec : ChangeSpec := { name := "txSorted", fn := fun _ => fun
  | [d1, d2, d3] => { results := [.lit (.bool true)], args := [d1, d2, d3] }
  | _ => none }
def txSortedRow : OpenClaim := { program := "yteljmpoaggfliaa", sum := "f76afd5b5edfdf309207a3a683d28b630df3c6a443b44ccc802af692e4d624ef", func := "purser/purserlaw06.TxSorted", spec := "txSorted", inPlace := ["internal/bytealg.MakeNoZero", "internal/abi.NoEscape", "internal/bytealg.Compare"], unfollowed := true, recurses := true, plainKeys := false, apart := false }
def TxSortedSaid : Prop := txSortedRow.holds Try.pinned (OpenSpec.ofChange txSortedSpec)

/-- ITS FALSE NEIGHBOUR: 'it returns false'. Refute it at one input. -/
def txSortedWrong : ChangeSpec := { name := "txSorted", fn := fun _ => fun
  | [d1, d2, d3] => { results := [.lit (.bool false)], args := [d1, d2, d3] }
  | _ => none }
def TxSortedWrongFalsely : Prop := txSortedRow.holds Try.pinned (OpenSpec.ofChange txSortedWrong)

/-- 'purserlaw20.CoinSorted': WHATEVER THE INPUT: true; the input reads as it did. -/
def coinSortedSpec : ChangeSpec := { name := "coinSorted", fn := fun _ => fun
  | [d1, d2, d3] => { results := [.lit (.bool true)], args := [d1, d2, d3] }
  | _ => none }
def coinSortedRow : OpenClaim := { program := "yteljmpoaggfliaa", sum := "f76afd5b5edfdf309207a3a683d28b630df3c6a443b44ccc802af692e4d624ef", func := "purser/purserlaw20.CoinSorted", spec := "coinSorted", inPlace := ["internal/bytealg.MakeNoZero", "internal/abi.NoEscape", "internal/bytealg.Compare"], unfollowed := true, recurses := true, plainKeys := false, apart := false }
def CoinSortedSaid : Prop := coinSortedRow.holds Try.pinned (OpenSpec.ofChange coinSortedSpec)

/-- ITS FALSE NEIGHBOUR: 'it returns false'. Refute it at one input. -/
def coinSortedWrong : ChangeSpec := { name := "coinSorted", fn := fun _ => fun
  | [d1, d2, d3] => { results := [.lit (.bool false)], args := [d1, d2, d3] }
  | _ => none }
def CoinSortedWrongFalsely : Prop := coinSortedRow.holds Try.pinned (OpenSpec.ofChange coinSortedWrong)

/-- 'purserlaw06.TxBack': WHATEVER THE INPUT: true; the input reads as it did. -/
def txBackSpec : ChangeSpec := { name := "txBack", fn := fun _ => fun
  | [d1, d2, d3] => { results := [.lit (.bool true)], args := [d1, d2, d3] }
  | _ => none }
def txBackRow : OpenClaim := { program := "yteljmpoaggfliaa", sum := "f76afd5b5edfdf309207a3a683d28b630df3c6a443b44ccc802af692e4d624ef", func := "purser/purserlaw06.TxBack", spec := "txBack", inPlace := ["internal/bytealg.MakeNoZero", "internal/abi.NoEscape"], unfollowed := true, recurses := true, plainKeys := false, apart := false }
def TxBackSaid : Prop := txBackRow.holds Try.pinned (OpenSpec.ofChange txBackSpec)

/-- ITS FALSE NEIGHBOUR: 'it returns false'. Refute it at one input. -/
def txBackWrong : ChangeSpec := { name := "txBack", fn := fun _ => fun
  | [d1, d2, d3] => { results := [.lit (.bool false)], args := [d1, d2, d3] }
  | _ => none }
def TxBackWrongFalsely : Prop := txBackRow.holds Try.pinned (OpenSpec.ofChange txBackWrong)

/-- 'purserlaw20.CoinBack': WHATEVER THE INPUT: true; the input reads as it did. -/
def coinBackSpec : ChangeSpec := { name := "coinBack", fn := fun _ => fun
  | [d1, d2, d3] => { results := [.lit (.bool true)], args := [d1, d2, d3] }
  | _ => none }
def coinBackRow : OpenClaim := { program := "yteljmpoaggfliaa", sum := "f76afd5b5edfdf309207a3a683d28b630df3c6a443b44ccc802af692e4d624ef", func := "purser/purserlaw20.CoinBack", spec := "coinBack", inPlace := ["internal/bytealg.MakeNoZero", "internal/abi.NoEscape"], unfollowed := true, recurses := true, plainKeys := false, apart := false }
def CoinBackSaid : Prop := coinBackRow.holds Try.pinned (OpenSpec.ofChange coinBackSpec)

/-- ITS FALSE NEIGHBOUR: 'it returns false'. Refute it at one input. -/
def coinBackWrong : ChangeSpec := { name := "coinBack", fn := fun _ => fun
  | [d1, d2, d3] => { results := [.lit (.bool false)], args := [d1, d2, d3] }
  | _ => none }
def CoinBackWrongFalsely : Prop := coinBackRow.holds Try.pinned (OpenSpec.ofChange coinBackWrong)

/-- 'purserlaw20.CoinNames': WHATEVER THE INPUT: true; the input reads as it did. -/
def coinNamesSpec : ChangeSpec := { name := "coinNames", fn := fun _ => fun
  | [] => { results := [.lit (.bool true)], args := [] }
  | _ => none }
def coinNamesRow : OpenClaim := { program := "yteljmpoaggfliaa", sum := "f76afd5b5edfdf309207a3a683d28b630df3c6a443b44ccc802af692e4d624ef", func := "purser/purserlaw20.CoinNames", spec := "coinNames", inPlace := ["internal/bytealg.MakeNoZero", "internal/abi.NoEscape", "internal/bytealg.Compare"], unfollowed := true, recurses := true, plainKeys := false, apart := false }
def CoinNamesSaid : Prop := coinNamesRow.holds Try.pinned (OpenSpec.ofChange coinNamesSpec)

/-- ITS FALSE NEIGHBOUR: 'it returns false'. Refute it at one input. -/
def coinNamesWrong : ChangeSpec := { name := "coinNames", fn := fun _ => fun
  | [] => { results := [.lit (.bool false)], args := [] }
  | _ => none }
def CoinNamesWrongFalsely : Prop := coinNamesRow.holds Try.pinned (OpenSpec.ofChange coinNamesWrong)

/- THE SECOND FORM. 'bulk': how many values and letters a reading holds, each counted each time it is reached (what is shared counts as often as it is met; a slice's spare places count too). A statement '..UptoSaid' is the law's where the arguments, and the package variables that the reading takes, are together of bulk at most 1048576: NARROWER than '..Said'. Prove '..Said' where nothing that the law and all that it calls make is longer than what came in: it says more and counts as full. Else prove '..UptoSaid'. A law counts once. -/
mutual
def uptoBulk {H : Type} : DataW H → Nat
  | .lit (.string bytes) => bytes.length + 1
  | .lit _ => 1
  | .nil => 1
  | .ptr d => uptoBulk d + 1
  | .slice elems spare => uptoBulkAll elems + uptoBulkAll spare + 1
  | .agg parts => uptoBulkAll parts + 1
  | .iface _ d => uptoBulk d + 1
  | .map entries => uptoBulkEntries entries + 1
  | .held _ => 1
def uptoBulkAll {H : Type} : List (DataW H) → Nat
  | [] => 0
  | d :: r => uptoBulk d + uptoBulkAll r
def uptoBulkEntries {H : Type} : List (Lit × DataW H) → Nat
  | [] => 0
  | x :: r => uptoBulkEntry x + uptoBulkEntries r
def uptoBulkEntry {H : Type} : Lit × DataW H → Nat
  | (.string bytes, d) => bytes.length + uptoBulk d + 1
  | (_, d) => uptoBulk d + 1
 end
def uptoSmall : (H : Type) → List (DataW H) → Bool := fun _ ds => decide (uptoBulkAll ds ≤ 1048576)
def OpenSpec.upto (s : _root_.Go.ChangeSpec) : _root_.Go.OpenSpec := { _root_.Go.OpenSpec.ofChange s with cond := some uptoSmall }

/-- 'purserlaw20.CoinParts', WHERE WHAT IT READS IS OF BULK AT MOST 1048576: true; the input reads as it did. -/
def coinPartsUptoRow : OpenClaim := { program := "yteljmpoaggfliaa", sum := "f76afd5b5edfdf309207a3a683d28b630df3c6a443b44ccc802af692e4d624ef", func := "purser/purserlaw20.CoinParts", spec := "coinParts", inPlace := ["internal/bytealg.Compare"], unfollowed := true, recurses := true, plainKeys := false, apart := false, narrowed := true }
def CoinPartsUptoSaid : Prop := coinPartsUptoRow.holds Try.pinned (OpenSpec.upto coinPartsSpec)

/-- 'purserlaw06.TxReads', WHERE WHAT IT READS IS OF BULK AT MOST 1048576: true; the input reads as it did. -/
def txReadsUptoRow : OpenClaim := { program := "yteljmpoaggfliaa", sum := "f76afd5b5edfdf309207a3a683d28b630df3c6a443b44ccc802af692e4d624ef", func := "purser/purserlaw06.TxReads", spec := "txReads", unfollowed := true, recurses := true, plainKeys := false, apart := false, narrowed := true }
def TxReadsUptoSaid : Prop := txReadsUptoRow.holds Try.pinned (OpenSpec.upto txReadsSpec)

/-- 'purserlaw06.TxLong', WHERE WHAT IT READS IS OF BULK AT MOST 1048576: true; the input reads as it did. -/
def txLongUptoRow : OpenClaim := { program := "yteljmpoaggfliaa", sum := "f76afd5b5edfdf309207a3a683d28b630df3c6a443b44ccc802af692e4d624ef", func := "purser/purserlaw06.TxLong", spec := "txLong", inPlace := ["internal/bytealg.MakeNoZero", "internal/abi.NoEscape"], unfollowed := true, recurses := true, plainKeys := false, apart := false, narrowed := true }
def TxLongUptoSaid : Prop := txLongUptoRow.holds Try.pinned (OpenSpec.upto txLongSpec)

/-- 'purserlaw20.CoinThere', WHERE WHAT IT READS IS OF BULK AT MOST 1048576: true; the input reads as it did. -/
def coinThereUptoRow : OpenClaim := { program := "yteljmpoaggfliaa", sum := "f76afd5b5edfdf309207a3a683d28b630df3c6a443b44ccc802af692e4d624ef", func := "purser/purserlaw20.CoinThere", spec := "coinThere", inPlace := ["internal/bytealg.MakeNoZero", "internal/abi.NoEscape"], unfollowed := true, recurses := true, plainKeys := false, apart := false, narrowed := true }
def CoinThereUptoSaid : Prop := coinThereUptoRow.holds Try.pinned (OpenSpec.upto coinThereSpec)

/-- 'purserlaw20.CoinForms', WHERE WHAT IT READS IS OF BULK AT MOST 1048576: true; the input reads as it did. -/
def coinFormsUptoRow : OpenClaim := { program := "yteljmpoaggfliaa", sum := "f76afd5b5edfdf309207a3a683d28b630df3c6a443b44ccc802af692e4d624ef", func := "purser/purserlaw20.CoinForms", spec := "coinForms", inPlace := ["internal/bytealg.MakeNoZero"], unfollowed := true, recurses := true, plainKeys := false, apart := false, narrowed := true }
def CoinFormsUptoSaid : Prop := coinFormsUptoRow.holds Try.pinned (OpenSpec.upto coinFormsSpec)

/-- 'purserlaw06.TxSorted', WHERE WHAT IT READS IS OF BULK AT MOST 1048576: true; the input reads as it did. -/
def txSortedUptoRow : OpenClaim := { program := "yteljmpoaggfliaa", sum := "f76afd5b5edfdf309207a3a683d28b630df3c6a443b44ccc802af692e4d624ef", func := "purser/purserlaw06.TxSorted", spec := "txSorted", inPlace := ["internal/bytealg.MakeNoZero", "internal/abi.NoEscape", "internal/bytealg.Compare"], unfollowed := true, recurses := true, plainKeys := false, apart := false, narrowed := true }
def TxSortedUptoSaid : Prop := txSortedUptoRow.holds Try.pinned (OpenSpec.upto txSortedSpec)

/-- 'purserlaw20.CoinSorted', WHERE WHAT IT READS IS OF BULK AT MOST 1048576: true; the input reads as it did. -/
def coinSortedUptoRow : OpenClaim := { program := "yteljmpoaggfliaa", sum := "f76afd5b5edfdf309207a3a683d28b630df3c6a443b44ccc802af692e4d624ef", func := "purser/purserlaw20.CoinSorted", spec := "coinSorted", inPlace := ["internal/bytealg.MakeNoZero", "internal/abi.NoEscape", "internal/bytealg.Compare"], unfollowed := true, recurses := true, plainKeys := false, apart := false, narrowed := true }
def CoinSortedUptoSaid : Prop := coinSortedUptoRow.holds Try.pinned (OpenSpec.upto coinSortedSpec)

/-- 'purserlaw06.TxBack', WHERE WHAT IT READS IS OF BULK AT MOST 1048576: true; the input reads as it did. -/
def txBackUptoRow : OpenClaim := { program := "yteljmpoaggfliaa", sum := "f76afd5b5edfdf309207a3a683d28b630df3c6a443b44ccc802af692e4d624ef", func := "purser/purserlaw06.TxBack", spec := "txBack", inPlace := ["internal/bytealg.MakeNoZero", "internal/abi.NoEscape"], unfollowed := true, recurses := true, plainKeys := false, apart := false, narrowed := true }
def TxBackUptoSaid : Prop := txBackUptoRow.holds Try.pinned (OpenSpec.upto txBackSpec)

/-- 'purserlaw20.CoinBack', WHERE WHAT IT READS IS OF BULK AT MOST 1048576: true; the input reads as it did. -/
def coinBackUptoRow : OpenClaim := { program := "yteljmpoaggfliaa", sum := "f76afd5b5edfdf309207a3a683d28b630df3c6a443b44ccc802af692e4d624ef", func := "purser/purserlaw20.CoinBack", spec := "coinBack", inPlace := ["internal/bytealg.MakeNoZero", "internal/abi.NoEscape"], unfollowed := true, recurses := true, plainKeys := false, apart := false, narrowed := true }
def CoinBackUptoSaid : Prop := coinBackUptoRow.holds Try.pinned (OpenSpec.upto coinBackSpec)

/-- 'purserlaw20.CoinNames', WHERE WHAT IT READS IS OF BULK AT MOST 1048576: true; the input reads as it did. -/
def coinNamesUptoRow : OpenClaim := { program := "yteljmpoaggfliaa", sum := "f76afd5b5edfdf309207a3a683d28b630df3c6a443b44ccc802af692e4d624ef", func := "purser/purserlaw20.CoinNames", spec := "coinNames", inPlace := ["internal/bytealg.MakeNoZero", "internal/abi.NoEscape", "internal/bytealg.Compare"], unfollowed := true, recurses := true, plainKeys := false, apart := false, narrowed := true }
def CoinNamesUptoSaid : Prop := coinNamesUptoRow.holds Try.pinned (OpenSpec.upto coinNamesSpec)

end Rows
end Go.Proofs.Yteljmpoaggfliaa
