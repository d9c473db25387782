/-
  No cell of these rows narrows 'for every input' (looked for: loops, veiled, ifaces, maps, wideKeys, modest, calm, conditions, laid).
  DERIVED. THE GIVEN ROWS OF THIS SEAT. 5 by the template 'for every input the law returns true; each argument reads behind the call as it read before'; 0 by the template 'total and deterministic' (their statements: YtakeggdpnfibpaaTotals.lean).
  GIVEN WITH THE SEED: the statements are not yours to turn. If you find one false, say at which input.
  Laid BY PROGRAM, IN A SANDBOX (cutbox-rows.mjs): the forced cells as the released guide's own fill.sh prints them over the translation c93fd98c643f7571… (all of the seat's roots in one cut). By AI agents, Wed Nov 11 2026. No macro, syntax, notation, axiom, sorry.
-/
import Derived.Test.YtakeggdpnfibpaaChecked
import GoSem.Claim
import GoSem.ClaimJoined
import GoSem.ClaimMapViews
import Derived.JoinedTies
import Derived.KernelRfl
namespace Go.Proofs.Ytakeggdpnfibpaa
/- THE CELL 'sum', in the pinned program and in every row, IS THE sha256 OF THE DUMP (.gsa) THAT YtakeggdpnfibpaaProg.lean LOADS. Nothing in Lean hashes anything: it is a label: what it is worth is what the hold of that sum in a sandbox is worth. -/
noncomputable def Try.pinned : Pinned := { name := "ytakeggdpnfibpaa", sum := "c93fd98c643f7571c80edefdf9c3c1d0c1b5f744db101992f517165a385d36ea", checked := Try.checked }
namespace Rows
def none {H : Type} : Left H := { results := [], args := [] }

/-- 'purserlaw17.SegmentBack': WHATEVER THE INPUT: true; the input reads as it did. -/
def segmentBackSpec : ChangeSpec := { name := "segmentBack", fn := fun _ => fun
  | [d1, d2, d3] => { results := [.lit (.bool true)], args := [d1, d2, d3] }
  | _ => none }
def segmentBackRow : OpenClaim := { program := "ytakeggdpnfibpaa", sum := "c93fd98c643f7571c80edefdf9c3c1d0c1b5f744db101992f517165a385d36ea", func := "purser/purserlaw17.SegmentBack", spec := "segmentBack", inPlace := ["internal/bytealg.MakeNoZero"], unfollowed := true, recurses := true, apart := false }
def SegmentBackSaid : Prop := segmentBackRow.holds Try.pinned (OpenSpec.ofChange segmentBackSpec)

/-- ITS FALSE NEIGHBOUR: 'it returns false'. Refute it at one input. -/
def segmentBackWrong : ChangeSpec := { name := "segmentBack", fn := fun _ => fun
  | [d1, d2, d3] => { results := [.lit (.bool false)], args := [d1, d2, d3] }
  | _ => none }
def SegmentBackWrongFalsely : Prop := segmentBackRow.holds Try.pinned (OpenSpec.ofChange segmentBackWrong)

/-- 'purserlaw17.SegmentRuns': WHATEVER THE INPUT: true; the input reads as it did. -/
def segmentRunsSpec : ChangeSpec := { name := "segmentRuns", fn := fun _ => fun
  | [d1, d2, d3, d4] => { results := [.lit (.bool true)], args := [d1, d2, d3, d4] }
  | _ => none }
def segmentRunsRow : OpenClaim := { program := "ytakeggdpnfibpaa", sum := "c93fd98c643f7571c80edefdf9c3c1d0c1b5f744db101992f517165a385d36ea", func := "purser/purserlaw17.SegmentRuns", spec := "segmentRuns", inPlace := ["internal/bytealg.MakeNoZero"], unfollowed := true, recurses := true, apart := false }
def SegmentRunsSaid : Prop := segmentRunsRow.holds Try.pinned (OpenSpec.ofChange segmentRunsSpec)

/-- ITS FALSE NEIGHBOUR: 'it returns false'. Refute it at one input. -/
def segmentRunsWrong : ChangeSpec := { name := "segmentRuns", fn := fun _ => fun
  | [d1, d2, d3, d4] => { results := [.lit (.bool false)], args := [d1, d2, d3, d4] }
  | _ => none }
def SegmentRunsWrongFalsely : Prop := segmentRunsRow.holds Try.pinned (OpenSpec.ofChange segmentRunsWrong)

/-- 'purserlaw17.SegmentOnly': WHATEVER THE INPUT: true; the input reads as it did. -/
def segmentOnlySpec : ChangeSpec := { name := "segmentOnly", fn := fun _ => fun
  | [d1, d2] => { results := [.lit (.bool true)], args := [d1, d2] }
  | _ => none }
def segmentOnlyRow : OpenClaim := { program := "ytakeggdpnfibpaa", sum := "c93fd98c643f7571c80edefdf9c3c1d0c1b5f744db101992f517165a385d36ea", func := "purser/purserlaw17.SegmentOnly", spec := "segmentOnly", inPlace := ["internal/bytealg.MakeNoZero"], unfollowed := true, recurses := true, apart := false }
def SegmentOnlySaid : Prop := segmentOnlyRow.holds Try.pinned (OpenSpec.ofChange segmentOnlySpec)

/-- ITS FALSE NEIGHBOUR: 'it returns false'. Refute it at one input. -/
def segmentOnlyWrong : ChangeSpec := { name := "segmentOnly", fn := fun _ => fun
  | [d1, d2] => { results := [.lit (.bool false)], args := [d1, d2] }
  | _ => none }
def SegmentOnlyWrongFalsely : Prop := segmentOnlyRow.holds Try.pinned (OpenSpec.ofChange segmentOnlyWrong)

/-- 'purserlaw17.SegmentOrder': WHATEVER THE INPUT: true; the input reads as it did. -/
def segmentOrderSpec : ChangeSpec := { name := "segmentOrder", fn := fun _ => fun
  | [d1, d2] => { results := [.lit (.bool true)], args := [d1, d2] }
  | _ => none }
def segmentOrderRow : OpenClaim := { program := "ytakeggdpnfibpaa", sum := "c93fd98c643f7571c80edefdf9c3c1d0c1b5f744db101992f517165a385d36ea", func := "purser/purserlaw17.SegmentOrder", spec := "segmentOrder", inPlace := ["internal/bytealg.MakeNoZero"], unfollowed := true, recurses := true, apart := false }
def SegmentOrderSaid : Prop := segmentOrderRow.holds Try.pinned (OpenSpec.ofChange segmentOrderSpec)

/-- ITS FALSE NEIGHBOUR: 'it returns false'. Refute it at one input. -/
def segmentOrderWrong : ChangeSpec := { name := "segmentOrder", fn := fun _ => fun
  | [d1, d2] => { results := [.lit (.bool false)], args := [d1, d2] }
  | _ => none }
def SegmentOrderWrongFalsely : Prop := segmentOrderRow.holds Try.pinned (OpenSpec.ofChange segmentOrderWrong)

/-- 'purserlaw17.SegmentReads': WHATEVER THE INPUT: true; the input reads as it did. -/
def segmentReadsSpec : ChangeSpec := { name := "segmentReads", fn := fun _ => fun
  | [d1, d2, d3] => { results := [.lit (.bool true)], args := [d1, d2, d3] }
  | _ => none }
def segmentReadsRow : OpenClaim := { program := "ytakeggdpnfibpaa", sum := "c93fd98c643f7571c80edefdf9c3c1d0c1b5f744db101992f517165a385d36ea", func := "purser/purserlaw17.SegmentReads", spec := "segmentReads", inPlace := ["internal/bytealg.MakeNoZero"], unfollowed := true, recurses := true, apart := false }
def SegmentReadsSaid : Prop := segmentReadsRow.holds Try.pinned (OpenSpec.ofChange segmentReadsSpec)

/-- ITS FALSE NEIGHBOUR: 'it returns false'. Refute it at one input. -/
def segmentReadsWrong : ChangeSpec := { name := "segmentReads", fn := fun _ => fun
  | [d1, d2, d3] => { results := [.lit (.bool false)], args := [d1, d2, d3] }
  | _ => none }
def SegmentReadsWrongFalsely : Prop := segmentReadsRow.holds Try.pinned (OpenSpec.ofChange segmentReadsWrong)

/- THE SECOND FORM. 'bulk': how many values and letters a reading holds, each counted each time it is reached (what is shared counts as often as it is met; a slice's spare places count too). A statement '..UptoSaid' is the law's where the arguments, and the package variables that the reading takes, are together of bulk at most 1048576: NARROWER than '..Said'. Prove '..Said' where nothing that the law and all that it calls make is longer than what came in: it says more and counts as full. Else prove '..UptoSaid'. A law counts once. -/
mutual
def uptoBulk {H : Type} : DataW H → Nat
  | .lit (.string bytes) => bytes.length + 1
  | .lit _ => 1
  | .nil => 1
  | .ptr d => uptoBulk d + 1
  | .slice elems spare => uptoBulkAll elems + uptoBulkAll spare + 1
  | .agg parts => uptoBulkAll parts + 1
  | .iface _ d => uptoBulk d + 1
  | .map entries => uptoBulkEntries entries + 1
  | .held _ => 1
def uptoBulkAll {H : Type} : List (DataW H) → Nat
  | [] => 0
  | d :: r => uptoBulk d + uptoBulkAll r
def uptoBulkEntries {H : Type} : List (Lit × DataW H) → Nat
  | [] => 0
  | x :: r => uptoBulkEntry x + uptoBulkEntries r
def uptoBulkEntry {H : Type} : Lit × DataW H → Nat
  | (.string bytes, d) => bytes.length + uptoBulk d + 1
  | (_, d) => uptoBulk d + 1
 end
def uptoSmall : (H : Type) → List (DataW H) → Bool := fun _ ds => decide (uptoBulkAll ds ≤ 1048576)
def OpenSpec.upto (s : _root_.Go.ChangeSpec) : _root_.Go.OpenSpec := { _root_.Go.OpenSpec.ofChange s with cond := some uptoSmall }

/-- 'purserlaw17.SegmentBack', WHERE WHAT IT READS IS OF BULK AT MOST 1048576: true; the input reads as it did. -/
def segmentBackUptoRow : OpenClaim := { program := "ytakeggdpnfibpaa", sum := "c93fd98c643f7571c80edefdf9c3c1d0c1b5f744db101992f517165a385d36ea", func := "purser/purserlaw17.SegmentBack", spec := "segmentBack", inPlace := ["internal/bytealg.MakeNoZero"], unfollowed := true, recurses := true, apart := false, narrowed := true }
def SegmentBackUptoSaid : Prop := segmentBackUptoRow.holds Try.pinned (OpenSpec.upto segmentBackSpec)

/-- 'purserlaw17.SegmentRuns', WHERE WHAT IT READS IS OF BULK AT MOST 1048576: true; the input reads as it did. -/
def segmentRunsUptoRow : OpenClaim := { program := "ytakeggdpnfibpaa", sum := "c93fd98c643f7571c80edefdf9c3c1d0c1b5f744db101992f517165a385d36ea", func := "purser/purserlaw17.SegmentRuns", spec := "segmentRuns", inPlace := ["internal/bytealg.MakeNoZero"], unfollowed := true, recurses := true, apart := false, narrowed := true }
def SegmentRunsUptoSaid : Prop := segmentRunsUptoRow.holds Try.pinned (OpenSpec.upto segmentRunsSpec)

/-- 'purserlaw17.SegmentOnly', WHERE WHAT IT READS IS OF BULK AT MOST 1048576: true; the input reads as it did. -/
def segmentOnlyUptoRow : OpenClaim := { program := "ytakeggdpnfibpaa", sum := "c93fd98c643f7571c80edefdf9c3c1d0c1b5f744db101992f517165a385d36ea", func := "purser/purserlaw17.SegmentOnly", spec := "segmentOnly", inPlace := ["internal/bytealg.MakeNoZero"], unfollowed := true, recurses := true, apart := false, narrowed := true }
def SegmentOnlyUptoSaid : Prop := segmentOnlyUptoRow.holds Try.pinned (OpenSpec.upto segmentOnlySpec)

/-- 'purserlaw17.SegmentOrder', WHERE WHAT IT READS IS OF BULK AT MOST 1048576: true; the input reads as it did. -/
def segmentOrderUptoRow : OpenClaim := { program := "ytakeggdpnfibpaa", sum := "c93fd98c643f7571c80edefdf9c3c1d0c1b5f744db101992f517165a385d36ea", func := "purser/purserlaw17.SegmentOrder", spec := "segmentOrder", inPlace := ["internal/bytealg.MakeNoZero"], unfollowed := true, recurses := true, apart := false, narrowed := true }
def SegmentOrderUptoSaid : Prop := segmentOrderUptoRow.holds Try.pinned (OpenSpec.upto segmentOrderSpec)

/-- 'purserlaw17.SegmentReads', WHERE WHAT IT READS IS OF BULK AT MOST 1048576: true; the input reads as it did. -/
def segmentReadsUptoRow : OpenClaim := { program := "ytakeggdpnfibpaa", sum := "c93fd98c643f7571c80edefdf9c3c1d0c1b5f744db101992f517165a385d36ea", func := "purser/purserlaw17.SegmentReads", spec := "segmentReads", inPlace := ["internal/bytealg.MakeNoZero"], unfollowed := true, recurses := true, apart := false, narrowed := true }
def SegmentReadsUptoSaid : Prop := segmentReadsUptoRow.holds Try.pinned (OpenSpec.upto segmentReadsSpec)

end Rows
end Go.Proofs.Ytakeggdpnfibpaa
