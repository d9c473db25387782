/-
  No cell of these rows narrows 'for every input' (looked for: loops, veiled, ifaces, maps, wideKeys, modest, calm, conditions, laid).
  DERIVED. THE GIVEN ROWS OF THIS SEAT. 12 by the template 'for every input the law returns true; each argument reads behind the call as it read before'; 0 by the template 'total and deterministic' (their statements: YtkibccmfgndfjaaTotals.lean).
  GIVEN WITH THE SEED: the statements are not yours to turn. If you find one false, say at which input.
  Laid BY PROGRAM, IN A SANDBOX (cutbox-rows.mjs): the forced cells as the released guide's own fill.sh prints them over the translation 7eaa0d7ad9f8ccc2… (all of the seat's roots in one cut). By AI agents, Wed Nov 11 2026. No macro, syntax, notation, axiom, sorry.
-/
import Derived.Test.YtkibccmfgndfjaaChecked
import GoSem.Claim
import GoSem.ClaimJoined
import GoSem.ClaimMapViews
import Derived.JoinedTies
import Derived.KernelRfl
namespace Go.Proofs.Ytkibccmfgndfjaa
/- THE CELL 'sum', in the pinned program and in every row, IS THE sha256 OF THE DUMP (.gsa) THAT YtkibccmfgndfjaaProg.lean LOADS. Nothing in Lean hashes anything: it is a label: what it is worth is what the hold of that sum in a sandbox is worth. -/
noncomputable def Try.pinned : Pinned := { name := "ytkibccmfgndfjaa", sum := "7eaa0d7ad9f8ccc2ef466a053efba3aad66fa43d1f232bb4ac02a0097a5963c7", checked := Try.checked }
namespace Rows
def none {H : Type} : Left H := { results := [], args := [] }

/-- 'purserlaw06.TxOrders': WHATEVER THE INPUT: true; the input reads as it did. -/
def txOrdersSpec : ChangeSpec := { name := "txOrders", fn := fun _ => fun
  | [d1, d2] => { results := [.lit (.bool true)], args := [d1, d2] }
  | _ => none }
def txOrdersRow : OpenClaim := { program := "ytkibccmfgndfjaa", sum := "7eaa0d7ad9f8ccc2ef466a053efba3aad66fa43d1f232bb4ac02a0097a5963c7", func := "purser/purserlaw06.TxOrders", spec := "txOrders", inPlace := ["internal/bytealg.Compare"], apart := false }
def TxOrdersSaid : Prop := txOrdersRow.holds Try.pinned (OpenSpec.ofChange txOrdersSpec)

/-- ITS FALSE NEIGHBOUR: 'it returns false'. Refute it at one input. -/
def txOrdersWrong : ChangeSpec := { name := "txOrders", fn := fun _ => fun
  | [d1, d2] => { results := [.lit (.bool false)], args := [d1, d2] }
  | _ => none }
def TxOrdersWrongFalsely : Prop := txOrdersRow.holds Try.pinned (OpenSpec.ofChange txOrdersWrong)

/-- 'purserlaw02.CrcSums': WHATEVER THE INPUT: true; the input reads as it did. -/
def crcSumsSpec : ChangeSpec := { name := "crcSums", fn := fun _ => fun
  | [d1, d2] => { results := [.lit (.bool true)], args := [d1, d2] }
  | _ => none }
def crcSumsRow : OpenClaim := { program := "ytkibccmfgndfjaa", sum := "7eaa0d7ad9f8ccc2ef466a053efba3aad66fa43d1f232bb4ac02a0097a5963c7", func := "purser/purserlaw02.CrcSums", spec := "crcSums", unfollowed := true, recurses := true, apart := false }
def CrcSumsSaid : Prop := crcSumsRow.holds Try.pinned (OpenSpec.ofChange crcSumsSpec)

/-- ITS FALSE NEIGHBOUR: 'it returns false'. Refute it at one input. -/
def crcSumsWrong : ChangeSpec := { name := "crcSums", fn := fun _ => fun
  | [d1, d2] => { results := [.lit (.bool false)], args := [d1, d2] }
  | _ => none }
def CrcSumsWrongFalsely : Prop := crcSumsRow.holds Try.pinned (OpenSpec.ofChange crcSumsWrong)

/-- 'purserlaw02.CrcParts': WHATEVER THE INPUT: true; the input reads as it did. -/
def crcPartsSpec : ChangeSpec := { name := "crcParts", fn := fun _ => fun
  | [d1, d2, d3, d4, d5] => { results := [.lit (.bool true)], args := [d1, d2, d3, d4, d5] }
  | _ => none }
def crcPartsRow : OpenClaim := { program := "ytkibccmfgndfjaa", sum := "7eaa0d7ad9f8ccc2ef466a053efba3aad66fa43d1f232bb4ac02a0097a5963c7", func := "purser/purserlaw02.CrcParts", spec := "crcParts", unfollowed := true, recurses := true, apart := false }
def CrcPartsSaid : Prop := crcPartsRow.holds Try.pinned (OpenSpec.ofChange crcPartsSpec)

/-- ITS FALSE NEIGHBOUR: 'it returns false'. Refute it at one input. -/
def crcPartsWrong : ChangeSpec := { name := "crcParts", fn := fun _ => fun
  | [d1, d2, d3, d4, d5] => { results := [.lit (.bool false)], args := [d1, d2, d3, d4, d5] }
  | _ => none }
def CrcPartsWrongFalsely : Prop := crcPartsRow.holds Try.pinned (OpenSpec.ofChange crcPartsWrong)

/-- 'purserlaw01.OctetParts': WHATEVER THE INPUT: true; the input reads as it did. -/
def octetPartsSpec : ChangeSpec := { name := "octetParts", fn := fun _ => fun
  | [d1, d2] => { results := [.lit (.bool true)], args := [d1, d2] }
  | _ => none }
def octetPartsRow : OpenClaim := { program := "ytkibccmfgndfjaa", sum := "7eaa0d7ad9f8ccc2ef466a053efba3aad66fa43d1f232bb4ac02a0097a5963c7", func := "purser/purserlaw01.OctetParts", spec := "octetParts", inPlace := ["internal/bytealg.MakeNoZero"], apart := false }
def OctetPartsSaid : Prop := octetPartsRow.holds Try.pinned (OpenSpec.ofChange octetPartsSpec)

/-- ITS FALSE NEIGHBOUR: 'it returns false'. Refute it at one input. -/
def octetPartsWrong : ChangeSpec := { name := "octetParts", fn := fun _ => fun
  | [d1, d2] => { results := [.lit (.bool false)], args := [d1, d2] }
  | _ => none }
def OctetPartsWrongFalsely : Prop := octetPartsRow.holds Try.pinned (OpenSpec.ofChange octetPartsWrong)

/-- 'purserlaw01.OctetWrites': WHATEVER THE INPUT: true; the input reads as it did. -/
def octetWritesSpec : ChangeSpec := { name := "octetWrites", fn := fun _ => fun
  | [d1, d2] => { results := [.lit (.bool true)], args := [d1, d2] }
  | _ => none }
def octetWritesRow : OpenClaim := { program := "ytkibccmfgndfjaa", sum := "7eaa0d7ad9f8ccc2ef466a053efba3aad66fa43d1f232bb4ac02a0097a5963c7", func := "purser/purserlaw01.OctetWrites", spec := "octetWrites", inPlace := ["internal/bytealg.MakeNoZero"], apart := false }
def OctetWritesSaid : Prop := octetWritesRow.holds Try.pinned (OpenSpec.ofChange octetWritesSpec)

/-- ITS FALSE NEIGHBOUR: 'it returns false'. Refute it at one input. -/
def octetWritesWrong : ChangeSpec := { name := "octetWrites", fn := fun _ => fun
  | [d1, d2] => { results := [.lit (.bool false)], args := [d1, d2] }
  | _ => none }
def OctetWritesWrongFalsely : Prop := octetWritesRow.holds Try.pinned (OpenSpec.ofChange octetWritesWrong)

/-- 'purserlaw01.OctetReads': WHATEVER THE INPUT: true; the input reads as it did. -/
def octetReadsSpec : ChangeSpec := { name := "octetReads", fn := fun _ => fun
  | [d1, d2] => { results := [.lit (.bool true)], args := [d1, d2] }
  | _ => none }
def octetReadsRow : OpenClaim := { program := "ytkibccmfgndfjaa", sum := "7eaa0d7ad9f8ccc2ef466a053efba3aad66fa43d1f232bb4ac02a0097a5963c7", func := "purser/purserlaw01.OctetReads", spec := "octetReads", unfollowed := true, recurses := true, apart := false }
def OctetReadsSaid : Prop := octetReadsRow.holds Try.pinned (OpenSpec.ofChange octetReadsSpec)

/-- ITS FALSE NEIGHBOUR: 'it returns false'. Refute it at one input. -/
def octetReadsWrong : ChangeSpec := { name := "octetReads", fn := fun _ => fun
  | [d1, d2] => { results := [.lit (.bool false)], args := [d1, d2] }
  | _ => none }
def OctetReadsWrongFalsely : Prop := octetReadsRow.holds Try.pinned (OpenSpec.ofChange octetReadsWrong)

/-- 'purserlaw02.CrcMarks': WHATEVER THE INPUT: true; the input reads as it did. -/
def crcMarksSpec : ChangeSpec := { name := "crcMarks", fn := fun _ => fun
  | [d] => { results := [.lit (.bool true)], args := [d] }
  | _ => none }
def crcMarksRow : OpenClaim := { program := "ytkibccmfgndfjaa", sum := "7eaa0d7ad9f8ccc2ef466a053efba3aad66fa43d1f232bb4ac02a0097a5963c7", func := "purser/purserlaw02.CrcMarks", spec := "crcMarks", inPlace := ["internal/bytealg.MakeNoZero"], unfollowed := true, recurses := true, apart := false }
def CrcMarksSaid : Prop := crcMarksRow.holds Try.pinned (OpenSpec.ofChange crcMarksSpec)

/-- ITS FALSE NEIGHBOUR: 'it returns false'. Refute it at one input. -/
def crcMarksWrong : ChangeSpec := { name := "crcMarks", fn := fun _ => fun
  | [d] => { results := [.lit (.bool false)], args := [d] }
  | _ => none }
def CrcMarksWrongFalsely : Prop := crcMarksRow.holds Try.pinned (OpenSpec.ofChange crcMarksWrong)

/-- 'purserlaw02.CrcNames': WHATEVER THE INPUT: true; the input reads as it did. -/
def crcNamesSpec : ChangeSpec := { name := "crcNames", fn := fun _ => fun
  | [] => { results := [.lit (.bool true)], args := [] }
  | _ => none }
def crcNamesRow : OpenClaim := { program := "ytkibccmfgndfjaa", sum := "7eaa0d7ad9f8ccc2ef466a053efba3aad66fa43d1f232bb4ac02a0097a5963c7", func := "purser/purserlaw02.CrcNames", spec := "crcNames", inPlace := ["internal/bytealg.MakeNoZero"], unfollowed := true, recurses := true, apart := false }
def CrcNamesSaid : Prop := crcNamesRow.holds Try.pinned (OpenSpec.ofChange crcNamesSpec)

/-- ITS FALSE NEIGHBOUR: 'it returns false'. Refute it at one input. -/
def crcNamesWrong : ChangeSpec := { name := "crcNames", fn := fun _ => fun
  | [] => { results := [.lit (.bool false)], args := [] }
  | _ => none }
def CrcNamesWrongFalsely : Prop := crcNamesRow.holds Try.pinned (OpenSpec.ofChange crcNamesWrong)

/-- 'purserlaw02.CrcRuns': WHATEVER THE INPUT: true; the input reads as it did. -/
def crcRunsSpec : ChangeSpec := { name := "crcRuns", fn := fun _ => fun
  | [d1, d2, d3] => { results := [.lit (.bool true)], args := [d1, d2, d3] }
  | _ => none }
def crcRunsRow : OpenClaim := { program := "ytkibccmfgndfjaa", sum := "7eaa0d7ad9f8ccc2ef466a053efba3aad66fa43d1f232bb4ac02a0097a5963c7", func := "purser/purserlaw02.CrcRuns", spec := "crcRuns", inPlace := ["internal/bytealg.MakeNoZero"], unfollowed := true, recurses := true, apart := false }
def CrcRunsSaid : Prop := crcRunsRow.holds Try.pinned (OpenSpec.ofChange crcRunsSpec)

/-- ITS FALSE NEIGHBOUR: 'it returns false'. Refute it at one input. -/
def crcRunsWrong : ChangeSpec := { name := "crcRuns", fn := fun _ => fun
  | [d1, d2, d3] => { results := [.lit (.bool false)], args := [d1, d2, d3] }
  | _ => none }
def CrcRunsWrongFalsely : Prop := crcRunsRow.holds Try.pinned (OpenSpec.ofChange crcRunsWrong)

/-- 'purserlaw01.OctetShort': WHATEVER THE INPUT: true; the input reads as it did. -/
def octetShortSpec : ChangeSpec := { name := "octetShort", fn := fun _ => fun
  | [d1, d2] => { results := [.lit (.bool true)], args := [d1, d2] }
  | _ => none }
def octetShortRow : OpenClaim := { program := "ytkibccmfgndfjaa", sum := "7eaa0d7ad9f8ccc2ef466a053efba3aad66fa43d1f232bb4ac02a0097a5963c7", func := "purser/purserlaw01.OctetShort", spec := "octetShort", inPlace := ["internal/bytealg.MakeNoZero"], unfollowed := true, recurses := true, apart := false }
def OctetShortSaid : Prop := octetShortRow.holds Try.pinned (OpenSpec.ofChange octetShortSpec)

/-- ITS FALSE NEIGHBOUR: 'it returns false'. Refute it at one input. -/
def octetShortWrong : ChangeSpec := { name := "octetShort", fn := fun _ => fun
  | [d1, d2] => { results := [.lit (.bool false)], args := [d1, d2] }
  | _ => none }
def OctetShortWrongFalsely : Prop := octetShortRow.holds Try.pinned (OpenSpec.ofChange octetShortWrong)

/-- 'purserlaw01.OctetBack': WHATEVER THE INPUT: true; the input reads as it did. -/
def octetBackSpec : ChangeSpec := { name := "octetBack", fn := fun _ => fun
  | [d] => { results := [.lit (.bool true)], args := [d] }
  | _ => none }
def octetBackRow : OpenClaim := { program := "ytkibccmfgndfjaa", sum := "7eaa0d7ad9f8ccc2ef466a053efba3aad66fa43d1f232bb4ac02a0097a5963c7", func := "purser/purserlaw01.OctetBack", spec := "octetBack", inPlace := ["internal/bytealg.MakeNoZero"], unfollowed := true, recurses := true, apart := false }
def OctetBackSaid : Prop := octetBackRow.holds Try.pinned (OpenSpec.ofChange octetBackSpec)

/-- ITS FALSE NEIGHBOUR: 'it returns false'. Refute it at one input. -/
def octetBackWrong : ChangeSpec := { name := "octetBack", fn := fun _ => fun
  | [d] => { results := [.lit (.bool false)], args := [d] }
  | _ => none }
def OctetBackWrongFalsely : Prop := octetBackRow.holds Try.pinned (OpenSpec.ofChange octetBackWrong)

/-- 'purserlaw01.OctetNames': WHATEVER THE INPUT: true; the input reads as it did. -/
def octetNamesSpec : ChangeSpec := { name := "octetNames", fn := fun _ => fun
  | [] => { results := [.lit (.bool true)], args := [] }
  | _ => none }
def octetNamesRow : OpenClaim := { program := "ytkibccmfgndfjaa", sum := "7eaa0d7ad9f8ccc2ef466a053efba3aad66fa43d1f232bb4ac02a0097a5963c7", func := "purser/purserlaw01.OctetNames", spec := "octetNames", inPlace := ["internal/bytealg.MakeNoZero"], unfollowed := true, recurses := true, apart := false }
def OctetNamesSaid : Prop := octetNamesRow.holds Try.pinned (OpenSpec.ofChange octetNamesSpec)

/-- ITS FALSE NEIGHBOUR: 'it returns false'. Refute it at one input. -/
def octetNamesWrong : ChangeSpec := { name := "octetNames", fn := fun _ => fun
  | [] => { results := [.lit (.bool false)], args := [] }
  | _ => none }
def OctetNamesWrongFalsely : Prop := octetNamesRow.holds Try.pinned (OpenSpec.ofChange octetNamesWrong)

/- THE SECOND FORM. 'bulk': how many values and letters a reading holds, each counted each time it is reached (what is shared counts as often as it is met; a slice's spare places count too). A statement '..UptoSaid' is the law's where the arguments, and the package variables that the reading takes, are together of bulk at most 1048576: NARROWER than '..Said'. Prove '..Said' where nothing that the law and all that it calls make is longer than what came in: it says more and counts as full. Else prove '..UptoSaid'. A law counts once. -/
mutual
def uptoBulk {H : Type} : DataW H → Nat
  | .lit (.string bytes) => bytes.length + 1
  | .lit _ => 1
  | .nil => 1
  | .ptr d => uptoBulk d + 1
  | .slice elems spare => uptoBulkAll elems + uptoBulkAll spare + 1
  | .agg parts => uptoBulkAll parts + 1
  | .iface _ d => uptoBulk d + 1
  | .map entries => uptoBulkEntries entries + 1
  | .held _ => 1
def uptoBulkAll {H : Type} : List (DataW H) → Nat
  | [] => 0
  | d :: r => uptoBulk d + uptoBulkAll r
def uptoBulkEntries {H : Type} : List (Lit × DataW H) → Nat
  | [] => 0
  | x :: r => uptoBulkEntry x + uptoBulkEntries r
def uptoBulkEntry {H : Type} : Lit × DataW H → Nat
  | (.string bytes, d) => bytes.length + uptoBulk d + 1
  | (_, d) => uptoBulk d + 1
 end
def uptoSmall : (H : Type) → List (DataW H) → Bool := fun _ ds => decide (uptoBulkAll ds ≤ 1048576)
def OpenSpec.upto (s : _root_.Go.ChangeSpec) : _root_.Go.OpenSpec := { _root_.Go.OpenSpec.ofChange s with cond := some uptoSmall }

/-- 'purserlaw06.TxOrders', WHERE WHAT IT READS IS OF BULK AT MOST 1048576: true; the input reads as it did. -/
def txOrdersUptoRow : OpenClaim := { program := "ytkibccmfgndfjaa", sum := "7eaa0d7ad9f8ccc2ef466a053efba3aad66fa43d1f232bb4ac02a0097a5963c7", func := "purser/purserlaw06.TxOrders", spec := "txOrders", inPlace := ["internal/bytealg.Compare"], apart := false, narrowed := true }
def TxOrdersUptoSaid : Prop := txOrdersUptoRow.holds Try.pinned (OpenSpec.upto txOrdersSpec)

/-- 'purserlaw02.CrcSums', WHERE WHAT IT READS IS OF BULK AT MOST 1048576: true; the input reads as it did. -/
def crcSumsUptoRow : OpenClaim := { program := "ytkibccmfgndfjaa", sum := "7eaa0d7ad9f8ccc2ef466a053efba3aad66fa43d1f232bb4ac02a0097a5963c7", func := "purser/purserlaw02.CrcSums", spec := "crcSums", unfollowed := true, recurses := true, apart := false, narrowed := true }
def CrcSumsUptoSaid : Prop := crcSumsUptoRow.holds Try.pinned (OpenSpec.upto crcSumsSpec)

/-- 'purserlaw02.CrcParts', WHERE WHAT IT READS IS OF BULK AT MOST 1048576: true; the input reads as it did. -/
def crcPartsUptoRow : OpenClaim := { program := "ytkibccmfgndfjaa", sum := "7eaa0d7ad9f8ccc2ef466a053efba3aad66fa43d1f232bb4ac02a0097a5963c7", func := "purser/purserlaw02.CrcParts", spec := "crcParts", unfollowed := true, recurses := true, apart := false, narrowed := true }
def CrcPartsUptoSaid : Prop := crcPartsUptoRow.holds Try.pinned (OpenSpec.upto crcPartsSpec)

/-- 'purserlaw01.OctetParts', WHERE WHAT IT READS IS OF BULK AT MOST 1048576: true; the input reads as it did. -/
def octetPartsUptoRow : OpenClaim := { program := "ytkibccmfgndfjaa", sum := "7eaa0d7ad9f8ccc2ef466a053efba3aad66fa43d1f232bb4ac02a0097a5963c7", func := "purser/purserlaw01.OctetParts", spec := "octetParts", inPlace := ["internal/bytealg.MakeNoZero"], apart := false, narrowed := true }
def OctetPartsUptoSaid : Prop := octetPartsUptoRow.holds Try.pinned (OpenSpec.upto octetPartsSpec)

/-- 'purserlaw01.OctetWrites', WHERE WHAT IT READS IS OF BULK AT MOST 1048576: true; the input reads as it did. -/
def octetWritesUptoRow : OpenClaim := { program := "ytkibccmfgndfjaa", sum := "7eaa0d7ad9f8ccc2ef466a053efba3aad66fa43d1f232bb4ac02a0097a5963c7", func := "purser/purserlaw01.OctetWrites", spec := "octetWrites", inPlace := ["internal/bytealg.MakeNoZero"], apart := false, narrowed := true }
def OctetWritesUptoSaid : Prop := octetWritesUptoRow.holds Try.pinned (OpenSpec.upto octetWritesSpec)

/-- 'purserlaw01.OctetReads', WHERE WHAT IT READS IS OF BULK AT MOST 1048576: true; the input reads as it did. -/
def octetReadsUptoRow : OpenClaim := { program := "ytkibccmfgndfjaa", sum := "7eaa0d7ad9f8ccc2ef466a053efba3aad66fa43d1f232bb4ac02a0097a5963c7", func := "purser/purserlaw01.OctetReads", spec := "octetReads", unfollowed := true, recurses := true, apart := false, narrowed := true }
def OctetReadsUptoSaid : Prop := octetReadsUptoRow.holds Try.pinned (OpenSpec.upto octetReadsSpec)

/-- 'purserlaw02.CrcMarks', WHERE WHAT IT READS IS OF BULK AT MOST 1048576: true; the input reads as it did. -/
def crcMarksUptoRow : OpenClaim := { program := "ytkibccmfgndfjaa", sum := "7eaa0d7ad9f8ccc2ef466a053efba3aad66fa43d1f232bb4ac02a0097a5963c7", func := "purser/purserlaw02.CrcMarks", spec := "crcMarks", inPlace := ["internal/bytealg.MakeNoZero"], unfollowed := true, recurses := true, apart := false, narrowed := true }
def CrcMarksUptoSaid : Prop := crcMarksUptoRow.holds Try.pinned (OpenSpec.upto crcMarksSpec)

/-- 'purserlaw02.CrcNames', WHERE WHAT IT READS IS OF BULK AT MOST 1048576: true; the input reads as it did. -/
def crcNamesUptoRow : OpenClaim := { program := "ytkibccmfgndfjaa", sum := "7eaa0d7ad9f8ccc2ef466a053efba3aad66fa43d1f232bb4ac02a0097a5963c7", func := "purser/purserlaw02.CrcNames", spec := "crcNames", inPlace := ["internal/bytealg.MakeNoZero"], unfollowed := true, recurses := true, apart := false, narrowed := true }
def CrcNamesUptoSaid : Prop := crcNamesUptoRow.holds Try.pinned (OpenSpec.upto crcNamesSpec)

/-- 'purserlaw02.CrcRuns', WHERE WHAT IT READS IS OF BULK AT MOST 1048576: true; the input reads as it did. -/
def crcRunsUptoRow : OpenClaim := { program := "ytkibccmfgndfjaa", sum := "7eaa0d7ad9f8ccc2ef466a053efba3aad66fa43d1f232bb4ac02a0097a5963c7", func := "purser/purserlaw02.CrcRuns", spec := "crcRuns", inPlace := ["internal/bytealg.MakeNoZero"], unfollowed := true, recurses := true, apart := false, narrowed := true }
def CrcRunsUptoSaid : Prop := crcRunsUptoRow.holds Try.pinned (OpenSpec.upto crcRunsSpec)

/-- 'purserlaw01.OctetShort', WHERE WHAT IT READS IS OF BULK AT MOST 1048576: true; the input reads as it did. -/
def octetShortUptoRow : OpenClaim := { program := "ytkibccmfgndfjaa", sum := "7eaa0d7ad9f8ccc2ef466a053efba3aad66fa43d1f232bb4ac02a0097a5963c7", func := "purser/purserlaw01.OctetShort", spec := "octetShort", inPlace := ["internal/bytealg.MakeNoZero"], unfollowed := true, recurses := true, apart := false, narrowed := true }
def OctetShortUptoSaid : Prop := octetShortUptoRow.holds Try.pinned (OpenSpec.upto octetShortSpec)

/-- 'purserlaw01.OctetBack', WHERE WHAT IT READS IS OF BULK AT MOST 1048576: true; the input reads as it did. -/
def octetBackUptoRow : OpenClaim := { program := "ytkibccmfgndfjaa", sum := "7eaa0d7ad9f8ccc2ef466a053efba3aad66fa43d1f232bb4ac02a0097a5963c7", func := "purser/purserlaw01.OctetBack", spec := "octetBack", inPlace := ["internal/bytealg.MakeNoZero"], unfollowed := true, recurses := true, apart := false, narrowed := true }
def OctetBackUptoSaid : Prop := octetBackUptoRow.holds Try.pinned (OpenSpec.upto octetBackSpec)

/-- 'purserlaw01.OctetNames', WHERE WHAT IT READS IS OF BULK AT MOST 1048576: true; the input reads as it did. -/
def octetNamesUptoRow : OpenClaim := { program := "ytkibccmfgndfjaa", sum := "7eaa0d7ad9f8ccc2ef466a053efba3aad66fa43d1f232bb4ac02a0097a5963c7", func := "purser/purserlaw01.OctetNames", spec := "octetNames", inPlace := ["internal/bytealg.MakeNoZero"], unfollowed := true, recurses := true, apart := false, narrowed := true }
def OctetNamesUptoSaid : Prop := octetNamesUptoRow.holds Try.pinned (OpenSpec.upto octetNamesSpec)

end Rows
end Go.Proofs.Ytkibccmfgndfjaa
