/-
  No cell of these rows narrows 'for every input' (looked for: loops, veiled, ifaces, maps, wideKeys, modest, calm, conditions, laid).
  DERIVED. THE GIVEN ROWS OF THIS SEAT. 6 by the template 'for every input the law returns true; each argument reads behind the call as it read before'; 0 by the template 'total and deterministic' (their statements: YtkbambojnifjcaaTotals.lean).
  GIVEN WITH THE SEED: the statements are not yours to turn. If you find one false, say at which input.
  Laid BY PROGRAM, IN A SANDBOX (cutbox-rows.mjs): the forced cells as the released guide's own fill.sh prints them over the translation 074445b381a78309… (all of the seat's roots in one cut). By AI agents, Wed Nov 11 2026. No macro, syntax, notation, axiom, sorry.
-/
import Derived.Test.YtkbambojnifjcaaChecked
import GoSem.Claim
import GoSem.ClaimJoined
import GoSem.ClaimMapViews
import Derived.JoinedTies
import Derived.KernelRfl
namespace Go.Proofs.Ytkbambojnifjcaa
/- THE CELL 'sum', in the pinned program and in every row, IS THE sha256 OF THE DUMP (.gsa) THAT YtkbambojnifjcaaProg.lean LOADS. Nothing in Lean hashes anything: it is a label: what it is worth is what the hold of that sum in a sandbox is worth. -/
noncomputable def Try.pinned : Pinned := { name := "ytkbambojnifjcaa", sum := "074445b381a783098bbe0afdbef23a60388659cc12ca7a386f66665715333062", checked := Try.checked }
namespace Rows
def none {H : Type} : Left H := { results := [], args := [] }

/-- 'purserlaw03.WideTimes': WHATEVER THE INPUT: true; the input reads as it did. -/
def wideTimesSpec : ChangeSpec := { name := "wideTimes", fn := fun _ => fun
  | [d1, d2, d3] => { results := [.lit (.bool true)], args := [d1, d2, d3] }
  | _ => none }
def wideTimesRow : OpenClaim := { program := "ytkbambojnifjcaa", sum := "074445b381a783098bbe0afdbef23a60388659cc12ca7a386f66665715333062", func := "purser/purserlaw03.WideTimes", spec := "wideTimes", inPlace := ["math/bits.Add64", "math/bits.Sub64"], apart := false }
def WideTimesSaid : Prop := wideTimesRow.holds Try.pinned (OpenSpec.ofChange wideTimesSpec)

/-- ITS FALSE NEIGHBOUR: 'it returns false'. Refute it at one input. -/
def wideTimesWrong : ChangeSpec := { name := "wideTimes", fn := fun _ => fun
  | [d1, d2, d3] => { results := [.lit (.bool false)], args := [d1, d2, d3] }
  | _ => none }
def WideTimesWrongFalsely : Prop := wideTimesRow.holds Try.pinned (OpenSpec.ofChange wideTimesWrong)

/-- 'purserlaw03.WideUndone': WHATEVER THE INPUT: true; the input reads as it did. -/
def wideUndoneSpec : ChangeSpec := { name := "wideUndone", fn := fun _ => fun
  | [d1, d2, d3] => { results := [.lit (.bool true)], args := [d1, d2, d3] }
  | _ => none }
def wideUndoneRow : OpenClaim := { program := "ytkbambojnifjcaa", sum := "074445b381a783098bbe0afdbef23a60388659cc12ca7a386f66665715333062", func := "purser/purserlaw03.WideUndone", spec := "wideUndone", inPlace := ["math/bits.Add64", "math/bits.Sub64"], apart := false }
def WideUndoneSaid : Prop := wideUndoneRow.holds Try.pinned (OpenSpec.ofChange wideUndoneSpec)

/-- ITS FALSE NEIGHBOUR: 'it returns false'. Refute it at one input. -/
def wideUndoneWrong : ChangeSpec := { name := "wideUndone", fn := fun _ => fun
  | [d1, d2, d3] => { results := [.lit (.bool false)], args := [d1, d2, d3] }
  | _ => none }
def WideUndoneWrongFalsely : Prop := wideUndoneRow.holds Try.pinned (OpenSpec.ofChange wideUndoneWrong)

/-- 'purserlaw03.WideQuotients': WHATEVER THE INPUT: true; the input reads as it did. -/
def wideQuotientsSpec : ChangeSpec := { name := "wideQuotients", fn := fun _ => fun
  | [d1, d2] => { results := [.lit (.bool true)], args := [d1, d2] }
  | _ => none }
def wideQuotientsRow : OpenClaim := { program := "ytkbambojnifjcaa", sum := "074445b381a783098bbe0afdbef23a60388659cc12ca7a386f66665715333062", func := "purser/purserlaw03.WideQuotients", spec := "wideQuotients", inPlace := ["math/bits.Sub64"], unfollowed := true, recurses := true, apart := false }
def WideQuotientsSaid : Prop := wideQuotientsRow.holds Try.pinned (OpenSpec.ofChange wideQuotientsSpec)

/-- ITS FALSE NEIGHBOUR: 'it returns false'. Refute it at one input. -/
def wideQuotientsWrong : ChangeSpec := { name := "wideQuotients", fn := fun _ => fun
  | [d1, d2] => { results := [.lit (.bool false)], args := [d1, d2] }
  | _ => none }
def WideQuotientsWrongFalsely : Prop := wideQuotientsRow.holds Try.pinned (OpenSpec.ofChange wideQuotientsWrong)

/-- 'purserlaw03.WideSums': WHATEVER THE INPUT: true; the input reads as it did. -/
def wideSumsSpec : ChangeSpec := { name := "wideSums", fn := fun _ => fun
  | [d1, d2, d3] => { results := [.lit (.bool true)], args := [d1, d2, d3] }
  | _ => none }
def wideSumsRow : OpenClaim := { program := "ytkbambojnifjcaa", sum := "074445b381a783098bbe0afdbef23a60388659cc12ca7a386f66665715333062", func := "purser/purserlaw03.WideSums", spec := "wideSums", inPlace := ["math/bits.Add64", "math/bits.Sub64"], apart := false }
def WideSumsSaid : Prop := wideSumsRow.holds Try.pinned (OpenSpec.ofChange wideSumsSpec)

/-- ITS FALSE NEIGHBOUR: 'it returns false'. Refute it at one input. -/
def wideSumsWrong : ChangeSpec := { name := "wideSums", fn := fun _ => fun
  | [d1, d2, d3] => { results := [.lit (.bool false)], args := [d1, d2, d3] }
  | _ => none }
def WideSumsWrongFalsely : Prop := wideSumsRow.holds Try.pinned (OpenSpec.ofChange wideSumsWrong)

/-- 'purserlaw03.WideDivided': WHATEVER THE INPUT: true; the input reads as it did. -/
def wideDividedSpec : ChangeSpec := { name := "wideDivided", fn := fun _ => fun
  | [d1, d2, d3] => { results := [.lit (.bool true)], args := [d1, d2, d3] }
  | _ => none }
def wideDividedRow : OpenClaim := { program := "ytkbambojnifjcaa", sum := "074445b381a783098bbe0afdbef23a60388659cc12ca7a386f66665715333062", func := "purser/purserlaw03.WideDivided", spec := "wideDivided", inPlace := ["math/bits.Add64", "math/bits.Sub64"], unfollowed := true, recurses := true, apart := false }
def WideDividedSaid : Prop := wideDividedRow.holds Try.pinned (OpenSpec.ofChange wideDividedSpec)

/-- ITS FALSE NEIGHBOUR: 'it returns false'. Refute it at one input. -/
def wideDividedWrong : ChangeSpec := { name := "wideDivided", fn := fun _ => fun
  | [d1, d2, d3] => { results := [.lit (.bool false)], args := [d1, d2, d3] }
  | _ => none }
def WideDividedWrongFalsely : Prop := wideDividedRow.holds Try.pinned (OpenSpec.ofChange wideDividedWrong)

/-- 'purserlaw03.WideShifted': WHATEVER THE INPUT: true; the input reads as it did. -/
def wideShiftedSpec : ChangeSpec := { name := "wideShifted", fn := fun _ => fun
  | [d1, d2] => { results := [.lit (.bool true)], args := [d1, d2] }
  | _ => none }
def wideShiftedRow : OpenClaim := { program := "ytkbambojnifjcaa", sum := "074445b381a783098bbe0afdbef23a60388659cc12ca7a386f66665715333062", func := "purser/purserlaw03.WideShifted", spec := "wideShifted", inPlace := ["math/bits.Add64", "math/bits.Sub64"], unfollowed := true, recurses := true, apart := false }
def WideShiftedSaid : Prop := wideShiftedRow.holds Try.pinned (OpenSpec.ofChange wideShiftedSpec)

/-- ITS FALSE NEIGHBOUR: 'it returns false'. Refute it at one input. -/
def wideShiftedWrong : ChangeSpec := { name := "wideShifted", fn := fun _ => fun
  | [d1, d2] => { results := [.lit (.bool false)], args := [d1, d2] }
  | _ => none }
def WideShiftedWrongFalsely : Prop := wideShiftedRow.holds Try.pinned (OpenSpec.ofChange wideShiftedWrong)

/- THE SECOND FORM. 'bulk': how many values and letters a reading holds, each counted each time it is reached (what is shared counts as often as it is met; a slice's spare places count too). A statement '..UptoSaid' is the law's where the arguments, and the package variables that the reading takes, are together of bulk at most 1048576: NARROWER than '..Said'. Prove '..Said' where nothing that the law and all that it calls make is longer than what came in: it says more and counts as full. Else prove '..UptoSaid'. A law counts once. -/
mutual
def uptoBulk {H : Type} : DataW H → Nat
  | .lit (.string bytes) => bytes.length + 1
  | .lit _ => 1
  | .nil => 1
  | .ptr d => uptoBulk d + 1
  | .slice elems spare => uptoBulkAll elems + uptoBulkAll spare + 1
  | .agg parts => uptoBulkAll parts + 1
  | .iface _ d => uptoBulk d + 1
  | .map entries => uptoBulkEntries entries + 1
  | .held _ => 1
def uptoBulkAll {H : Type} : List (DataW H) → Nat
  | [] => 0
  | d :: r => uptoBulk d + uptoBulkAll r
def uptoBulkEntries {H : Type} : List (Lit × DataW H) → Nat
  | [] => 0
  | x :: r => uptoBulkEntry x + uptoBulkEntries r
def uptoBulkEntry {H : Type} : Lit × DataW H → Nat
  | (.string bytes, d) => bytes.length + uptoBulk d + 1
  | (_, d) => uptoBulk d + 1
 end
def uptoSmall : (H : Type) → List (DataW H) → Bool := fun _ ds => decide (uptoBulkAll ds ≤ 1048576)
def OpenSpec.upto (s : _root_.Go.ChangeSpec) : _root_.Go.OpenSpec := { _root_.Go.OpenSpec.ofChange s with cond := some uptoSmall }

/-- 'purserlaw03.WideTimes', WHERE WHAT IT READS IS OF BULK AT MOST 1048576: true; the input reads as it did. -/
def wideTimesUptoRow : OpenClaim := { program := "ytkbambojnifjcaa", sum := "074445b381a783098bbe0afdbef23a60388659cc12ca7a386f66665715333062", func := "purser/purserlaw03.WideTimes", spec := "wideTimes", inPlace := ["math/bits.Add64", "math/bits.Sub64"], apart := false, narrowed := true }
def WideTimesUptoSaid : Prop := wideTimesUptoRow.holds Try.pinned (OpenSpec.upto wideTimesSpec)

/-- 'purserlaw03.WideUndone', WHERE WHAT IT READS IS OF BULK AT MOST 1048576: true; the input reads as it did. -/
def wideUndoneUptoRow : OpenClaim := { program := "ytkbambojnifjcaa", sum := "074445b381a783098bbe0afdbef23a60388659cc12ca7a386f66665715333062", func := "purser/purserlaw03.WideUndone", spec := "wideUndone", inPlace := ["math/bits.Add64", "math/bits.Sub64"], apart := false, narrowed := true }
def WideUndoneUptoSaid : Prop := wideUndoneUptoRow.holds Try.pinned (OpenSpec.upto wideUndoneSpec)

/-- 'purserlaw03.WideQuotients', WHERE WHAT IT READS IS OF BULK AT MOST 1048576: true; the input reads as it did. -/
def wideQuotientsUptoRow : OpenClaim := { program := "ytkbambojnifjcaa", sum := "074445b381a783098bbe0afdbef23a60388659cc12ca7a386f66665715333062", func := "purser/purserlaw03.WideQuotients", spec := "wideQuotients", inPlace := ["math/bits.Sub64"], unfollowed := true, recurses := true, apart := false, narrowed := true }
def WideQuotientsUptoSaid : Prop := wideQuotientsUptoRow.holds Try.pinned (OpenSpec.upto wideQuotientsSpec)

/-- 'purserlaw03.WideSums', WHERE WHAT IT READS IS OF BULK AT MOST 1048576: true; the input reads as it did. -/
def wideSumsUptoRow : OpenClaim := { program := "ytkbambojnifjcaa", sum := "074445b381a783098bbe0afdbef23a60388659cc12ca7a386f66665715333062", func := "purser/purserlaw03.WideSums", spec := "wideSums", inPlace := ["math/bits.Add64", "math/bits.Sub64"], apart := false, narrowed := true }
def WideSumsUptoSaid : Prop := wideSumsUptoRow.holds Try.pinned (OpenSpec.upto wideSumsSpec)

/-- 'purserlaw03.WideDivided', WHERE WHAT IT READS IS OF BULK AT MOST 1048576: true; the input reads as it did. -/
def wideDividedUptoRow : OpenClaim := { program := "ytkbambojnifjcaa", sum := "074445b381a783098bbe0afdbef23a60388659cc12ca7a386f66665715333062", func := "purser/purserlaw03.WideDivided", spec := "wideDivided", inPlace := ["math/bits.Add64", "math/bits.Sub64"], unfollowed := true, recurses := true, apart := false, narrowed := true }
def WideDividedUptoSaid : Prop := wideDividedUptoRow.holds Try.pinned (OpenSpec.upto wideDividedSpec)

/-- 'purserlaw03.WideShifted', WHERE WHAT IT READS IS OF BULK AT MOST 1048576: true; the input reads as it did. -/
def wideShiftedUptoRow : OpenClaim := { program := "ytkbambojnifjcaa", sum := "074445b381a783098bbe0afdbef23a60388659cc12ca7a386f66665715333062", func := "purser/purserlaw03.WideShifted", spec := "wideShifted", inPlace := ["math/bits.Add64", "math/bits.Sub64"], unfollowed := true, recurses := true, apart := false, narrowed := true }
def WideShiftedUptoSaid : Prop := wideShiftedUptoRow.holds Try.pinned (OpenSpec.upto wideShiftedSpec)

end Rows
end Go.Proofs.Ytkbambojnifjcaa
