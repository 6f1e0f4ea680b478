/-
  No cell of these rows narrows 'for every input' (looked for: loops, veiled, ifaces, maps, wideKeys, modest, calm, conditions, laid).
  DERIVED. THE GIVEN ROWS OF THIS SEAT. 7 by the template 'for every input the law returns true; each argument reads behind the call as it read before'; 0 by the template 'total and deterministic' (their statements: YtlemkghpcbkcpaaTotals.lean).
  GIVEN WITH THE SEED: the statements are not yours to turn. If you find one false, say at which input.
  Laid BY PROGRAM, IN A SANDBOX (cutbox-rows.mjs): the forced cells as the released guide's own fill.sh prints them over the translation 360a6a4027f0b378… (all of the seat's roots in one cut). By AI agents, Wed Nov 11 2026. No macro, syntax, notation, axiom, sorry.
-/
import Derived.Test.YtlemkghpcbkcpaaChecked
import GoSem.Claim
import GoSem.ClaimJoined
import GoSem.ClaimMapViews
import Derived.JoinedTies
import Derived.KernelRfl
namespace Go.Proofs.Ytlemkghpcbkcpaa
/- THE CELL 'sum', in the pinned program and in every row, IS THE sha256 OF THE DUMP (.gsa) THAT YtlemkghpcbkcpaaProg.lean LOADS. Nothing in Lean hashes anything: it is a label: what it is worth is what the hold of that sum in a sandbox is worth. -/
noncomputable def Try.pinned : Pinned := { name := "ytlemkghpcbkcpaa", sum := "360a6a4027f0b3780871a8b220b40f1442859160436b99ad2a1931418301cdff", checked := Try.checked }
namespace Rows
def none {H : Type} : Left H := { results := [], args := [] }

/-- 'depotlaw27.AtmostMeasures': WHATEVER THE INPUT: true; the input reads as it did. -/
def atmostMeasuresSpec : ChangeSpec := { name := "atmostMeasures", fn := fun _ => fun
  | [d1, d2] => { results := [.lit (.bool true)], args := [d1, d2] }
  | _ => none }
def atmostMeasuresRow : OpenClaim := { program := "ytlemkghpcbkcpaa", sum := "360a6a4027f0b3780871a8b220b40f1442859160436b99ad2a1931418301cdff", func := "depot/depotlaw27.AtmostMeasures", spec := "atmostMeasures", apart := false }
def AtmostMeasuresSaid : Prop := atmostMeasuresRow.holds Try.pinned (OpenSpec.ofChange atmostMeasuresSpec)

/-- ITS FALSE NEIGHBOUR: 'it returns false'. Refute it at one input. -/
def atmostMeasuresWrong : ChangeSpec := { name := "atmostMeasures", fn := fun _ => fun
  | [d1, d2] => { results := [.lit (.bool false)], args := [d1, d2] }
  | _ => none }
def AtmostMeasuresWrongFalsely : Prop := atmostMeasuresRow.holds Try.pinned (OpenSpec.ofChange atmostMeasuresWrong)

/-- 'depotlaw27.AtmostFills': WHATEVER THE INPUT: true; the input reads as it did. -/
def atmostFillsSpec : ChangeSpec := { name := "atmostFills", fn := fun _ => fun
  | [d1, d2] => { results := [.lit (.bool true)], args := [d1, d2] }
  | _ => none }
def atmostFillsRow : OpenClaim := { program := "ytlemkghpcbkcpaa", sum := "360a6a4027f0b3780871a8b220b40f1442859160436b99ad2a1931418301cdff", func := "depot/depotlaw27.AtmostFills", spec := "atmostFills", apart := false }
def AtmostFillsSaid : Prop := atmostFillsRow.holds Try.pinned (OpenSpec.ofChange atmostFillsSpec)

/-- ITS FALSE NEIGHBOUR: 'it returns false'. Refute it at one input. -/
def atmostFillsWrong : ChangeSpec := { name := "atmostFills", fn := fun _ => fun
  | [d1, d2] => { results := [.lit (.bool false)], args := [d1, d2] }
  | _ => none }
def AtmostFillsWrongFalsely : Prop := atmostFillsRow.holds Try.pinned (OpenSpec.ofChange atmostFillsWrong)

/-- 'depotlaw27.AtmostNumbers': WHATEVER THE INPUT: true; the input reads as it did. -/
def atmostNumbersSpec : ChangeSpec := { name := "atmostNumbers", fn := fun _ => fun
  | [] => { results := [.lit (.bool true)], args := [] }
  | _ => none }
def atmostNumbersRow : OpenClaim := { program := "ytlemkghpcbkcpaa", sum := "360a6a4027f0b3780871a8b220b40f1442859160436b99ad2a1931418301cdff", func := "depot/depotlaw27.AtmostNumbers", spec := "atmostNumbers", unfollowed := true, recurses := true, apart := false }
def AtmostNumbersSaid : Prop := atmostNumbersRow.holds Try.pinned (OpenSpec.ofChange atmostNumbersSpec)

/-- ITS FALSE NEIGHBOUR: 'it returns false'. Refute it at one input. -/
def atmostNumbersWrong : ChangeSpec := { name := "atmostNumbers", fn := fun _ => fun
  | [] => { results := [.lit (.bool false)], args := [] }
  | _ => none }
def AtmostNumbersWrongFalsely : Prop := atmostNumbersRow.holds Try.pinned (OpenSpec.ofChange atmostNumbersWrong)

/-- 'depotlaw27.AtmostMakes': WHATEVER THE INPUT: true; the input reads as it did. -/
def atmostMakesSpec : ChangeSpec := { name := "atmostMakes", fn := fun _ => fun
  | [d1, d2, d3] => { results := [.lit (.bool true)], args := [d1, d2, d3] }
  | _ => none }
def atmostMakesRow : OpenClaim := { program := "ytlemkghpcbkcpaa", sum := "360a6a4027f0b3780871a8b220b40f1442859160436b99ad2a1931418301cdff", func := "depot/depotlaw27.AtmostMakes", spec := "atmostMakes", unfollowed := true, recurses := true, apart := false }
def AtmostMakesSaid : Prop := atmostMakesRow.holds Try.pinned (OpenSpec.ofChange atmostMakesSpec)

/-- ITS FALSE NEIGHBOUR: 'it returns false'. Refute it at one input. -/
def atmostMakesWrong : ChangeSpec := { name := "atmostMakes", fn := fun _ => fun
  | [d1, d2, d3] => { results := [.lit (.bool false)], args := [d1, d2, d3] }
  | _ => none }
def AtmostMakesWrongFalsely : Prop := atmostMakesRow.holds Try.pinned (OpenSpec.ofChange atmostMakesWrong)

/-- 'depotlaw27.AtmostAgrees': WHATEVER THE INPUT: true; the input reads as it did. -/
def atmostAgreesSpec : ChangeSpec := { name := "atmostAgrees", fn := fun _ => fun
  | [d1, d2] => { results := [.lit (.bool true)], args := [d1, d2] }
  | _ => none }
def atmostAgreesRow : OpenClaim := { program := "ytlemkghpcbkcpaa", sum := "360a6a4027f0b3780871a8b220b40f1442859160436b99ad2a1931418301cdff", func := "depot/depotlaw27.AtmostAgrees", spec := "atmostAgrees", unfollowed := true, recurses := true, apart := false }
def AtmostAgreesSaid : Prop := atmostAgreesRow.holds Try.pinned (OpenSpec.ofChange atmostAgreesSpec)

/-- ITS FALSE NEIGHBOUR: 'it returns false'. Refute it at one input. -/
def atmostAgreesWrong : ChangeSpec := { name := "atmostAgrees", fn := fun _ => fun
  | [d1, d2] => { results := [.lit (.bool false)], args := [d1, d2] }
  | _ => none }
def AtmostAgreesWrongFalsely : Prop := atmostAgreesRow.holds Try.pinned (OpenSpec.ofChange atmostAgreesWrong)

/-- 'depotlaw27.AtmostKeeps': WHATEVER THE INPUT: true; the input reads as it did. -/
def atmostKeepsSpec : ChangeSpec := { name := "atmostKeeps", fn := fun _ => fun
  | [d1, d2, d3, d4] => { results := [.lit (.bool true)], args := [d1, d2, d3, d4] }
  | _ => none }
def atmostKeepsRow : OpenClaim := { program := "ytlemkghpcbkcpaa", sum := "360a6a4027f0b3780871a8b220b40f1442859160436b99ad2a1931418301cdff", func := "depot/depotlaw27.AtmostKeeps", spec := "atmostKeeps", unfollowed := true, recurses := true, apart := false }
def AtmostKeepsSaid : Prop := atmostKeepsRow.holds Try.pinned (OpenSpec.ofChange atmostKeepsSpec)

/-- ITS FALSE NEIGHBOUR: 'it returns false'. Refute it at one input. -/
def atmostKeepsWrong : ChangeSpec := { name := "atmostKeeps", fn := fun _ => fun
  | [d1, d2, d3, d4] => { results := [.lit (.bool false)], args := [d1, d2, d3, d4] }
  | _ => none }
def AtmostKeepsWrongFalsely : Prop := atmostKeepsRow.holds Try.pinned (OpenSpec.ofChange atmostKeepsWrong)

/-- 'depotlaw27.AtmostCounts': WHATEVER THE INPUT: true; the input reads as it did. -/
def atmostCountsSpec : ChangeSpec := { name := "atmostCounts", fn := fun _ => fun
  | [d1, d2, d3, d4] => { results := [.lit (.bool true)], args := [d1, d2, d3, d4] }
  | _ => none }
def atmostCountsRow : OpenClaim := { program := "ytlemkghpcbkcpaa", sum := "360a6a4027f0b3780871a8b220b40f1442859160436b99ad2a1931418301cdff", func := "depot/depotlaw27.AtmostCounts", spec := "atmostCounts", unfollowed := true, recurses := true, apart := false }
def AtmostCountsSaid : Prop := atmostCountsRow.holds Try.pinned (OpenSpec.ofChange atmostCountsSpec)

/-- ITS FALSE NEIGHBOUR: 'it returns false'. Refute it at one input. -/
def atmostCountsWrong : ChangeSpec := { name := "atmostCounts", fn := fun _ => fun
  | [d1, d2, d3, d4] => { results := [.lit (.bool false)], args := [d1, d2, d3, d4] }
  | _ => none }
def AtmostCountsWrongFalsely : Prop := atmostCountsRow.holds Try.pinned (OpenSpec.ofChange atmostCountsWrong)

/- THE SECOND FORM. 'bulk': how many values and letters a reading holds, each counted each time it is reached (what is shared counts as often as it is met; a slice's spare places count too). A statement '..UptoSaid' is the law's where the arguments, and the package variables that the reading takes, are together of bulk at most 1048576: NARROWER than '..Said'. Prove '..Said' where nothing that the law and all that it calls make is longer than what came in: it says more and counts as full. Else prove '..UptoSaid'. A law counts once. -/
mutual
def uptoBulk {H : Type} : DataW H → Nat
  | .lit (.string bytes) => bytes.length + 1
  | .lit _ => 1
  | .nil => 1
  | .ptr d => uptoBulk d + 1
  | .slice elems spare => uptoBulkAll elems + uptoBulkAll spare + 1
  | .agg parts => uptoBulkAll parts + 1
  | .iface _ d => uptoBulk d + 1
  | .map entries => uptoBulkEntries entries + 1
  | .held _ => 1
def uptoBulkAll {H : Type} : List (DataW H) → Nat
  | [] => 0
  | d :: r => uptoBulk d + uptoBulkAll r
def uptoBulkEntries {H : Type} : List (Lit × DataW H) → Nat
  | [] => 0
  | x :: r => uptoBulkEntry x + uptoBulkEntries r
def uptoBulkEntry {H : Type} : Lit × DataW H → Nat
  | (.string bytes, d) => bytes.length + uptoBulk d + 1
  | (_, d) => uptoBulk d + 1
 end
def uptoSmall : (H : Type) → List (DataW H) → Bool := fun _ ds => decide (uptoBulkAll ds ≤ 1048576)
def OpenSpec.upto (s : _root_.Go.ChangeSpec) : _root_.Go.OpenSpec := { _root_.Go.OpenSpec.ofChange s with cond := some uptoSmall }

/-- 'depotlaw27.AtmostMeasures', WHERE WHAT IT READS IS OF BULK AT MOST 1048576: true; the input reads as it did. -/
def atmostMeasuresUptoRow : OpenClaim := { program := "ytlemkghpcbkcpaa", sum := "360a6a4027f0b3780871a8b220b40f1442859160436b99ad2a1931418301cdff", func := "depot/depotlaw27.AtmostMeasures", spec := "atmostMeasures", apart := false, narrowed := true }
def AtmostMeasuresUptoSaid : Prop := atmostMeasuresUptoRow.holds Try.pinned (OpenSpec.upto atmostMeasuresSpec)

/-- 'depotlaw27.AtmostFills', WHERE WHAT IT READS IS OF BULK AT MOST 1048576: true; the input reads as it did. -/
def atmostFillsUptoRow : OpenClaim := { program := "ytlemkghpcbkcpaa", sum := "360a6a4027f0b3780871a8b220b40f1442859160436b99ad2a1931418301cdff", func := "depot/depotlaw27.AtmostFills", spec := "atmostFills", apart := false, narrowed := true }
def AtmostFillsUptoSaid : Prop := atmostFillsUptoRow.holds Try.pinned (OpenSpec.upto atmostFillsSpec)

/-- 'depotlaw27.AtmostNumbers', WHERE WHAT IT READS IS OF BULK AT MOST 1048576: true; the input reads as it did. -/
def atmostNumbersUptoRow : OpenClaim := { program := "ytlemkghpcbkcpaa", sum := "360a6a4027f0b3780871a8b220b40f1442859160436b99ad2a1931418301cdff", func := "depot/depotlaw27.AtmostNumbers", spec := "atmostNumbers", unfollowed := true, recurses := true, apart := false, narrowed := true }
def AtmostNumbersUptoSaid : Prop := atmostNumbersUptoRow.holds Try.pinned (OpenSpec.upto atmostNumbersSpec)

/-- 'depotlaw27.AtmostMakes', WHERE WHAT IT READS IS OF BULK AT MOST 1048576: true; the input reads as it did. -/
def atmostMakesUptoRow : OpenClaim := { program := "ytlemkghpcbkcpaa", sum := "360a6a4027f0b3780871a8b220b40f1442859160436b99ad2a1931418301cdff", func := "depot/depotlaw27.AtmostMakes", spec := "atmostMakes", unfollowed := true, recurses := true, apart := false, narrowed := true }
def AtmostMakesUptoSaid : Prop := atmostMakesUptoRow.holds Try.pinned (OpenSpec.upto atmostMakesSpec)

/-- 'depotlaw27.AtmostAgrees', WHERE WHAT IT READS IS OF BULK AT MOST 1048576: true; the input reads as it did. -/
def atmostAgreesUptoRow : OpenClaim := { program := "ytlemkghpcbkcpaa", sum := "360a6a4027f0b3780871a8b220b40f1442859160436b99ad2a1931418301cdff", func := "depot/depotlaw27.AtmostAgrees", spec := "atmostAgrees", unfollowed := true, recurses := true, apart := false, narrowed := true }
def AtmostAgreesUptoSaid : Prop := atmostAgreesUptoRow.holds Try.pinned (OpenSpec.upto atmostAgreesSpec)

/-- 'depotlaw27.AtmostKeeps', WHERE WHAT IT READS IS OF BULK AT MOST 1048576: true; the input reads as it did. -/
def atmostKeepsUptoRow : OpenClaim := { program := "ytlemkghpcbkcpaa", sum := "360a6a4027f0b3780871a8b220b40f1442859160436b99ad2a1931418301cdff", func := "depot/depotlaw27.AtmostKeeps", spec := "atmostKeeps", unfollowed := true, recurses := true, apart := false, narrowed := true }
def AtmostKeepsUptoSaid : Prop := atmostKeepsUptoRow.holds Try.pinned (OpenSpec.upto atmostKeepsSpec)

/-- 'depotlaw27.AtmostCounts', WHERE WHAT IT READS IS OF BULK AT MOST 1048576: true; the input reads as it did. -/
def atmostCountsUptoRow : OpenClaim := { program := "ytlemkghpcbkcpaa", sum := "360a6a4027f0b3780871a8b220b40f1442859160436b99ad2a1931418301cdff", func := "depot/depotlaw27.AtmostCounts", spec := "atmostCounts", unfollowed := true, recurses := true, apart := false, narrowed := true }
def AtmostCountsUptoSaid : Prop := atmostCountsUptoRow.holds Try.pinned (OpenSpec.upto atmostCountsSpec)

end Rows
end Go.Proofs.Ytlemkghpcbkcpaa
