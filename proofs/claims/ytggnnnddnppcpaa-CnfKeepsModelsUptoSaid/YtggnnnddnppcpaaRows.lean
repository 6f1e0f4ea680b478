/-
  No cell of these rows narrows 'for every input' (looked for: loops, veiled, ifaces, maps, wideKeys, modest, calm, conditions, laid).
  DERIVED. THE GIVEN ROWS OF THIS SEAT. 13 by the template 'for every input the law returns true; each argument reads behind the call as it read before'; 0 by the template 'total and deterministic' (their statements: YtggnnnddnppcpaaTotals.lean).
  GIVEN WITH THE SEED: the statements are not yours to turn. If you find one false, say at which input.
  Laid BY PROGRAM, IN A SANDBOX (cutbox-rows.mjs): the forced cells as the released guide's own fill.sh prints them over the translation c629ab967862bfa3… (all of the seat's roots in one cut). By AI agents, Wed Nov 11 2026. No macro, syntax, notation, axiom, sorry.
-/
import Derived.Test.YtggnnnddnppcpaaChecked
import GoSem.Claim
import GoSem.ClaimJoined
import GoSem.ClaimMapViews
import Derived.JoinedTies
import Derived.KernelRfl
namespace Go.Proofs.Ytggnnnddnppcpaa
/- THE CELL 'sum', in the pinned program and in every row, IS THE sha256 OF THE DUMP (.gsa) THAT YtggnnnddnppcpaaProg.lean LOADS. Nothing in Lean hashes anything: it is a label: what it is worth is what the hold of that sum in a sandbox is worth. -/
noncomputable def Try.pinned : Pinned := { name := "ytggnnnddnppcpaa", sum := "c629ab967862bfa3b40137b4f63677d9ee271162101a9ef00925ebdb79ad2b8d", checked := Try.checked }
namespace Rows
def none {H : Type} : Left H := { results := [], args := [] }

/-- 'depotlaw02.CnfShape': WHATEVER THE INPUT: true; the input reads as it did. -/
def cnfShapeSpec : ChangeSpec := { name := "cnfShape", fn := fun _ => fun
  | [d] => { results := [.lit (.bool true)], args := [d] }
  | _ => none }
def cnfShapeRow : OpenClaim := { program := "ytggnnnddnppcpaa", sum := "c629ab967862bfa3b40137b4f63677d9ee271162101a9ef00925ebdb79ad2b8d", func := "depot/depotlaw02.CnfShape", spec := "cnfShape", apart := false }
def CnfShapeSaid : Prop := cnfShapeRow.holds Try.pinned (OpenSpec.ofChange cnfShapeSpec)

/-- ITS FALSE NEIGHBOUR: 'it returns false'. Refute it at one input. -/
def cnfShapeWrong : ChangeSpec := { name := "cnfShape", fn := fun _ => fun
  | [d] => { results := [.lit (.bool false)], args := [d] }
  | _ => none }
def CnfShapeWrongFalsely : Prop := cnfShapeRow.holds Try.pinned (OpenSpec.ofChange cnfShapeWrong)

/-- 'depotlaw02.CnfJoins': WHATEVER THE INPUT: true; the input reads as it did. -/
def cnfJoinsSpec : ChangeSpec := { name := "cnfJoins", fn := fun _ => fun
  | [d1, d2] => { results := [.lit (.bool true)], args := [d1, d2] }
  | _ => none }
def cnfJoinsRow : OpenClaim := { program := "ytggnnnddnppcpaa", sum := "c629ab967862bfa3b40137b4f63677d9ee271162101a9ef00925ebdb79ad2b8d", func := "depot/depotlaw02.CnfJoins", spec := "cnfJoins", apart := false }
def CnfJoinsSaid : Prop := cnfJoinsRow.holds Try.pinned (OpenSpec.ofChange cnfJoinsSpec)

/-- ITS FALSE NEIGHBOUR: 'it returns false'. Refute it at one input. -/
def cnfJoinsWrong : ChangeSpec := { name := "cnfJoins", fn := fun _ => fun
  | [d1, d2] => { results := [.lit (.bool false)], args := [d1, d2] }
  | _ => none }
def CnfJoinsWrongFalsely : Prop := cnfJoinsRow.holds Try.pinned (OpenSpec.ofChange cnfJoinsWrong)

/-- 'depotlaw02.CnfKeepsJoin': WHATEVER THE INPUT: true; the input reads as it did. -/
def cnfKeepsJoinSpec : ChangeSpec := { name := "cnfKeepsJoin", fn := fun _ => fun
  | [d1, d2] => { results := [.lit (.bool true)], args := [d1, d2] }
  | _ => none }
def cnfKeepsJoinRow : OpenClaim := { program := "ytggnnnddnppcpaa", sum := "c629ab967862bfa3b40137b4f63677d9ee271162101a9ef00925ebdb79ad2b8d", func := "depot/depotlaw02.CnfKeepsJoin", spec := "cnfKeepsJoin", apart := false }
def CnfKeepsJoinSaid : Prop := cnfKeepsJoinRow.holds Try.pinned (OpenSpec.ofChange cnfKeepsJoinSpec)

/-- ITS FALSE NEIGHBOUR: 'it returns false'. Refute it at one input. -/
def cnfKeepsJoinWrong : ChangeSpec := { name := "cnfKeepsJoin", fn := fun _ => fun
  | [d1, d2] => { results := [.lit (.bool false)], args := [d1, d2] }
  | _ => none }
def CnfKeepsJoinWrongFalsely : Prop := cnfKeepsJoinRow.holds Try.pinned (OpenSpec.ofChange cnfKeepsJoinWrong)

/-- 'depotlaw02.CnfTold': WHATEVER THE INPUT: true; the input reads as it did. -/
def cnfToldSpec : ChangeSpec := { name := "cnfTold", fn := fun _ => fun
  | [d1, d2] => { results := [.lit (.bool true)], args := [d1, d2] }
  | _ => none }
def cnfToldRow : OpenClaim := { program := "ytggnnnddnppcpaa", sum := "c629ab967862bfa3b40137b4f63677d9ee271162101a9ef00925ebdb79ad2b8d", func := "depot/depotlaw02.CnfTold", spec := "cnfTold", apart := false }
def CnfToldSaid : Prop := cnfToldRow.holds Try.pinned (OpenSpec.ofChange cnfToldSpec)

/-- ITS FALSE NEIGHBOUR: 'it returns false'. Refute it at one input. -/
def cnfToldWrong : ChangeSpec := { name := "cnfTold", fn := fun _ => fun
  | [d1, d2] => { results := [.lit (.bool false)], args := [d1, d2] }
  | _ => none }
def CnfToldWrongFalsely : Prop := cnfToldRow.holds Try.pinned (OpenSpec.ofChange cnfToldWrong)

/-- 'depotlaw02.CnfModels': WHATEVER THE INPUT: true; the input reads as it did. -/
def cnfModelsSpec : ChangeSpec := { name := "cnfModels", fn := fun _ => fun
  | [d1, d2] => { results := [.lit (.bool true)], args := [d1, d2] }
  | _ => none }
def cnfModelsRow : OpenClaim := { program := "ytggnnnddnppcpaa", sum := "c629ab967862bfa3b40137b4f63677d9ee271162101a9ef00925ebdb79ad2b8d", func := "depot/depotlaw02.CnfModels", spec := "cnfModels", unfollowed := true, recurses := true, apart := false }
def CnfModelsSaid : Prop := cnfModelsRow.holds Try.pinned (OpenSpec.ofChange cnfModelsSpec)

/-- ITS FALSE NEIGHBOUR: 'it returns false'. Refute it at one input. -/
def cnfModelsWrong : ChangeSpec := { name := "cnfModels", fn := fun _ => fun
  | [d1, d2] => { results := [.lit (.bool false)], args := [d1, d2] }
  | _ => none }
def CnfModelsWrongFalsely : Prop := cnfModelsRow.holds Try.pinned (OpenSpec.ofChange cnfModelsWrong)

/-- 'depotlaw02.CnfLives': WHATEVER THE INPUT: true; the input reads as it did. -/
def cnfLivesSpec : ChangeSpec := { name := "cnfLives", fn := fun _ => fun
  | [] => { results := [.lit (.bool true)], args := [] }
  | _ => none }
def cnfLivesRow : OpenClaim := { program := "ytggnnnddnppcpaa", sum := "c629ab967862bfa3b40137b4f63677d9ee271162101a9ef00925ebdb79ad2b8d", func := "depot/depotlaw02.CnfLives", spec := "cnfLives", unfollowed := true, recurses := true, apart := false }
def CnfLivesSaid : Prop := cnfLivesRow.holds Try.pinned (OpenSpec.ofChange cnfLivesSpec)

/-- ITS FALSE NEIGHBOUR: 'it returns false'. Refute it at one input. -/
def cnfLivesWrong : ChangeSpec := { name := "cnfLives", fn := fun _ => fun
  | [] => { results := [.lit (.bool false)], args := [] }
  | _ => none }
def CnfLivesWrongFalsely : Prop := cnfLivesRow.holds Try.pinned (OpenSpec.ofChange cnfLivesWrong)

/-- 'depotlaw02.CnfSums': WHATEVER THE INPUT: true; the input reads as it did. -/
def cnfSumsSpec : ChangeSpec := { name := "cnfSums", fn := fun _ => fun
  | [d1, d2] => { results := [.lit (.bool true)], args := [d1, d2] }
  | _ => none }
def cnfSumsRow : OpenClaim := { program := "ytggnnnddnppcpaa", sum := "c629ab967862bfa3b40137b4f63677d9ee271162101a9ef00925ebdb79ad2b8d", func := "depot/depotlaw02.CnfSums", spec := "cnfSums", unfollowed := true, recurses := true, apart := false }
def CnfSumsSaid : Prop := cnfSumsRow.holds Try.pinned (OpenSpec.ofChange cnfSumsSpec)

/-- ITS FALSE NEIGHBOUR: 'it returns false'. Refute it at one input. -/
def cnfSumsWrong : ChangeSpec := { name := "cnfSums", fn := fun _ => fun
  | [d1, d2] => { results := [.lit (.bool false)], args := [d1, d2] }
  | _ => none }
def CnfSumsWrongFalsely : Prop := cnfSumsRow.holds Try.pinned (OpenSpec.ofChange cnfSumsWrong)

/-- 'depotlaw02.CnfCounts': WHATEVER THE INPUT: true; the input reads as it did. -/
def cnfCountsSpec : ChangeSpec := { name := "cnfCounts", fn := fun _ => fun
  | [d1, d2] => { results := [.lit (.bool true)], args := [d1, d2] }
  | _ => none }
def cnfCountsRow : OpenClaim := { program := "ytggnnnddnppcpaa", sum := "c629ab967862bfa3b40137b4f63677d9ee271162101a9ef00925ebdb79ad2b8d", func := "depot/depotlaw02.CnfCounts", spec := "cnfCounts", unfollowed := true, recurses := true, apart := false }
def CnfCountsSaid : Prop := cnfCountsRow.holds Try.pinned (OpenSpec.ofChange cnfCountsSpec)

/-- ITS FALSE NEIGHBOUR: 'it returns false'. Refute it at one input. -/
def cnfCountsWrong : ChangeSpec := { name := "cnfCounts", fn := fun _ => fun
  | [d1, d2] => { results := [.lit (.bool false)], args := [d1, d2] }
  | _ => none }
def CnfCountsWrongFalsely : Prop := cnfCountsRow.holds Try.pinned (OpenSpec.ofChange cnfCountsWrong)

/-- 'depotlaw02.CnfRefutes': WHATEVER THE INPUT: true; the input reads as it did. -/
def cnfRefutesSpec : ChangeSpec := { name := "cnfRefutes", fn := fun _ => fun
  | [d1, d2] => { results := [.lit (.bool true)], args := [d1, d2] }
  | _ => none }
def cnfRefutesRow : OpenClaim := { program := "ytggnnnddnppcpaa", sum := "c629ab967862bfa3b40137b4f63677d9ee271162101a9ef00925ebdb79ad2b8d", func := "depot/depotlaw02.CnfRefutes", spec := "cnfRefutes", unfollowed := true, recurses := true, apart := false }
def CnfRefutesSaid : Prop := cnfRefutesRow.holds Try.pinned (OpenSpec.ofChange cnfRefutesSpec)

/-- ITS FALSE NEIGHBOUR: 'it returns false'. Refute it at one input. -/
def cnfRefutesWrong : ChangeSpec := { name := "cnfRefutes", fn := fun _ => fun
  | [d1, d2] => { results := [.lit (.bool false)], args := [d1, d2] }
  | _ => none }
def CnfRefutesWrongFalsely : Prop := cnfRefutesRow.holds Try.pinned (OpenSpec.ofChange cnfRefutesWrong)

/-- 'depotlaw02.CnfKeepsModels': WHATEVER THE INPUT: true; the input reads as it did. -/
def cnfKeepsModelsSpec : ChangeSpec := { name := "cnfKeepsModels", fn := fun _ => fun
  | [d] => { results := [.lit (.bool true)], args := [d] }
  | _ => none }
def cnfKeepsModelsRow : OpenClaim := { program := "ytggnnnddnppcpaa", sum := "c629ab967862bfa3b40137b4f63677d9ee271162101a9ef00925ebdb79ad2b8d", func := "depot/depotlaw02.CnfKeepsModels", spec := "cnfKeepsModels", unfollowed := true, recurses := true, apart := false }
def CnfKeepsModelsSaid : Prop := cnfKeepsModelsRow.holds Try.pinned (OpenSpec.ofChange cnfKeepsModelsSpec)

/-- ITS FALSE NEIGHBOUR: 'it returns false'. Refute it at one input. -/
def cnfKeepsModelsWrong : ChangeSpec := { name := "cnfKeepsModels", fn := fun _ => fun
  | [d] => { results := [.lit (.bool false)], args := [d] }
  | _ => none }
def CnfKeepsModelsWrongFalsely : Prop := cnfKeepsModelsRow.holds Try.pinned (OpenSpec.ofChange cnfKeepsModelsWrong)

/-- 'depotlaw02.CnfLeft': WHATEVER THE INPUT: true; the input reads as it did. -/
def cnfLeftSpec : ChangeSpec := { name := "cnfLeft", fn := fun _ => fun
  | [d1, d2] => { results := [.lit (.bool true)], args := [d1, d2] }
  | _ => none }
def cnfLeftRow : OpenClaim := { program := "ytggnnnddnppcpaa", sum := "c629ab967862bfa3b40137b4f63677d9ee271162101a9ef00925ebdb79ad2b8d", func := "depot/depotlaw02.CnfLeft", spec := "cnfLeft", unfollowed := true, recurses := true, apart := false }
def CnfLeftSaid : Prop := cnfLeftRow.holds Try.pinned (OpenSpec.ofChange cnfLeftSpec)

/-- ITS FALSE NEIGHBOUR: 'it returns false'. Refute it at one input. -/
def cnfLeftWrong : ChangeSpec := { name := "cnfLeft", fn := fun _ => fun
  | [d1, d2] => { results := [.lit (.bool false)], args := [d1, d2] }
  | _ => none }
def CnfLeftWrongFalsely : Prop := cnfLeftRow.holds Try.pinned (OpenSpec.ofChange cnfLeftWrong)

/-- 'depotlaw02.CnfKeepsUnder': WHATEVER THE INPUT: true; the input reads as it did. -/
def cnfKeepsUnderSpec : ChangeSpec := { name := "cnfKeepsUnder", fn := fun _ => fun
  | [d1, d2] => { results := [.lit (.bool true)], args := [d1, d2] }
  | _ => none }
def cnfKeepsUnderRow : OpenClaim := { program := "ytggnnnddnppcpaa", sum := "c629ab967862bfa3b40137b4f63677d9ee271162101a9ef00925ebdb79ad2b8d", func := "depot/depotlaw02.CnfKeepsUnder", spec := "cnfKeepsUnder", unfollowed := true, recurses := true, apart := false }
def CnfKeepsUnderSaid : Prop := cnfKeepsUnderRow.holds Try.pinned (OpenSpec.ofChange cnfKeepsUnderSpec)

/-- ITS FALSE NEIGHBOUR: 'it returns false'. Refute it at one input. -/
def cnfKeepsUnderWrong : ChangeSpec := { name := "cnfKeepsUnder", fn := fun _ => fun
  | [d1, d2] => { results := [.lit (.bool false)], args := [d1, d2] }
  | _ => none }
def CnfKeepsUnderWrongFalsely : Prop := cnfKeepsUnderRow.holds Try.pinned (OpenSpec.ofChange cnfKeepsUnderWrong)

/-- 'depotlaw02.CnfResolvents': WHATEVER THE INPUT: true; the input reads as it did. -/
def cnfResolventsSpec : ChangeSpec := { name := "cnfResolvents", fn := fun _ => fun
  | [d] => { results := [.lit (.bool true)], args := [d] }
  | _ => none }
def cnfResolventsRow : OpenClaim := { program := "ytggnnnddnppcpaa", sum := "c629ab967862bfa3b40137b4f63677d9ee271162101a9ef00925ebdb79ad2b8d", func := "depot/depotlaw02.CnfResolvents", spec := "cnfResolvents", unfollowed := true, recurses := true, apart := false }
def CnfResolventsSaid : Prop := cnfResolventsRow.holds Try.pinned (OpenSpec.ofChange cnfResolventsSpec)

/-- ITS FALSE NEIGHBOUR: 'it returns false'. Refute it at one input. -/
def cnfResolventsWrong : ChangeSpec := { name := "cnfResolvents", fn := fun _ => fun
  | [d] => { results := [.lit (.bool false)], args := [d] }
  | _ => none }
def CnfResolventsWrongFalsely : Prop := cnfResolventsRow.holds Try.pinned (OpenSpec.ofChange cnfResolventsWrong)

/- THE SECOND FORM. 'bulk': how many values and letters a reading holds, each counted each time it is reached (what is shared counts as often as it is met; a slice's spare places count too). A statement '..UptoSaid' is the law's where the arguments, and the package variables that the reading takes, are together of bulk at most 1048576: NARROWER than '..Said'. Prove '..Said' where nothing that the law and all that it calls make is longer than what came in: it says more and counts as full. Else prove '..UptoSaid'. A law counts once. -/
mutual
def uptoBulk {H : Type} : DataW H → Nat
  | .lit (.string bytes) => bytes.length + 1
  | .lit _ => 1
  | .nil => 1
  | .ptr d => uptoBulk d + 1
  | .slice elems spare => uptoBulkAll elems + uptoBulkAll spare + 1
  | .agg parts => uptoBulkAll parts + 1
  | .iface _ d => uptoBulk d + 1
  | .map entries => uptoBulkEntries entries + 1
  | .held _ => 1
def uptoBulkAll {H : Type} : List (DataW H) → Nat
  | [] => 0
  | d :: r => uptoBulk d + uptoBulkAll r
def uptoBulkEntries {H : Type} : List (Lit × DataW H) → Nat
  | [] => 0
  | x :: r => uptoBulkEntry x + uptoBulkEntries r
def uptoBulkEntry {H : Type} : Lit × DataW H → Nat
  | (.string bytes, d) => bytes.length + uptoBulk d + 1
  | (_, d) => uptoBulk d + 1
 end
def uptoSmall : (H : Type) → List (DataW H) → Bool := fun _ ds => decide (uptoBulkAll ds ≤ 1048576)
def OpenSpec.upto (s : _root_.Go.ChangeSpec) : _root_.Go.OpenSpec := { _root_.Go.OpenSpec.ofChange s with cond := some uptoSmall }

/-- 'depotlaw02.CnfShape', WHERE WHAT IT READS IS OF BULK AT MOST 1048576: true; the input reads as it did. -/
def cnfShapeUptoRow : OpenClaim := { program := "ytggnnnddnppcpaa", sum := "c629ab967862bfa3b40137b4f63677d9ee271162101a9ef00925ebdb79ad2b8d", func := "depot/depotlaw02.CnfShape", spec := "cnfShape", apart := false, narrowed := true }
def CnfShapeUptoSaid : Prop := cnfShapeUptoRow.holds Try.pinned (OpenSpec.upto cnfShapeSpec)

/-- 'depotlaw02.CnfJoins', WHERE WHAT IT READS IS OF BULK AT MOST 1048576: true; the input reads as it did. -/
def cnfJoinsUptoRow : OpenClaim := { program := "ytggnnnddnppcpaa", sum := "c629ab967862bfa3b40137b4f63677d9ee271162101a9ef00925ebdb79ad2b8d", func := "depot/depotlaw02.CnfJoins", spec := "cnfJoins", apart := false, narrowed := true }
def CnfJoinsUptoSaid : Prop := cnfJoinsUptoRow.holds Try.pinned (OpenSpec.upto cnfJoinsSpec)

/-- 'depotlaw02.CnfKeepsJoin', WHERE WHAT IT READS IS OF BULK AT MOST 1048576: true; the input reads as it did. -/
def cnfKeepsJoinUptoRow : OpenClaim := { program := "ytggnnnddnppcpaa", sum := "c629ab967862bfa3b40137b4f63677d9ee271162101a9ef00925ebdb79ad2b8d", func := "depot/depotlaw02.CnfKeepsJoin", spec := "cnfKeepsJoin", apart := false, narrowed := true }
def CnfKeepsJoinUptoSaid : Prop := cnfKeepsJoinUptoRow.holds Try.pinned (OpenSpec.upto cnfKeepsJoinSpec)

/-- 'depotlaw02.CnfTold', WHERE WHAT IT READS IS OF BULK AT MOST 1048576: true; the input reads as it did. -/
def cnfToldUptoRow : OpenClaim := { program := "ytggnnnddnppcpaa", sum := "c629ab967862bfa3b40137b4f63677d9ee271162101a9ef00925ebdb79ad2b8d", func := "depot/depotlaw02.CnfTold", spec := "cnfTold", apart := false, narrowed := true }
def CnfToldUptoSaid : Prop := cnfToldUptoRow.holds Try.pinned (OpenSpec.upto cnfToldSpec)

/-- 'depotlaw02.CnfModels', WHERE WHAT IT READS IS OF BULK AT MOST 1048576: true; the input reads as it did. -/
def cnfModelsUptoRow : OpenClaim := { program := "ytggnnnddnppcpaa", sum := "c629ab967862bfa3b40137b4f63677d9ee271162101a9ef00925ebdb79ad2b8d", func := "depot/depotlaw02.CnfModels", spec := "cnfModels", unfollowed := true, recurses := true, apart := false, narrowed := true }
def CnfModelsUptoSaid : Prop := cnfModelsUptoRow.holds Try.pinned (OpenSpec.upto cnfModelsSpec)

/-- 'depotlaw02.CnfLives', WHERE WHAT IT READS IS OF BULK AT MOST 1048576: true; the input reads as it did. -/
def cnfLivesUptoRow : OpenClaim := { program := "ytggnnnddnppcpaa", sum := "c629ab967862bfa3b40137b4f63677d9ee271162101a9ef00925ebdb79ad2b8d", func := "depot/depotlaw02.CnfLives", spec := "cnfLives", unfollowed := true, recurses := true, apart := false, narrowed := true }
def CnfLivesUptoSaid : Prop := cnfLivesUptoRow.holds Try.pinned (OpenSpec.upto cnfLivesSpec)

/-- 'depotlaw02.CnfSums', WHERE WHAT IT READS IS OF BULK AT MOST 1048576: true; the input reads as it did. -/
def cnfSumsUptoRow : OpenClaim := { program := "ytggnnnddnppcpaa", sum := "c629ab967862bfa3b40137b4f63677d9ee271162101a9ef00925ebdb79ad2b8d", func := "depot/depotlaw02.CnfSums", spec := "cnfSums", unfollowed := true, recurses := true, apart := false, narrowed := true }
def CnfSumsUptoSaid : Prop := cnfSumsUptoRow.holds Try.pinned (OpenSpec.upto cnfSumsSpec)

/-- 'depotlaw02.CnfCounts', WHERE WHAT IT READS IS OF BULK AT MOST 1048576: true; the input reads as it did. -/
def cnfCountsUptoRow : OpenClaim := { program := "ytggnnnddnppcpaa", sum := "c629ab967862bfa3b40137b4f63677d9ee271162101a9ef00925ebdb79ad2b8d", func := "depot/depotlaw02.CnfCounts", spec := "cnfCounts", unfollowed := true, recurses := true, apart := false, narrowed := true }
def CnfCountsUptoSaid : Prop := cnfCountsUptoRow.holds Try.pinned (OpenSpec.upto cnfCountsSpec)

/-- 'depotlaw02.CnfRefutes', WHERE WHAT IT READS IS OF BULK AT MOST 1048576: true; the input reads as it did. -/
def cnfRefutesUptoRow : OpenClaim := { program := "ytggnnnddnppcpaa", sum := "c629ab967862bfa3b40137b4f63677d9ee271162101a9ef00925ebdb79ad2b8d", func := "depot/depotlaw02.CnfRefutes", spec := "cnfRefutes", unfollowed := true, recurses := true, apart := false, narrowed := true }
def CnfRefutesUptoSaid : Prop := cnfRefutesUptoRow.holds Try.pinned (OpenSpec.upto cnfRefutesSpec)

/-- 'depotlaw02.CnfKeepsModels', WHERE WHAT IT READS IS OF BULK AT MOST 1048576: true; the input reads as it did. -/
def cnfKeepsModelsUptoRow : OpenClaim := { program := "ytggnnnddnppcpaa", sum := "c629ab967862bfa3b40137b4f63677d9ee271162101a9ef00925ebdb79ad2b8d", func := "depot/depotlaw02.CnfKeepsModels", spec := "cnfKeepsModels", unfollowed := true, recurses := true, apart := false, narrowed := true }
def CnfKeepsModelsUptoSaid : Prop := cnfKeepsModelsUptoRow.holds Try.pinned (OpenSpec.upto cnfKeepsModelsSpec)

/-- 'depotlaw02.CnfLeft', WHERE WHAT IT READS IS OF BULK AT MOST 1048576: true; the input reads as it did. -/
def cnfLeftUptoRow : OpenClaim := { program := "ytggnnnddnppcpaa", sum := "c629ab967862bfa3b40137b4f63677d9ee271162101a9ef00925ebdb79ad2b8d", func := "depot/depotlaw02.CnfLeft", spec := "cnfLeft", unfollowed := true, recurses := true, apart := false, narrowed := true }
def CnfLeftUptoSaid : Prop := cnfLeftUptoRow.holds Try.pinned (OpenSpec.upto cnfLeftSpec)

/-- 'depotlaw02.CnfKeepsUnder', WHERE WHAT IT READS IS OF BULK AT MOST 1048576: true; the input reads as it did. -/
def cnfKeepsUnderUptoRow : OpenClaim := { program := "ytggnnnddnppcpaa", sum := "c629ab967862bfa3b40137b4f63677d9ee271162101a9ef00925ebdb79ad2b8d", func := "depot/depotlaw02.CnfKeepsUnder", spec := "cnfKeepsUnder", unfollowed := true, recurses := true, apart := false, narrowed := true }
def CnfKeepsUnderUptoSaid : Prop := cnfKeepsUnderUptoRow.holds Try.pinned (OpenSpec.upto cnfKeepsUnderSpec)

/-- 'depotlaw02.CnfResolvents', WHERE WHAT IT READS IS OF BULK AT MOST 1048576: true; the input reads as it did. -/
def cnfResolventsUptoRow : OpenClaim := { program := "ytggnnnddnppcpaa", sum := "c629ab967862bfa3b40137b4f63677d9ee271162101a9ef00925ebdb79ad2b8d", func := "depot/depotlaw02.CnfResolvents", spec := "cnfResolvents", unfollowed := true, recurses := true, apart := false, narrowed := true }
def CnfResolventsUptoSaid : Prop := cnfResolventsUptoRow.holds Try.pinned (OpenSpec.upto cnfResolventsSpec)

end Rows
end Go.Proofs.Ytggnnnddnppcpaa
