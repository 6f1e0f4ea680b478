/-
  No cell of these rows narrows 'for every input' (looked for: loops, veiled, ifaces, maps, wideKeys, modest, calm, conditions, laid).
  DERIVED. THE GIVEN ROWS OF THIS SEAT. 12 by the template 'for every input the law returns true; each argument reads behind the call as it read before'; 0 by the template 'total and deterministic' (their statements: YtamefocngapkpaaTotals.lean).
  GIVEN WITH THE SEED: the statements are not yours to turn. If you find one false, say at which input.
  Laid BY PROGRAM, IN A SANDBOX (cutbox-rows.mjs): the forced cells as the released guide's own fill.sh prints them over the translation 9dfc0f5a3a5dcd7a… (all of the seat's roots in one cut). By AI agents, Wed Nov 11 2026. No macro, syntax, notation, axiom, sorry.
-/
import Derived.Test.YtamefocngapkpaaChecked
import GoSem.Claim
import GoSem.ClaimJoined
import GoSem.ClaimMapViews
import Derived.JoinedTies
import Derived.KernelRfl
namespace Go.Proofs.Ytamefocngapkpaa
/- THE CELL 'sum', in the pinned program and in every row, IS THE sha256 OF THE DUMP (.gsa) THAT YtamefocngapkpaaProg.lean LOADS. Nothing in Lean hashes anything: it is a label: what it is worth is what the hold of that sum in a sandbox is worth. -/
noncomputable def Try.pinned : Pinned := { name := "ytamefocngapkpaa", sum := "9dfc0f5a3a5dcd7ad054b0a804e01f7cd57ac2620f9f0d36ff2dd2f704f43eef", checked := Try.checked }
namespace Rows
def none {H : Type} : Left H := { results := [], args := [] }

/-- 'depotlaw01.LitsNumbers': WHATEVER THE INPUT: true; the input reads as it did. -/
def litsNumbersSpec : ChangeSpec := { name := "litsNumbers", fn := fun _ => fun
  | [] => { results := [.lit (.bool true)], args := [] }
  | _ => none }
def litsNumbersRow : OpenClaim := { program := "ytamefocngapkpaa", sum := "9dfc0f5a3a5dcd7ad054b0a804e01f7cd57ac2620f9f0d36ff2dd2f704f43eef", func := "depot/depotlaw01.LitsNumbers", spec := "litsNumbers", apart := false }
def LitsNumbersSaid : Prop := litsNumbersRow.holds Try.pinned (OpenSpec.ofChange litsNumbersSpec)

/-- ITS FALSE NEIGHBOUR: 'it returns false'. Refute it at one input. -/
def litsNumbersWrong : ChangeSpec := { name := "litsNumbers", fn := fun _ => fun
  | [] => { results := [.lit (.bool false)], args := [] }
  | _ => none }
def LitsNumbersWrongFalsely : Prop := litsNumbersRow.holds Try.pinned (OpenSpec.ofChange litsNumbersWrong)

/-- 'depotlaw01.LitsTells': WHATEVER THE INPUT: true; the input reads as it did. -/
def litsTellsSpec : ChangeSpec := { name := "litsTells", fn := fun _ => fun
  | [d1, d2] => { results := [.lit (.bool true)], args := [d1, d2] }
  | _ => none }
def litsTellsRow : OpenClaim := { program := "ytamefocngapkpaa", sum := "9dfc0f5a3a5dcd7ad054b0a804e01f7cd57ac2620f9f0d36ff2dd2f704f43eef", func := "depot/depotlaw01.LitsTells", spec := "litsTells", apart := false }
def LitsTellsSaid : Prop := litsTellsRow.holds Try.pinned (OpenSpec.ofChange litsTellsSpec)

/-- ITS FALSE NEIGHBOUR: 'it returns false'. Refute it at one input. -/
def litsTellsWrong : ChangeSpec := { name := "litsTells", fn := fun _ => fun
  | [d1, d2] => { results := [.lit (.bool false)], args := [d1, d2] }
  | _ => none }
def LitsTellsWrongFalsely : Prop := litsTellsRow.holds Try.pinned (OpenSpec.ofChange litsTellsWrong)

/-- 'depotlaw01.LitsThere': WHATEVER THE INPUT: true; the input reads as it did. -/
def litsThereSpec : ChangeSpec := { name := "litsThere", fn := fun _ => fun
  | [d1, d2] => { results := [.lit (.bool true)], args := [d1, d2] }
  | _ => none }
def litsThereRow : OpenClaim := { program := "ytamefocngapkpaa", sum := "9dfc0f5a3a5dcd7ad054b0a804e01f7cd57ac2620f9f0d36ff2dd2f704f43eef", func := "depot/depotlaw01.LitsThere", spec := "litsThere", apart := false }
def LitsThereSaid : Prop := litsThereRow.holds Try.pinned (OpenSpec.ofChange litsThereSpec)

/-- ITS FALSE NEIGHBOUR: 'it returns false'. Refute it at one input. -/
def litsThereWrong : ChangeSpec := { name := "litsThere", fn := fun _ => fun
  | [d1, d2] => { results := [.lit (.bool false)], args := [d1, d2] }
  | _ => none }
def LitsThereWrongFalsely : Prop := litsThereRow.holds Try.pinned (OpenSpec.ofChange litsThereWrong)

/-- 'depotlaw01.LitsTidies': WHATEVER THE INPUT: true; the input reads as it did. -/
def litsTidiesSpec : ChangeSpec := { name := "litsTidies", fn := fun _ => fun
  | [d1, d2, d3] => { results := [.lit (.bool true)], args := [d1, d2, d3] }
  | _ => none }
def litsTidiesRow : OpenClaim := { program := "ytamefocngapkpaa", sum := "9dfc0f5a3a5dcd7ad054b0a804e01f7cd57ac2620f9f0d36ff2dd2f704f43eef", func := "depot/depotlaw01.LitsTidies", spec := "litsTidies", unfollowed := true, recurses := true, apart := false }
def LitsTidiesSaid : Prop := litsTidiesRow.holds Try.pinned (OpenSpec.ofChange litsTidiesSpec)

/-- ITS FALSE NEIGHBOUR: 'it returns false'. Refute it at one input. -/
def litsTidiesWrong : ChangeSpec := { name := "litsTidies", fn := fun _ => fun
  | [d1, d2, d3] => { results := [.lit (.bool false)], args := [d1, d2, d3] }
  | _ => none }
def LitsTidiesWrongFalsely : Prop := litsTidiesRow.holds Try.pinned (OpenSpec.ofChange litsTidiesWrong)

/-- 'depotlaw01.LitsSets': WHATEVER THE INPUT: true; the input reads as it did. -/
def litsSetsSpec : ChangeSpec := { name := "litsSets", fn := fun _ => fun
  | [d1, d2, d3] => { results := [.lit (.bool true)], args := [d1, d2, d3] }
  | _ => none }
def litsSetsRow : OpenClaim := { program := "ytamefocngapkpaa", sum := "9dfc0f5a3a5dcd7ad054b0a804e01f7cd57ac2620f9f0d36ff2dd2f704f43eef", func := "depot/depotlaw01.LitsSets", spec := "litsSets", unfollowed := true, recurses := true, apart := false }
def LitsSetsSaid : Prop := litsSetsRow.holds Try.pinned (OpenSpec.ofChange litsSetsSpec)

/-- ITS FALSE NEIGHBOUR: 'it returns false'. Refute it at one input. -/
def litsSetsWrong : ChangeSpec := { name := "litsSets", fn := fun _ => fun
  | [d1, d2, d3] => { results := [.lit (.bool false)], args := [d1, d2, d3] }
  | _ => none }
def LitsSetsWrongFalsely : Prop := litsSetsRow.holds Try.pinned (OpenSpec.ofChange litsSetsWrong)

/-- 'depotlaw01.LitsWeaker': WHATEVER THE INPUT: true; the input reads as it did. -/
def litsWeakerSpec : ChangeSpec := { name := "litsWeaker", fn := fun _ => fun
  | [d1, d2, d3] => { results := [.lit (.bool true)], args := [d1, d2, d3] }
  | _ => none }
def litsWeakerRow : OpenClaim := { program := "ytamefocngapkpaa", sum := "9dfc0f5a3a5dcd7ad054b0a804e01f7cd57ac2620f9f0d36ff2dd2f704f43eef", func := "depot/depotlaw01.LitsWeaker", spec := "litsWeaker", unfollowed := true, recurses := true, apart := false }
def LitsWeakerSaid : Prop := litsWeakerRow.holds Try.pinned (OpenSpec.ofChange litsWeakerSpec)

/-- ITS FALSE NEIGHBOUR: 'it returns false'. Refute it at one input. -/
def litsWeakerWrong : ChangeSpec := { name := "litsWeaker", fn := fun _ => fun
  | [d1, d2, d3] => { results := [.lit (.bool false)], args := [d1, d2, d3] }
  | _ => none }
def LitsWeakerWrongFalsely : Prop := litsWeakerRow.holds Try.pinned (OpenSpec.ofChange litsWeakerWrong)

/-- 'depotlaw01.LitsAsks': WHATEVER THE INPUT: true; the input reads as it did. -/
def litsAsksSpec : ChangeSpec := { name := "litsAsks", fn := fun _ => fun
  | [d1, d2, d3] => { results := [.lit (.bool true)], args := [d1, d2, d3] }
  | _ => none }
def litsAsksRow : OpenClaim := { program := "ytamefocngapkpaa", sum := "9dfc0f5a3a5dcd7ad054b0a804e01f7cd57ac2620f9f0d36ff2dd2f704f43eef", func := "depot/depotlaw01.LitsAsks", spec := "litsAsks", unfollowed := true, recurses := true, apart := false }
def LitsAsksSaid : Prop := litsAsksRow.holds Try.pinned (OpenSpec.ofChange litsAsksSpec)

/-- ITS FALSE NEIGHBOUR: 'it returns false'. Refute it at one input. -/
def litsAsksWrong : ChangeSpec := { name := "litsAsks", fn := fun _ => fun
  | [d1, d2, d3] => { results := [.lit (.bool false)], args := [d1, d2, d3] }
  | _ => none }
def LitsAsksWrongFalsely : Prop := litsAsksRow.holds Try.pinned (OpenSpec.ofChange litsAsksWrong)

/-- 'depotlaw01.LitsAgain': WHATEVER THE INPUT: true; the input reads as it did. -/
def litsAgainSpec : ChangeSpec := { name := "litsAgain", fn := fun _ => fun
  | [d1, d2, d3] => { results := [.lit (.bool true)], args := [d1, d2, d3] }
  | _ => none }
def litsAgainRow : OpenClaim := { program := "ytamefocngapkpaa", sum := "9dfc0f5a3a5dcd7ad054b0a804e01f7cd57ac2620f9f0d36ff2dd2f704f43eef", func := "depot/depotlaw01.LitsAgain", spec := "litsAgain", unfollowed := true, recurses := true, apart := false }
def LitsAgainSaid : Prop := litsAgainRow.holds Try.pinned (OpenSpec.ofChange litsAgainSpec)

/-- ITS FALSE NEIGHBOUR: 'it returns false'. Refute it at one input. -/
def litsAgainWrong : ChangeSpec := { name := "litsAgain", fn := fun _ => fun
  | [d1, d2, d3] => { results := [.lit (.bool false)], args := [d1, d2, d3] }
  | _ => none }
def LitsAgainWrongFalsely : Prop := litsAgainRow.holds Try.pinned (OpenSpec.ofChange litsAgainWrong)

/-- 'depotlaw01.LitsResolves': WHATEVER THE INPUT: true; the input reads as it did. -/
def litsResolvesSpec : ChangeSpec := { name := "litsResolves", fn := fun _ => fun
  | [d1, d2, d3] => { results := [.lit (.bool true)], args := [d1, d2, d3] }
  | _ => none }
def litsResolvesRow : OpenClaim := { program := "ytamefocngapkpaa", sum := "9dfc0f5a3a5dcd7ad054b0a804e01f7cd57ac2620f9f0d36ff2dd2f704f43eef", func := "depot/depotlaw01.LitsResolves", spec := "litsResolves", unfollowed := true, recurses := true, apart := false }
def LitsResolvesSaid : Prop := litsResolvesRow.holds Try.pinned (OpenSpec.ofChange litsResolvesSpec)

/-- ITS FALSE NEIGHBOUR: 'it returns false'. Refute it at one input. -/
def litsResolvesWrong : ChangeSpec := { name := "litsResolves", fn := fun _ => fun
  | [d1, d2, d3] => { results := [.lit (.bool false)], args := [d1, d2, d3] }
  | _ => none }
def LitsResolvesWrongFalsely : Prop := litsResolvesRow.holds Try.pinned (OpenSpec.ofChange litsResolvesWrong)

/-- 'depotlaw01.LitsMeets': WHATEVER THE INPUT: true; the input reads as it did. -/
def litsMeetsSpec : ChangeSpec := { name := "litsMeets", fn := fun _ => fun
  | [d1, d2, d3] => { results := [.lit (.bool true)], args := [d1, d2, d3] }
  | _ => none }
def litsMeetsRow : OpenClaim := { program := "ytamefocngapkpaa", sum := "9dfc0f5a3a5dcd7ad054b0a804e01f7cd57ac2620f9f0d36ff2dd2f704f43eef", func := "depot/depotlaw01.LitsMeets", spec := "litsMeets", unfollowed := true, recurses := true, apart := false }
def LitsMeetsSaid : Prop := litsMeetsRow.holds Try.pinned (OpenSpec.ofChange litsMeetsSpec)

/-- ITS FALSE NEIGHBOUR: 'it returns false'. Refute it at one input. -/
def litsMeetsWrong : ChangeSpec := { name := "litsMeets", fn := fun _ => fun
  | [d1, d2, d3] => { results := [.lit (.bool false)], args := [d1, d2, d3] }
  | _ => none }
def LitsMeetsWrongFalsely : Prop := litsMeetsRow.holds Try.pinned (OpenSpec.ofChange litsMeetsWrong)

/-- 'depotlaw01.LitsFollows': WHATEVER THE INPUT: true; the input reads as it did. -/
def litsFollowsSpec : ChangeSpec := { name := "litsFollows", fn := fun _ => fun
  | [d1, d2, d3, d4] => { results := [.lit (.bool true)], args := [d1, d2, d3, d4] }
  | _ => none }
def litsFollowsRow : OpenClaim := { program := "ytamefocngapkpaa", sum := "9dfc0f5a3a5dcd7ad054b0a804e01f7cd57ac2620f9f0d36ff2dd2f704f43eef", func := "depot/depotlaw01.LitsFollows", spec := "litsFollows", unfollowed := true, recurses := true, apart := false }
def LitsFollowsSaid : Prop := litsFollowsRow.holds Try.pinned (OpenSpec.ofChange litsFollowsSpec)

/-- ITS FALSE NEIGHBOUR: 'it returns false'. Refute it at one input. -/
def litsFollowsWrong : ChangeSpec := { name := "litsFollows", fn := fun _ => fun
  | [d1, d2, d3, d4] => { results := [.lit (.bool false)], args := [d1, d2, d3, d4] }
  | _ => none }
def LitsFollowsWrongFalsely : Prop := litsFollowsRow.holds Try.pinned (OpenSpec.ofChange litsFollowsWrong)

/-- 'depotlaw01.LitsSpares': WHATEVER THE INPUT: true; the input reads as it did. -/
def litsSparesSpec : ChangeSpec := { name := "litsSpares", fn := fun _ => fun
  | [d1, d2, d3] => { results := [.lit (.bool true)], args := [d1, d2, d3] }
  | _ => none }
def litsSparesRow : OpenClaim := { program := "ytamefocngapkpaa", sum := "9dfc0f5a3a5dcd7ad054b0a804e01f7cd57ac2620f9f0d36ff2dd2f704f43eef", func := "depot/depotlaw01.LitsSpares", spec := "litsSpares", unfollowed := true, recurses := true, apart := false }
def LitsSparesSaid : Prop := litsSparesRow.holds Try.pinned (OpenSpec.ofChange litsSparesSpec)

/-- ITS FALSE NEIGHBOUR: 'it returns false'. Refute it at one input. -/
def litsSparesWrong : ChangeSpec := { name := "litsSpares", fn := fun _ => fun
  | [d1, d2, d3] => { results := [.lit (.bool false)], args := [d1, d2, d3] }
  | _ => none }
def LitsSparesWrongFalsely : Prop := litsSparesRow.holds Try.pinned (OpenSpec.ofChange litsSparesWrong)

/- THE SECOND FORM. 'bulk': how many values and letters a reading holds, each counted each time it is reached (what is shared counts as often as it is met; a slice's spare places count too). A statement '..UptoSaid' is the law's where the arguments, and the package variables that the reading takes, are together of bulk at most 1048576: NARROWER than '..Said'. Prove '..Said' where nothing that the law and all that it calls make is longer than what came in: it says more and counts as full. Else prove '..UptoSaid'. A law counts once. -/
mutual
def uptoBulk {H : Type} : DataW H → Nat
  | .lit (.string bytes) => bytes.length + 1
  | .lit _ => 1
  | .nil => 1
  | .ptr d => uptoBulk d + 1
  | .slice elems spare => uptoBulkAll elems + uptoBulkAll spare + 1
  | .agg parts => uptoBulkAll parts + 1
  | .iface _ d => uptoBulk d + 1
  | .map entries => uptoBulkEntries entries + 1
  | .held _ => 1
def uptoBulkAll {H : Type} : List (DataW H) → Nat
  | [] => 0
  | d :: r => uptoBulk d + uptoBulkAll r
def uptoBulkEntries {H : Type} : List (Lit × DataW H) → Nat
  | [] => 0
  | x :: r => uptoBulkEntry x + uptoBulkEntries r
def uptoBulkEntry {H : Type} : Lit × DataW H → Nat
  | (.string bytes, d) => bytes.length + uptoBulk d + 1
  | (_, d) => uptoBulk d + 1
 end
def uptoSmall : (H : Type) → List (DataW H) → Bool := fun _ ds => decide (uptoBulkAll ds ≤ 1048576)
def OpenSpec.upto (s : _root_.Go.ChangeSpec) : _root_.Go.OpenSpec := { _root_.Go.OpenSpec.ofChange s with cond := some uptoSmall }

/-- 'depotlaw01.LitsNumbers', WHERE WHAT IT READS IS OF BULK AT MOST 1048576: true; the input reads as it did. -/
def litsNumbersUptoRow : OpenClaim := { program := "ytamefocngapkpaa", sum := "9dfc0f5a3a5dcd7ad054b0a804e01f7cd57ac2620f9f0d36ff2dd2f704f43eef", func := "depot/depotlaw01.LitsNumbers", spec := "litsNumbers", apart := false, narrowed := true }
def LitsNumbersUptoSaid : Prop := litsNumbersUptoRow.holds Try.pinned (OpenSpec.upto litsNumbersSpec)

/-- 'depotlaw01.LitsTells', WHERE WHAT IT READS IS OF BULK AT MOST 1048576: true; the input reads as it did. -/
def litsTellsUptoRow : OpenClaim := { program := "ytamefocngapkpaa", sum := "9dfc0f5a3a5dcd7ad054b0a804e01f7cd57ac2620f9f0d36ff2dd2f704f43eef", func := "depot/depotlaw01.LitsTells", spec := "litsTells", apart := false, narrowed := true }
def LitsTellsUptoSaid : Prop := litsTellsUptoRow.holds Try.pinned (OpenSpec.upto litsTellsSpec)

/-- 'depotlaw01.LitsThere', WHERE WHAT IT READS IS OF BULK AT MOST 1048576: true; the input reads as it did. -/
def litsThereUptoRow : OpenClaim := { program := "ytamefocngapkpaa", sum := "9dfc0f5a3a5dcd7ad054b0a804e01f7cd57ac2620f9f0d36ff2dd2f704f43eef", func := "depot/depotlaw01.LitsThere", spec := "litsThere", apart := false, narrowed := true }
def LitsThereUptoSaid : Prop := litsThereUptoRow.holds Try.pinned (OpenSpec.upto litsThereSpec)

/-- 'depotlaw01.LitsTidies', WHERE WHAT IT READS IS OF BULK AT MOST 1048576: true; the input reads as it did. -/
def litsTidiesUptoRow : OpenClaim := { program := "ytamefocngapkpaa", sum := "9dfc0f5a3a5dcd7ad054b0a804e01f7cd57ac2620f9f0d36ff2dd2f704f43eef", func := "depot/depotlaw01.LitsTidies", spec := "litsTidies", unfollowed := true, recurses := true, apart := false, narrowed := true }
def LitsTidiesUptoSaid : Prop := litsTidiesUptoRow.holds Try.pinned (OpenSpec.upto litsTidiesSpec)

/-- 'depotlaw01.LitsSets', WHERE WHAT IT READS IS OF BULK AT MOST 1048576: true; the input reads as it did. -/
def litsSetsUptoRow : OpenClaim := { program := "ytamefocngapkpaa", sum := "9dfc0f5a3a5dcd7ad054b0a804e01f7cd57ac2620f9f0d36ff2dd2f704f43eef", func := "depot/depotlaw01.LitsSets", spec := "litsSets", unfollowed := true, recurses := true, apart := false, narrowed := true }
def LitsSetsUptoSaid : Prop := litsSetsUptoRow.holds Try.pinned (OpenSpec.upto litsSetsSpec)

/-- 'depotlaw01.LitsWeaker', WHERE WHAT IT READS IS OF BULK AT MOST 1048576: true; the input reads as it did. -/
def litsWeakerUptoRow : OpenClaim := { program := "ytamefocngapkpaa", sum := "9dfc0f5a3a5dcd7ad054b0a804e01f7cd57ac2620f9f0d36ff2dd2f704f43eef", func := "depot/depotlaw01.LitsWeaker", spec := "litsWeaker", unfollowed := true, recurses := true, apart := false, narrowed := true }
def LitsWeakerUptoSaid : Prop := litsWeakerUptoRow.holds Try.pinned (OpenSpec.upto litsWeakerSpec)

/-- 'depotlaw01.LitsAsks', WHERE WHAT IT READS IS OF BULK AT MOST 1048576: true; the input reads as it did. -/
def litsAsksUptoRow : OpenClaim := { program := "ytamefocngapkpaa", sum := "9dfc0f5a3a5dcd7ad054b0a804e01f7cd57ac2620f9f0d36ff2dd2f704f43eef", func := "depot/depotlaw01.LitsAsks", spec := "litsAsks", unfollowed := true, recurses := true, apart := false, narrowed := true }
def LitsAsksUptoSaid : Prop := litsAsksUptoRow.holds Try.pinned (OpenSpec.upto litsAsksSpec)

/-- 'depotlaw01.LitsAgain', WHERE WHAT IT READS IS OF BULK AT MOST 1048576: true; the input reads as it did. -/
def litsAgainUptoRow : OpenClaim := { program := "ytamefocngapkpaa", sum := "9dfc0f5a3a5dcd7ad054b0a804e01f7cd57ac2620f9f0d36ff2dd2f704f43eef", func := "depot/depotlaw01.LitsAgain", spec := "litsAgain", unfollowed := true, recurses := true, apart := false, narrowed := true }
def LitsAgainUptoSaid : Prop := litsAgainUptoRow.holds Try.pinned (OpenSpec.upto litsAgainSpec)

/-- 'depotlaw01.LitsResolves', WHERE WHAT IT READS IS OF BULK AT MOST 1048576: true; the input reads as it did. -/
def litsResolvesUptoRow : OpenClaim := { program := "ytamefocngapkpaa", sum := "9dfc0f5a3a5dcd7ad054b0a804e01f7cd57ac2620f9f0d36ff2dd2f704f43eef", func := "depot/depotlaw01.LitsResolves", spec := "litsResolves", unfollowed := true, recurses := true, apart := false, narrowed := true }
def LitsResolvesUptoSaid : Prop := litsResolvesUptoRow.holds Try.pinned (OpenSpec.upto litsResolvesSpec)

/-- 'depotlaw01.LitsMeets', WHERE WHAT IT READS IS OF BULK AT MOST 1048576: true; the input reads as it did. -/
def litsMeetsUptoRow : OpenClaim := { program := "ytamefocngapkpaa", sum := "9dfc0f5a3a5dcd7ad054b0a804e01f7cd57ac2620f9f0d36ff2dd2f704f43eef", func := "depot/depotlaw01.LitsMeets", spec := "litsMeets", unfollowed := true, recurses := true, apart := false, narrowed := true }
def LitsMeetsUptoSaid : Prop := litsMeetsUptoRow.holds Try.pinned (OpenSpec.upto litsMeetsSpec)

/-- 'depotlaw01.LitsFollows', WHERE WHAT IT READS IS OF BULK AT MOST 1048576: true; the input reads as it did. -/
def litsFollowsUptoRow : OpenClaim := { program := "ytamefocngapkpaa", sum := "9dfc0f5a3a5dcd7ad054b0a804e01f7cd57ac2620f9f0d36ff2dd2f704f43eef", func := "depot/depotlaw01.LitsFollows", spec := "litsFollows", unfollowed := true, recurses := true, apart := false, narrowed := true }
def LitsFollowsUptoSaid : Prop := litsFollowsUptoRow.holds Try.pinned (OpenSpec.upto litsFollowsSpec)

/-- 'depotlaw01.LitsSpares', WHERE WHAT IT READS IS OF BULK AT MOST 1048576: true; the input reads as it did. -/
def litsSparesUptoRow : OpenClaim := { program := "ytamefocngapkpaa", sum := "9dfc0f5a3a5dcd7ad054b0a804e01f7cd57ac2620f9f0d36ff2dd2f704f43eef", func := "depot/depotlaw01.LitsSpares", spec := "litsSpares", unfollowed := true, recurses := true, apart := false, narrowed := true }
def LitsSparesUptoSaid : Prop := litsSparesUptoRow.holds Try.pinned (OpenSpec.upto litsSparesSpec)

end Rows
end Go.Proofs.Ytamefocngapkpaa
