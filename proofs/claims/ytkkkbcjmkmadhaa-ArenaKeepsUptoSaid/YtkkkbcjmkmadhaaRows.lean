/-
  No cell of these rows narrows 'for every input' (looked for: loops, veiled, ifaces, maps, wideKeys, modest, calm, conditions, laid).
  DERIVED. THE GIVEN ROWS OF THIS SEAT. 12 by the template 'for every input the law returns true; each argument reads behind the call as it read before'; 0 by the template 'total and deterministic' (their statements: YtkkkbcjmkmadhaaTotals.lean).
  GIVEN WITH THE SEED: the statements are not yours to turn. If you find one false, say at which input.
  Laid BY PROGRAM, IN A SANDBOX (cutbox-rows.mjs): the forced cells as the released guide's own fill.sh prints them over the translation c3ff1dd2eaaa243a… (all of the seat's roots in one cut). By AI agents, Wed Nov 11 2026. No macro, syntax, notation, axiom, sorry.
-/
import Derived.Test.YtkkkbcjmkmadhaaChecked
import GoSem.Claim
import GoSem.ClaimJoined
import GoSem.ClaimMapViews
import Derived.JoinedTies
import Derived.KernelRfl
namespace Go.Proofs.Ytkkkbcjmkmadhaa
/- THE CELL 'sum', in the pinned program and in every row, IS THE sha256 OF THE DUMP (.gsa) THAT YtkkkbcjmkmadhaaProg.lean LOADS. Nothing in Lean hashes anything: it is a label: what it is worth is what the hold of that sum in a sandbox is worth. -/
noncomputable def Try.pinned : Pinned := { name := "ytkkkbcjmkmadhaa", sum := "c3ff1dd2eaaa243a47bf08f5b543ece222360a51c7cb875ca3b8f6697e27b010", checked := Try.checked }
namespace Rows
def none {H : Type} : Left H := { results := [], args := [] }

/-- 'depotlaw08.RupNames': WHATEVER THE INPUT: true; the input reads as it did. -/
def rupNamesSpec : ChangeSpec := { name := "rupNames", fn := fun _ => fun
  | [] => { results := [.lit (.bool true)], args := [] }
  | _ => none }
def rupNamesRow : OpenClaim := { program := "ytkkkbcjmkmadhaa", sum := "c3ff1dd2eaaa243a47bf08f5b543ece222360a51c7cb875ca3b8f6697e27b010", func := "depot/depotlaw08.RupNames", spec := "rupNames", apart := false }
def RupNamesSaid : Prop := rupNamesRow.holds Try.pinned (OpenSpec.ofChange rupNamesSpec)

/-- ITS FALSE NEIGHBOUR: 'it returns false'. Refute it at one input. -/
def rupNamesWrong : ChangeSpec := { name := "rupNames", fn := fun _ => fun
  | [] => { results := [.lit (.bool false)], args := [] }
  | _ => none }
def RupNamesWrongFalsely : Prop := rupNamesRow.holds Try.pinned (OpenSpec.ofChange rupNamesWrong)

/-- 'depotlaw12.TrimWithin': WHATEVER THE INPUT: true; the input reads as it did. -/
def trimWithinSpec : ChangeSpec := { name := "trimWithin", fn := fun _ => fun
  | [d1, d2] => { results := [.lit (.bool true)], args := [d1, d2] }
  | _ => none }
def trimWithinRow : OpenClaim := { program := "ytkkkbcjmkmadhaa", sum := "c3ff1dd2eaaa243a47bf08f5b543ece222360a51c7cb875ca3b8f6697e27b010", func := "depot/depotlaw12.TrimWithin", spec := "trimWithin", recurses := true, apart := false }
def TrimWithinSaid : Prop := trimWithinRow.holds Try.pinned (OpenSpec.ofChange trimWithinSpec)

/-- ITS FALSE NEIGHBOUR: 'it returns false'. Refute it at one input. -/
def trimWithinWrong : ChangeSpec := { name := "trimWithin", fn := fun _ => fun
  | [d1, d2] => { results := [.lit (.bool false)], args := [d1, d2] }
  | _ => none }
def TrimWithinWrongFalsely : Prop := trimWithinRow.holds Try.pinned (OpenSpec.ofChange trimWithinWrong)

/-- 'depotlaw12.TrimParts': WHATEVER THE INPUT: true; the input reads as it did. -/
def trimPartsSpec : ChangeSpec := { name := "trimParts", fn := fun _ => fun
  | [d1, d2, d3] => { results := [.lit (.bool true)], args := [d1, d2, d3] }
  | _ => none }
def trimPartsRow : OpenClaim := { program := "ytkkkbcjmkmadhaa", sum := "c3ff1dd2eaaa243a47bf08f5b543ece222360a51c7cb875ca3b8f6697e27b010", func := "depot/depotlaw12.TrimParts", spec := "trimParts", apart := false }
def TrimPartsSaid : Prop := trimPartsRow.holds Try.pinned (OpenSpec.ofChange trimPartsSpec)

/-- ITS FALSE NEIGHBOUR: 'it returns false'. Refute it at one input. -/
def trimPartsWrong : ChangeSpec := { name := "trimParts", fn := fun _ => fun
  | [d1, d2, d3] => { results := [.lit (.bool false)], args := [d1, d2, d3] }
  | _ => none }
def TrimPartsWrongFalsely : Prop := trimPartsRow.holds Try.pinned (OpenSpec.ofChange trimPartsWrong)

/-- 'depotlaw04.ArenaNumbers': WHATEVER THE INPUT: true; the input reads as it did. -/
def arenaNumbersSpec : ChangeSpec := { name := "arenaNumbers", fn := fun _ => fun
  | [] => { results := [.lit (.bool true)], args := [] }
  | _ => none }
def arenaNumbersRow : OpenClaim := { program := "ytkkkbcjmkmadhaa", sum := "c3ff1dd2eaaa243a47bf08f5b543ece222360a51c7cb875ca3b8f6697e27b010", func := "depot/depotlaw04.ArenaNumbers", spec := "arenaNumbers", apart := false }
def ArenaNumbersSaid : Prop := arenaNumbersRow.holds Try.pinned (OpenSpec.ofChange arenaNumbersSpec)

/-- ITS FALSE NEIGHBOUR: 'it returns false'. Refute it at one input. -/
def arenaNumbersWrong : ChangeSpec := { name := "arenaNumbers", fn := fun _ => fun
  | [] => { results := [.lit (.bool false)], args := [] }
  | _ => none }
def ArenaNumbersWrongFalsely : Prop := arenaNumbersRow.holds Try.pinned (OpenSpec.ofChange arenaNumbersWrong)

/-- 'depotlaw04.ArenaSpares': WHATEVER THE INPUT: true; the input reads as it did. -/
def arenaSparesSpec : ChangeSpec := { name := "arenaSpares", fn := fun _ => fun
  | [d] => { results := [.lit (.bool true)], args := [d] }
  | _ => none }
def arenaSparesRow : OpenClaim := { program := "ytkkkbcjmkmadhaa", sum := "c3ff1dd2eaaa243a47bf08f5b543ece222360a51c7cb875ca3b8f6697e27b010", func := "depot/depotlaw04.ArenaSpares", spec := "arenaSpares", unfollowed := true, recurses := true, apart := false }
def ArenaSparesSaid : Prop := arenaSparesRow.holds Try.pinned (OpenSpec.ofChange arenaSparesSpec)

/-- ITS FALSE NEIGHBOUR: 'it returns false'. Refute it at one input. -/
def arenaSparesWrong : ChangeSpec := { name := "arenaSpares", fn := fun _ => fun
  | [d] => { results := [.lit (.bool false)], args := [d] }
  | _ => none }
def ArenaSparesWrongFalsely : Prop := arenaSparesRow.holds Try.pinned (OpenSpec.ofChange arenaSparesWrong)

/-- 'depotlaw08.RupPartners': WHATEVER THE INPUT: true; the input reads as it did. -/
def rupPartnersSpec : ChangeSpec := { name := "rupPartners", fn := fun _ => fun
  | [d1, d2] => { results := [.lit (.bool true)], args := [d1, d2] }
  | _ => none }
def rupPartnersRow : OpenClaim := { program := "ytkkkbcjmkmadhaa", sum := "c3ff1dd2eaaa243a47bf08f5b543ece222360a51c7cb875ca3b8f6697e27b010", func := "depot/depotlaw08.RupPartners", spec := "rupPartners", apart := false }
def RupPartnersSaid : Prop := rupPartnersRow.holds Try.pinned (OpenSpec.ofChange rupPartnersSpec)

/-- ITS FALSE NEIGHBOUR: 'it returns false'. Refute it at one input. -/
def rupPartnersWrong : ChangeSpec := { name := "rupPartners", fn := fun _ => fun
  | [d1, d2] => { results := [.lit (.bool false)], args := [d1, d2] }
  | _ => none }
def RupPartnersWrongFalsely : Prop := rupPartnersRow.holds Try.pinned (OpenSpec.ofChange rupPartnersWrong)

/-- 'depotlaw12.TrimOnly': WHATEVER THE INPUT: true; the input reads as it did. -/
def trimOnlySpec : ChangeSpec := { name := "trimOnly", fn := fun _ => fun
  | [d1, d2] => { results := [.lit (.bool true)], args := [d1, d2] }
  | _ => none }
def trimOnlyRow : OpenClaim := { program := "ytkkkbcjmkmadhaa", sum := "c3ff1dd2eaaa243a47bf08f5b543ece222360a51c7cb875ca3b8f6697e27b010", func := "depot/depotlaw12.TrimOnly", spec := "trimOnly", apart := false }
def TrimOnlySaid : Prop := trimOnlyRow.holds Try.pinned (OpenSpec.ofChange trimOnlySpec)

/-- ITS FALSE NEIGHBOUR: 'it returns false'. Refute it at one input. -/
def trimOnlyWrong : ChangeSpec := { name := "trimOnly", fn := fun _ => fun
  | [d1, d2] => { results := [.lit (.bool false)], args := [d1, d2] }
  | _ => none }
def TrimOnlyWrongFalsely : Prop := trimOnlyRow.holds Try.pinned (OpenSpec.ofChange trimOnlyWrong)

/-- 'depotlaw04.ArenaPlays': WHATEVER THE INPUT: true; the input reads as it did. -/
def arenaPlaysSpec : ChangeSpec := { name := "arenaPlays", fn := fun _ => fun
  | [d] => { results := [.lit (.bool true)], args := [d] }
  | _ => none }
def arenaPlaysRow : OpenClaim := { program := "ytkkkbcjmkmadhaa", sum := "c3ff1dd2eaaa243a47bf08f5b543ece222360a51c7cb875ca3b8f6697e27b010", func := "depot/depotlaw04.ArenaPlays", spec := "arenaPlays", unfollowed := true, recurses := true, apart := false }
def ArenaPlaysSaid : Prop := arenaPlaysRow.holds Try.pinned (OpenSpec.ofChange arenaPlaysSpec)

/-- ITS FALSE NEIGHBOUR: 'it returns false'. Refute it at one input. -/
def arenaPlaysWrong : ChangeSpec := { name := "arenaPlays", fn := fun _ => fun
  | [d] => { results := [.lit (.bool false)], args := [d] }
  | _ => none }
def ArenaPlaysWrongFalsely : Prop := arenaPlaysRow.holds Try.pinned (OpenSpec.ofChange arenaPlaysWrong)

/-- 'depotlaw04.ArenaKeeps': WHATEVER THE INPUT: true; the input reads as it did. -/
def arenaKeepsSpec : ChangeSpec := { name := "arenaKeeps", fn := fun _ => fun
  | [d] => { results := [.lit (.bool true)], args := [d] }
  | _ => none }
def arenaKeepsRow : OpenClaim := { program := "ytkkkbcjmkmadhaa", sum := "c3ff1dd2eaaa243a47bf08f5b543ece222360a51c7cb875ca3b8f6697e27b010", func := "depot/depotlaw04.ArenaKeeps", spec := "arenaKeeps", unfollowed := true, recurses := true, apart := false }
def ArenaKeepsSaid : Prop := arenaKeepsRow.holds Try.pinned (OpenSpec.ofChange arenaKeepsSpec)

/-- ITS FALSE NEIGHBOUR: 'it returns false'. Refute it at one input. -/
def arenaKeepsWrong : ChangeSpec := { name := "arenaKeeps", fn := fun _ => fun
  | [d] => { results := [.lit (.bool false)], args := [d] }
  | _ => none }
def ArenaKeepsWrongFalsely : Prop := arenaKeepsRow.holds Try.pinned (OpenSpec.ofChange arenaKeepsWrong)

/-- 'depotlaw04.ArenaLives': WHATEVER THE INPUT: true; the input reads as it did. -/
def arenaLivesSpec : ChangeSpec := { name := "arenaLives", fn := fun _ => fun
  | [d1, d2, d3] => { results := [.lit (.bool true)], args := [d1, d2, d3] }
  | _ => none }
def arenaLivesRow : OpenClaim := { program := "ytkkkbcjmkmadhaa", sum := "c3ff1dd2eaaa243a47bf08f5b543ece222360a51c7cb875ca3b8f6697e27b010", func := "depot/depotlaw04.ArenaLives", spec := "arenaLives", unfollowed := true, recurses := true, apart := false }
def ArenaLivesSaid : Prop := arenaLivesRow.holds Try.pinned (OpenSpec.ofChange arenaLivesSpec)

/-- ITS FALSE NEIGHBOUR: 'it returns false'. Refute it at one input. -/
def arenaLivesWrong : ChangeSpec := { name := "arenaLives", fn := fun _ => fun
  | [d1, d2, d3] => { results := [.lit (.bool false)], args := [d1, d2, d3] }
  | _ => none }
def ArenaLivesWrongFalsely : Prop := arenaLivesRow.holds Try.pinned (OpenSpec.ofChange arenaLivesWrong)

/-- 'depotlaw06.UnitWhys': WHATEVER THE INPUT: true; the input reads as it did. -/
def unitWhysSpec : ChangeSpec := { name := "unitWhys", fn := fun _ => fun
  | [d1, d2] => { results := [.lit (.bool true)], args := [d1, d2] }
  | _ => none }
def unitWhysRow : OpenClaim := { program := "ytkkkbcjmkmadhaa", sum := "c3ff1dd2eaaa243a47bf08f5b543ece222360a51c7cb875ca3b8f6697e27b010", func := "depot/depotlaw06.UnitWhys", spec := "unitWhys", unfollowed := true, recurses := true, apart := false }
def UnitWhysSaid : Prop := unitWhysRow.holds Try.pinned (OpenSpec.ofChange unitWhysSpec)

/-- ITS FALSE NEIGHBOUR: 'it returns false'. Refute it at one input. -/
def unitWhysWrong : ChangeSpec := { name := "unitWhys", fn := fun _ => fun
  | [d1, d2] => { results := [.lit (.bool false)], args := [d1, d2] }
  | _ => none }
def UnitWhysWrongFalsely : Prop := unitWhysRow.holds Try.pinned (OpenSpec.ofChange unitWhysWrong)

/-- 'depotlaw08.RupBlocked': WHATEVER THE INPUT: true; the input reads as it did. -/
def rupBlockedSpec : ChangeSpec := { name := "rupBlocked", fn := fun _ => fun
  | [d1, d2] => { results := [.lit (.bool true)], args := [d1, d2] }
  | _ => none }
def rupBlockedRow : OpenClaim := { program := "ytkkkbcjmkmadhaa", sum := "c3ff1dd2eaaa243a47bf08f5b543ece222360a51c7cb875ca3b8f6697e27b010", func := "depot/depotlaw08.RupBlocked", spec := "rupBlocked", unfollowed := true, recurses := true, apart := false }
def RupBlockedSaid : Prop := rupBlockedRow.holds Try.pinned (OpenSpec.ofChange rupBlockedSpec)

/-- ITS FALSE NEIGHBOUR: 'it returns false'. Refute it at one input. -/
def rupBlockedWrong : ChangeSpec := { name := "rupBlocked", fn := fun _ => fun
  | [d1, d2] => { results := [.lit (.bool false)], args := [d1, d2] }
  | _ => none }
def RupBlockedWrongFalsely : Prop := rupBlockedRow.holds Try.pinned (OpenSpec.ofChange rupBlockedWrong)

/- THE SECOND FORM. 'bulk': how many values and letters a reading holds, each counted each time it is reached (what is shared counts as often as it is met; a slice's spare places count too). A statement '..UptoSaid' is the law's where the arguments, and the package variables that the reading takes, are together of bulk at most 1048576: NARROWER than '..Said'. Prove '..Said' where nothing that the law and all that it calls make is longer than what came in: it says more and counts as full. Else prove '..UptoSaid'. A law counts once. -/
mutual
def uptoBulk {H : Type} : DataW H → Nat
  | .lit (.string bytes) => bytes.length + 1
  | .lit _ => 1
  | .nil => 1
  | .ptr d => uptoBulk d + 1
  | .slice elems spare => uptoBulkAll elems + uptoBulkAll spare + 1
  | .agg parts => uptoBulkAll parts + 1
  | .iface _ d => uptoBulk d + 1
  | .map entries => uptoBulkEntries entries + 1
  | .held _ => 1
def uptoBulkAll {H : Type} : List (DataW H) → Nat
  | [] => 0
  | d :: r => uptoBulk d + uptoBulkAll r
def uptoBulkEntries {H : Type} : List (Lit × DataW H) → Nat
  | [] => 0
  | x :: r => uptoBulkEntry x + uptoBulkEntries r
def uptoBulkEntry {H : Type} : Lit × DataW H → Nat
  | (.string bytes, d) => bytes.length + uptoBulk d + 1
  | (_, d) => uptoBulk d + 1
 end
def uptoSmall : (H : Type) → List (DataW H) → Bool := fun _ ds => decide (uptoBulkAll ds ≤ 1048576)
def OpenSpec.upto (s : _root_.Go.ChangeSpec) : _root_.Go.OpenSpec := { _root_.Go.OpenSpec.ofChange s with cond := some uptoSmall }

/-- 'depotlaw08.RupNames', WHERE WHAT IT READS IS OF BULK AT MOST 1048576: true; the input reads as it did. -/
def rupNamesUptoRow : OpenClaim := { program := "ytkkkbcjmkmadhaa", sum := "c3ff1dd2eaaa243a47bf08f5b543ece222360a51c7cb875ca3b8f6697e27b010", func := "depot/depotlaw08.RupNames", spec := "rupNames", apart := false, narrowed := true }
def RupNamesUptoSaid : Prop := rupNamesUptoRow.holds Try.pinned (OpenSpec.upto rupNamesSpec)

/-- 'depotlaw12.TrimWithin', WHERE WHAT IT READS IS OF BULK AT MOST 1048576: true; the input reads as it did. -/
def trimWithinUptoRow : OpenClaim := { program := "ytkkkbcjmkmadhaa", sum := "c3ff1dd2eaaa243a47bf08f5b543ece222360a51c7cb875ca3b8f6697e27b010", func := "depot/depotlaw12.TrimWithin", spec := "trimWithin", recurses := true, apart := false, narrowed := true }
def TrimWithinUptoSaid : Prop := trimWithinUptoRow.holds Try.pinned (OpenSpec.upto trimWithinSpec)

/-- 'depotlaw12.TrimParts', WHERE WHAT IT READS IS OF BULK AT MOST 1048576: true; the input reads as it did. -/
def trimPartsUptoRow : OpenClaim := { program := "ytkkkbcjmkmadhaa", sum := "c3ff1dd2eaaa243a47bf08f5b543ece222360a51c7cb875ca3b8f6697e27b010", func := "depot/depotlaw12.TrimParts", spec := "trimParts", apart := false, narrowed := true }
def TrimPartsUptoSaid : Prop := trimPartsUptoRow.holds Try.pinned (OpenSpec.upto trimPartsSpec)

/-- 'depotlaw04.ArenaNumbers', WHERE WHAT IT READS IS OF BULK AT MOST 1048576: true; the input reads as it did. -/
def arenaNumbersUptoRow : OpenClaim := { program := "ytkkkbcjmkmadhaa", sum := "c3ff1dd2eaaa243a47bf08f5b543ece222360a51c7cb875ca3b8f6697e27b010", func := "depot/depotlaw04.ArenaNumbers", spec := "arenaNumbers", apart := false, narrowed := true }
def ArenaNumbersUptoSaid : Prop := arenaNumbersUptoRow.holds Try.pinned (OpenSpec.upto arenaNumbersSpec)

/-- 'depotlaw04.ArenaSpares', WHERE WHAT IT READS IS OF BULK AT MOST 1048576: true; the input reads as it did. -/
def arenaSparesUptoRow : OpenClaim := { program := "ytkkkbcjmkmadhaa", sum := "c3ff1dd2eaaa243a47bf08f5b543ece222360a51c7cb875ca3b8f6697e27b010", func := "depot/depotlaw04.ArenaSpares", spec := "arenaSpares", unfollowed := true, recurses := true, apart := false, narrowed := true }
def ArenaSparesUptoSaid : Prop := arenaSparesUptoRow.holds Try.pinned (OpenSpec.upto arenaSparesSpec)

/-- 'depotlaw08.RupPartners', WHERE WHAT IT READS IS OF BULK AT MOST 1048576: true; the input reads as it did. -/
def rupPartnersUptoRow : OpenClaim := { program := "ytkkkbcjmkmadhaa", sum := "c3ff1dd2eaaa243a47bf08f5b543ece222360a51c7cb875ca3b8f6697e27b010", func := "depot/depotlaw08.RupPartners", spec := "rupPartners", apart := false, narrowed := true }
def RupPartnersUptoSaid : Prop := rupPartnersUptoRow.holds Try.pinned (OpenSpec.upto rupPartnersSpec)

/-- 'depotlaw12.TrimOnly', WHERE WHAT IT READS IS OF BULK AT MOST 1048576: true; the input reads as it did. -/
def trimOnlyUptoRow : OpenClaim := { program := "ytkkkbcjmkmadhaa", sum := "c3ff1dd2eaaa243a47bf08f5b543ece222360a51c7cb875ca3b8f6697e27b010", func := "depot/depotlaw12.TrimOnly", spec := "trimOnly", apart := false, narrowed := true }
def TrimOnlyUptoSaid : Prop := trimOnlyUptoRow.holds Try.pinned (OpenSpec.upto trimOnlySpec)

/-- 'depotlaw04.ArenaPlays', WHERE WHAT IT READS IS OF BULK AT MOST 1048576: true; the input reads as it did. -/
def arenaPlaysUptoRow : OpenClaim := { program := "ytkkkbcjmkmadhaa", sum := "c3ff1dd2eaaa243a47bf08f5b543ece222360a51c7cb875ca3b8f6697e27b010", func := "depot/depotlaw04.ArenaPlays", spec := "arenaPlays", unfollowed := true, recurses := true, apart := false, narrowed := true }
def ArenaPlaysUptoSaid : Prop := arenaPlaysUptoRow.holds Try.pinned (OpenSpec.upto arenaPlaysSpec)

/-- 'depotlaw04.ArenaKeeps', WHERE WHAT IT READS IS OF BULK AT MOST 1048576: true; the input reads as it did. -/
def arenaKeepsUptoRow : OpenClaim := { program := "ytkkkbcjmkmadhaa", sum := "c3ff1dd2eaaa243a47bf08f5b543ece222360a51c7cb875ca3b8f6697e27b010", func := "depot/depotlaw04.ArenaKeeps", spec := "arenaKeeps", unfollowed := true, recurses := true, apart := false, narrowed := true }
def ArenaKeepsUptoSaid : Prop := arenaKeepsUptoRow.holds Try.pinned (OpenSpec.upto arenaKeepsSpec)

/-- 'depotlaw04.ArenaLives', WHERE WHAT IT READS IS OF BULK AT MOST 1048576: true; the input reads as it did. -/
def arenaLivesUptoRow : OpenClaim := { program := "ytkkkbcjmkmadhaa", sum := "c3ff1dd2eaaa243a47bf08f5b543ece222360a51c7cb875ca3b8f6697e27b010", func := "depot/depotlaw04.ArenaLives", spec := "arenaLives", unfollowed := true, recurses := true, apart := false, narrowed := true }
def ArenaLivesUptoSaid : Prop := arenaLivesUptoRow.holds Try.pinned (OpenSpec.upto arenaLivesSpec)

/-- 'depotlaw06.UnitWhys', WHERE WHAT IT READS IS OF BULK AT MOST 1048576: true; the input reads as it did. -/
def unitWhysUptoRow : OpenClaim := { program := "ytkkkbcjmkmadhaa", sum := "c3ff1dd2eaaa243a47bf08f5b543ece222360a51c7cb875ca3b8f6697e27b010", func := "depot/depotlaw06.UnitWhys", spec := "unitWhys", unfollowed := true, recurses := true, apart := false, narrowed := true }
def UnitWhysUptoSaid : Prop := unitWhysUptoRow.holds Try.pinned (OpenSpec.upto unitWhysSpec)

/-- 'depotlaw08.RupBlocked', WHERE WHAT IT READS IS OF BULK AT MOST 1048576: true; the input reads as it did. -/
def rupBlockedUptoRow : OpenClaim := { program := "ytkkkbcjmkmadhaa", sum := "c3ff1dd2eaaa243a47bf08f5b543ece222360a51c7cb875ca3b8f6697e27b010", func := "depot/depotlaw08.RupBlocked", spec := "rupBlocked", unfollowed := true, recurses := true, apart := false, narrowed := true }
def RupBlockedUptoSaid : Prop := rupBlockedUptoRow.holds Try.pinned (OpenSpec.upto rupBlockedSpec)

end Rows
end Go.Proofs.Ytkkkbcjmkmadhaa
