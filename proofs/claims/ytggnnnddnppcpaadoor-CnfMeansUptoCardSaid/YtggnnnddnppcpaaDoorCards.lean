/-
  DERIVED. GIVEN WITH THE SEED: THE CARDS: each row of YtggnnnddnppcpaaDoorRows.lean that lists a variable, with what it lists TIED to the program's text (the seventh form; the later family's looks); each row that meets fmt, with fmt's text TOLD by the authors' own Lean function (tested against real Go, not proved from fmt's source: count such statements apart). THE CARD IS WHAT COUNTS. Prove the row's statement (the work); the ties are given (YtggnnnddnppcpaaDoorTie.lean); close each card by the builder's one call (the guide's Derived/Test/ToyasCard.lean, 'card_holds'). Laid BY PROGRAM, IN A SANDBOX (cutbox-door.mjs). By AI agents, Wed Nov 11 2026. No macro, syntax, notation, axiom, sorry.
-/
import Derived.Test.YtggnnnddnppcpaaDoorRows
import GoSem.ClaimSeven
namespace Go.Proofs.YtggnnnddnppcpaaDoor
namespace Rows

/-- THE TIED CARD OF 'depotlaw02.CnfKeepsTidy'. -/
def cnfKeepsTidyCard : Claim7 := { stood := { row := cnfKeepsTidyRow, standIns := [], harness := (true, "de13b5b8c00180d22dfc97d42ce2a75082a6fd03a8c1230eb8864a8bafee6df1"), looks := false }, kinds := [], alts := [], laidByText := true, laidKinds := [.data, .data, .data], laidTests := true, laidLooks := .later }
def CnfKeepsTidyCardSaid : Prop := Claim7.holds Tryd.pinned (.plain (OpenSpec.ofChange cnfKeepsTidySpec)) cnfKeepsTidyCard

/-- THE TIED CARD OF 'depotlaw02.CnfMeans'. -/
def cnfMeansCard : Claim7 := { stood := { row := cnfMeansRow, standIns := [], harness := (true, "de13b5b8c00180d22dfc97d42ce2a75082a6fd03a8c1230eb8864a8bafee6df1"), looks := false }, kinds := [], alts := [], laidByText := true, laidKinds := [.data, .data, .data], laidTests := true, laidLooks := .later }
def CnfMeansCardSaid : Prop := Claim7.holds Tryd.pinned (.plain (OpenSpec.ofChange cnfMeansSpec)) cnfMeansCard

/-- THE TIED CARD OF 'depotlaw02.CnfTidies'. -/
def cnfTidiesCard : Claim7 := { stood := { row := cnfTidiesRow, standIns := [], harness := (true, "de13b5b8c00180d22dfc97d42ce2a75082a6fd03a8c1230eb8864a8bafee6df1"), looks := false }, kinds := [], alts := [], laidByText := true, laidKinds := [.data, .data, .data], laidTests := true, laidLooks := .later }
def CnfTidiesCardSaid : Prop := Claim7.holds Tryd.pinned (.plain (OpenSpec.ofChange cnfTidiesSpec)) cnfTidiesCard

/-- THE SECOND FORM's CARD OF 'depotlaw02.CnfKeepsTidy'. -/
def cnfKeepsTidyUptoCard : Claim7 := { stood := { row := cnfKeepsTidyUptoRow, standIns := [], harness := (true, "de13b5b8c00180d22dfc97d42ce2a75082a6fd03a8c1230eb8864a8bafee6df1"), looks := false }, kinds := [], alts := [], laidByText := true, laidKinds := [.data, .data, .data], laidTests := true, laidLooks := .later }
def CnfKeepsTidyUptoCardSaid : Prop := Claim7.holds Tryd.pinned (.plain (OpenSpec.upto cnfKeepsTidySpec)) cnfKeepsTidyUptoCard

/-- THE SECOND FORM's CARD OF 'depotlaw02.CnfMeans'. -/
def cnfMeansUptoCard : Claim7 := { stood := { row := cnfMeansUptoRow, standIns := [], harness := (true, "de13b5b8c00180d22dfc97d42ce2a75082a6fd03a8c1230eb8864a8bafee6df1"), looks := false }, kinds := [], alts := [], laidByText := true, laidKinds := [.data, .data, .data], laidTests := true, laidLooks := .later }
def CnfMeansUptoCardSaid : Prop := Claim7.holds Tryd.pinned (.plain (OpenSpec.upto cnfMeansSpec)) cnfMeansUptoCard

/-- THE SECOND FORM's CARD OF 'depotlaw02.CnfTidies'. -/
def cnfTidiesUptoCard : Claim7 := { stood := { row := cnfTidiesUptoRow, standIns := [], harness := (true, "de13b5b8c00180d22dfc97d42ce2a75082a6fd03a8c1230eb8864a8bafee6df1"), looks := false }, kinds := [], alts := [], laidByText := true, laidKinds := [.data, .data, .data], laidTests := true, laidLooks := .later }
def CnfTidiesUptoCardSaid : Prop := Claim7.holds Tryd.pinned (.plain (OpenSpec.upto cnfTidiesSpec)) cnfTidiesUptoCard
end Rows
end Go.Proofs.YtggnnnddnppcpaaDoor
