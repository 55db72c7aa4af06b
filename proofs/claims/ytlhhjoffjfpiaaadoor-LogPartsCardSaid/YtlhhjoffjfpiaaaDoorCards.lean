/-
  DERIVED. GIVEN WITH THE SEED: THE CARDS: each row of YtlhhjoffjfpiaaaDoorRows.lean that lists a variable, with what it lists TIED to the program's text (the seventh form; the later family's looks); each row that meets fmt, with fmt's text TOLD by the authors' own Lean function (tested against real Go, not proved from fmt's source: count such statements apart). THE CARD IS WHAT COUNTS. Prove the row's statement (the work); the ties are given (YtlhhjoffjfpiaaaDoorTie.lean); close each card by the builder's one call (the guide's Derived/Test/ToyasCard.lean, 'card_holds'). Laid BY PROGRAM, IN A SANDBOX (cutbox-door.mjs). By AI agents, Wed Nov 11 2026. No macro, syntax, notation, axiom, sorry.
-/
import Derived.Test.YtlhhjoffjfpiaaaDoorRows
import GoSem.ClaimSeven
namespace Go.Proofs.YtlhhjoffjfpiaaaDoor
namespace Rows

/-- THE TIED CARD OF 'wicketgatelaw27.LogNarrow'. -/
def logNarrowCard : Claim7 := { stood := { row := logNarrowRow, standIns := [], harness := (true, "4f6e7d7f0ba1bbff8c8440c7d7148e232362d2afa09d70c3ccb7d8db973c5fdb"), looks := false }, kinds := [], alts := [], laidByText := true, laidKinds := [.funcs], laidTests := true, laidLooks := .later }
def LogNarrowCardSaid : Prop := Claim7.holds Tryd.pinned (.plain (OpenSpec.ofChange logNarrowSpec)) logNarrowCard

/-- THE TIED CARD OF 'wicketgatelaw27.LogTells'. -/
def logTellsCard : Claim7 := { stood := { row := logTellsRow, standIns := [], harness := (true, "4f6e7d7f0ba1bbff8c8440c7d7148e232362d2afa09d70c3ccb7d8db973c5fdb"), looks := false }, kinds := [], alts := [], laidByText := true, laidKinds := [.funcs], laidTests := true, laidLooks := .later }
def LogTellsCardSaid : Prop := Claim7.holds Tryd.pinned (.plain (OpenSpec.ofChange logTellsSpec)) logTellsCard

/-- THE TIED CARD OF 'wicketgatelaw27.LogReads'. -/
def logReadsCard : Claim7 := { stood := { row := logReadsRow, standIns := [], harness := (true, "4f6e7d7f0ba1bbff8c8440c7d7148e232362d2afa09d70c3ccb7d8db973c5fdb"), looks := false }, kinds := [], alts := [], laidByText := true, laidKinds := [.funcs], laidTests := true, laidLooks := .later }
def LogReadsCardSaid : Prop := Claim7.holds Tryd.pinned (.plain (OpenSpec.ofChange logReadsSpec)) logReadsCard

/-- THE TIED CARD OF 'wicketgatelaw27.LogParts'. -/
def logPartsCard : Claim7 := { stood := { row := logPartsRow, standIns := [], harness := (true, "4f6e7d7f0ba1bbff8c8440c7d7148e232362d2afa09d70c3ccb7d8db973c5fdb"), looks := false }, kinds := [], alts := [], laidByText := true, laidKinds := [.funcs], laidTests := true, laidLooks := .later }
def LogPartsCardSaid : Prop := Claim7.holds Tryd.pinned (.plain (OpenSpec.ofChange logPartsSpec)) logPartsCard

/-- THE SECOND FORM's CARD OF 'wicketgatelaw27.LogNarrow'. -/
def logNarrowUptoCard : Claim7 := { stood := { row := logNarrowUptoRow, standIns := [], harness := (true, "4f6e7d7f0ba1bbff8c8440c7d7148e232362d2afa09d70c3ccb7d8db973c5fdb"), looks := false }, kinds := [], alts := [], laidByText := true, laidKinds := [.funcs], laidTests := true, laidLooks := .later }
def LogNarrowUptoCardSaid : Prop := Claim7.holds Tryd.pinned (.plain (OpenSpec.upto logNarrowSpec)) logNarrowUptoCard

/-- THE SECOND FORM's CARD OF 'wicketgatelaw27.LogTells'. -/
def logTellsUptoCard : Claim7 := { stood := { row := logTellsUptoRow, standIns := [], harness := (true, "4f6e7d7f0ba1bbff8c8440c7d7148e232362d2afa09d70c3ccb7d8db973c5fdb"), looks := false }, kinds := [], alts := [], laidByText := true, laidKinds := [.funcs], laidTests := true, laidLooks := .later }
def LogTellsUptoCardSaid : Prop := Claim7.holds Tryd.pinned (.plain (OpenSpec.upto logTellsSpec)) logTellsUptoCard

/-- THE SECOND FORM's CARD OF 'wicketgatelaw27.LogReads'. -/
def logReadsUptoCard : Claim7 := { stood := { row := logReadsUptoRow, standIns := [], harness := (true, "4f6e7d7f0ba1bbff8c8440c7d7148e232362d2afa09d70c3ccb7d8db973c5fdb"), looks := false }, kinds := [], alts := [], laidByText := true, laidKinds := [.funcs], laidTests := true, laidLooks := .later }
def LogReadsUptoCardSaid : Prop := Claim7.holds Tryd.pinned (.plain (OpenSpec.upto logReadsSpec)) logReadsUptoCard

/-- THE SECOND FORM's CARD OF 'wicketgatelaw27.LogParts'. -/
def logPartsUptoCard : Claim7 := { stood := { row := logPartsUptoRow, standIns := [], harness := (true, "4f6e7d7f0ba1bbff8c8440c7d7148e232362d2afa09d70c3ccb7d8db973c5fdb"), looks := false }, kinds := [], alts := [], laidByText := true, laidKinds := [.funcs], laidTests := true, laidLooks := .later }
def LogPartsUptoCardSaid : Prop := Claim7.holds Tryd.pinned (.plain (OpenSpec.upto logPartsSpec)) logPartsUptoCard
end Rows
end Go.Proofs.YtlhhjoffjfpiaaaDoor
