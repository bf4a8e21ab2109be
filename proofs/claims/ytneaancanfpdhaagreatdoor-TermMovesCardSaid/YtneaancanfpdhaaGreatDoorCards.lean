/-
  DERIVED. GIVEN WITH THE SEED: THE CARDS: each row of YtneaancanfpdhaaGreatDoorRows.lean that lists a variable, with what it lists TIED to the program's text (the seventh form; the later family's looks); each row that meets fmt, with fmt's text TOLD by the authors' own Lean function (tested against real Go, not proved from fmt's source: count such statements apart). THE CARD IS WHAT COUNTS. Prove the row's statement (the work); the ties are given (YtneaancanfpdhaaGreatDoorTie.lean); close each card by the builder's one call (the guide's Derived/Test/ToyasCard.lean, 'card_holds'). Laid BY PROGRAM, IN A SANDBOX (cutbox-door.mjs). By AI agents, Wed Nov 11 2026. No macro, syntax, notation, axiom, sorry.
-/
import Derived.Test.YtneaancanfpdhaaGreatDoorRows
import GoSem.ClaimSeven
namespace Go.Proofs.YtneaancanfpdhaaGreatDoor
namespace Rows

/-- THE TIED CARD OF 'provekernellaw.TermMoves'. -/
def termMovesCard : Claim7 := { stood := { row := termMovesRow, standIns := [], harness := (true, "4b87d088401218a495192ad6640b326a3c358b6f959a5cc64254f0f310b3a94d"), looks := true }, kinds := [], alts := [], laidByText := true, laidKinds := [.data, .data, .data, .data, .data, .widerDeep], laidTests := true, laidLooks := .later }
def TermMovesCardSaid : Prop := Claim7.holds Tryz.pinned (.plain (OpenSpec.ofChange termMovesSpec)) termMovesCard

/-- THE TIED CARD OF 'provekernellaw.TermParses'. -/
def termParsesCard : Claim7 := { stood := { row := termParsesRow, standIns := [], harness := (true, "4b87d088401218a495192ad6640b326a3c358b6f959a5cc64254f0f310b3a94d"), looks := true }, kinds := [], alts := [], laidByText := true, laidKinds := [.data, .data, .data, .handle, .data, .sentinel, .sentinel, .widerDeep], laidTests := true, laidLooks := .later }
def TermParsesCardSaid : Prop := Claim7.holds Tryz.pinned (.plain (OpenSpec.ofChange termParsesSpec)) termParsesCard

/-- THE TIED CARD OF 'provekernellaw.Files'. -/
def filesCard : Claim7 := { stood := { row := filesRow, standIns := [], harness := (true, "4b87d088401218a495192ad6640b326a3c358b6f959a5cc64254f0f310b3a94d"), looks := true }, kinds := [], alts := [], laidByText := true, laidKinds := [.data, .data, .data, .handle, .data, .sentinel, .sentinel, .data, .widerDeep], laidTests := true, laidLooks := .later }
def FilesCardSaid : Prop := Claim7.holds Tryz.pinned (.plain (OpenSpec.ofChange filesSpec)) filesCard

/-- THE SECOND FORM's CARD OF 'provekernellaw.TermMoves'. -/
def termMovesUptoCard : Claim7 := { stood := { row := termMovesUptoRow, standIns := [], harness := (true, "4b87d088401218a495192ad6640b326a3c358b6f959a5cc64254f0f310b3a94d"), looks := true }, kinds := [], alts := [], laidByText := true, laidKinds := [.data, .data, .data, .data, .data, .widerDeep], laidTests := true, laidLooks := .later }
def TermMovesUptoCardSaid : Prop := Claim7.holds Tryz.pinned (.plain (OpenSpec.upto termMovesSpec)) termMovesUptoCard

/-- THE SECOND FORM's CARD OF 'provekernellaw.TermParses'. -/
def termParsesUptoCard : Claim7 := { stood := { row := termParsesUptoRow, standIns := [], harness := (true, "4b87d088401218a495192ad6640b326a3c358b6f959a5cc64254f0f310b3a94d"), looks := true }, kinds := [], alts := [], laidByText := true, laidKinds := [.data, .data, .data, .handle, .data, .sentinel, .sentinel, .widerDeep], laidTests := true, laidLooks := .later }
def TermParsesUptoCardSaid : Prop := Claim7.holds Tryz.pinned (.plain (OpenSpec.upto termParsesSpec)) termParsesUptoCard

/-- THE SECOND FORM's CARD OF 'provekernellaw.Files'. -/
def filesUptoCard : Claim7 := { stood := { row := filesUptoRow, standIns := [], harness := (true, "4b87d088401218a495192ad6640b326a3c358b6f959a5cc64254f0f310b3a94d"), looks := true }, kinds := [], alts := [], laidByText := true, laidKinds := [.data, .data, .data, .handle, .data, .sentinel, .sentinel, .data, .widerDeep], laidTests := true, laidLooks := .later }
def FilesUptoCardSaid : Prop := Claim7.holds Tryz.pinned (.plain (OpenSpec.upto filesSpec)) filesUptoCard
end Rows
end Go.Proofs.YtneaancanfpdhaaGreatDoor
