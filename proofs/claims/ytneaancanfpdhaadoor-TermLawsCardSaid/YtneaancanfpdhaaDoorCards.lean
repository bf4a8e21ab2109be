/-
  DERIVED. GIVEN WITH THE SEED: THE CARDS: each row of YtneaancanfpdhaaDoorRows.lean that lists a variable, with what it lists TIED to the program's text (the seventh form; the later family's looks); each row that meets fmt, with fmt's text TOLD by the authors' own Lean function (tested against real Go, not proved from fmt's source: count such statements apart). THE CARD IS WHAT COUNTS. Prove the row's statement (the work); the ties are given (YtneaancanfpdhaaDoorTie.lean); close each card by the builder's one call (the guide's Derived/Test/ToyasCard.lean, 'card_holds'). Laid BY PROGRAM, IN A SANDBOX (cutbox-door.mjs). By AI agents, Wed Nov 11 2026. No macro, syntax, notation, axiom, sorry.
-/
import Derived.Test.YtneaancanfpdhaaDoorRows
import GoSem.ClaimSeven
namespace Go.Proofs.YtneaancanfpdhaaDoor
namespace Rows

/-- THE TIED CARD OF 'provekernellaw.TermLaws'. -/
def termLawsCard : Claim7 := { stood := { row := termLawsRow, standIns := [], harness := (true, "8fd9a4448800c6a7f1fa3b7de6809a961663b75275411ea702d8b03e97acd5c5"), looks := true }, kinds := [], alts := [], laidByText := true, laidKinds := [.data, .data, .data, .data, .sentinel, .sentinel, .data, .widerDeep], laidTests := true, laidLooks := .later }
def TermLawsCardSaid : Prop := Claim7.holds Tryd.pinned (.plain (OpenSpec.ofChange termLawsSpec)) termLawsCard

/-- THE TIED CARD OF 'provekernellaw.FileReads'. -/
def fileReadsCard : Claim7 := { stood := { row := fileReadsRow, standIns := [], harness := (true, "8fd9a4448800c6a7f1fa3b7de6809a961663b75275411ea702d8b03e97acd5c5"), looks := true }, kinds := [], alts := [], laidByText := true, laidKinds := [.data, .data, .data, .sentinel, .sentinel, .data, .widerDeep], laidTests := true, laidLooks := .later }
def FileReadsCardSaid : Prop := Claim7.holds Tryd.pinned (.plain (OpenSpec.ofChange fileReadsSpec)) fileReadsCard

/-- THE SECOND FORM's CARD OF 'provekernellaw.TermLaws'. -/
def termLawsUptoCard : Claim7 := { stood := { row := termLawsUptoRow, standIns := [], harness := (true, "8fd9a4448800c6a7f1fa3b7de6809a961663b75275411ea702d8b03e97acd5c5"), looks := true }, kinds := [], alts := [], laidByText := true, laidKinds := [.data, .data, .data, .data, .sentinel, .sentinel, .data, .widerDeep], laidTests := true, laidLooks := .later }
def TermLawsUptoCardSaid : Prop := Claim7.holds Tryd.pinned (.plain (OpenSpec.upto termLawsSpec)) termLawsUptoCard

/-- THE SECOND FORM's CARD OF 'provekernellaw.FileReads'. -/
def fileReadsUptoCard : Claim7 := { stood := { row := fileReadsUptoRow, standIns := [], harness := (true, "8fd9a4448800c6a7f1fa3b7de6809a961663b75275411ea702d8b03e97acd5c5"), looks := true }, kinds := [], alts := [], laidByText := true, laidKinds := [.data, .data, .data, .sentinel, .sentinel, .data, .widerDeep], laidTests := true, laidLooks := .later }
def FileReadsUptoCardSaid : Prop := Claim7.holds Tryd.pinned (.plain (OpenSpec.upto fileReadsSpec)) fileReadsUptoCard
end Rows
end Go.Proofs.YtneaancanfpdhaaDoor
