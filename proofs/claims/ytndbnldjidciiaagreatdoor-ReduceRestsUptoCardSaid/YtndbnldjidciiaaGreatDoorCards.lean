/-
  DERIVED. GIVEN WITH THE SEED: THE CARDS: each row of YtndbnldjidciiaaGreatDoorRows.lean that lists a variable, with what it lists TIED to the program's text (the seventh form; the later family's looks); each row that meets fmt, with fmt's text TOLD by the authors' own Lean function (tested against real Go, not proved from fmt's source: count such statements apart). THE CARD IS WHAT COUNTS. Prove the row's statement (the work); the ties are given (YtndbnldjidciiaaGreatDoorTie.lean); close each card by the builder's one call (the guide's Derived/Test/ToyasCard.lean, 'card_holds'). Laid BY PROGRAM, IN A SANDBOX (cutbox-door.mjs). By AI agents, Wed Nov 11 2026. No macro, syntax, notation, axiom, sorry.
-/
import Derived.Test.YtndbnldjidciiaaGreatDoorRows
import GoSem.ClaimSeven
namespace Go.Proofs.YtndbnldjidciiaaGreatDoor
namespace Rows

/-- THE TIED CARD OF 'provekernellaw.ReduceKnows'. -/
def reduceKnowsCard : Claim7 := { stood := { row := reduceKnowsRow, standIns := [], harness := (true, "58269fff10c7fd54061fc4b2bc908dad84b9f7457d094b281d5b168201848177"), looks := true }, kinds := [], alts := [], laidByText := true, laidKinds := [.data], laidTests := true, laidLooks := .later }
def ReduceKnowsCardSaid : Prop := Claim7.holds Tryz.pinned (.plain (OpenSpec.ofChange reduceKnowsSpec)) reduceKnowsCard

/-- THE TIED CARD OF 'provekernellaw.ReduceEqual'. -/
def reduceEqualCard : Claim7 := { stood := { row := reduceEqualRow, standIns := [], harness := (true, "58269fff10c7fd54061fc4b2bc908dad84b9f7457d094b281d5b168201848177"), looks := true }, kinds := [], alts := [], laidByText := true, laidKinds := [.data], laidTests := true, laidLooks := .later }
def ReduceEqualCardSaid : Prop := Claim7.holds Tryz.pinned (.plain (OpenSpec.ofChange reduceEqualSpec)) reduceEqualCard

/-- THE TIED CARD OF 'provekernellaw.ReduceWhnf'. -/
def reduceWhnfCard : Claim7 := { stood := { row := reduceWhnfRow, standIns := [], harness := (true, "58269fff10c7fd54061fc4b2bc908dad84b9f7457d094b281d5b168201848177"), looks := true }, kinds := [], alts := [], laidByText := true, laidKinds := [.handle, .data], laidTests := true, laidLooks := .later }
def ReduceWhnfCardSaid : Prop := Claim7.holds Tryz.pinned (.plain (OpenSpec.ofChange reduceWhnfSpec)) reduceWhnfCard

/-- THE TIED CARD OF 'provekernellaw.ReduceNormal'. -/
def reduceNormalCard : Claim7 := { stood := { row := reduceNormalRow, standIns := [], harness := (true, "58269fff10c7fd54061fc4b2bc908dad84b9f7457d094b281d5b168201848177"), looks := true }, kinds := [], alts := [], laidByText := true, laidKinds := [.handle, .data], laidTests := true, laidLooks := .later }
def ReduceNormalCardSaid : Prop := Claim7.holds Tryz.pinned (.plain (OpenSpec.ofChange reduceNormalSpec)) reduceNormalCard

/-- THE TIED CARD OF 'provekernellaw.ReduceRests'. -/
def reduceRestsCard : Claim7 := { stood := { row := reduceRestsRow, standIns := [], harness := (true, "58269fff10c7fd54061fc4b2bc908dad84b9f7457d094b281d5b168201848177"), looks := true }, kinds := [], alts := [], laidByText := true, laidKinds := [.handle, .data], laidTests := true, laidLooks := .later }
def ReduceRestsCardSaid : Prop := Claim7.holds Tryz.pinned (.plain (OpenSpec.ofChange reduceRestsSpec)) reduceRestsCard

/-- THE SECOND FORM's CARD OF 'provekernellaw.ReduceKnows'. -/
def reduceKnowsUptoCard : Claim7 := { stood := { row := reduceKnowsUptoRow, standIns := [], harness := (true, "58269fff10c7fd54061fc4b2bc908dad84b9f7457d094b281d5b168201848177"), looks := true }, kinds := [], alts := [], laidByText := true, laidKinds := [.data], laidTests := true, laidLooks := .later }
def ReduceKnowsUptoCardSaid : Prop := Claim7.holds Tryz.pinned (.plain (OpenSpec.upto reduceKnowsSpec)) reduceKnowsUptoCard

/-- THE SECOND FORM's CARD OF 'provekernellaw.ReduceEqual'. -/
def reduceEqualUptoCard : Claim7 := { stood := { row := reduceEqualUptoRow, standIns := [], harness := (true, "58269fff10c7fd54061fc4b2bc908dad84b9f7457d094b281d5b168201848177"), looks := true }, kinds := [], alts := [], laidByText := true, laidKinds := [.data], laidTests := true, laidLooks := .later }
def ReduceEqualUptoCardSaid : Prop := Claim7.holds Tryz.pinned (.plain (OpenSpec.upto reduceEqualSpec)) reduceEqualUptoCard

/-- THE SECOND FORM's CARD OF 'provekernellaw.ReduceWhnf'. -/
def reduceWhnfUptoCard : Claim7 := { stood := { row := reduceWhnfUptoRow, standIns := [], harness := (true, "58269fff10c7fd54061fc4b2bc908dad84b9f7457d094b281d5b168201848177"), looks := true }, kinds := [], alts := [], laidByText := true, laidKinds := [.handle, .data], laidTests := true, laidLooks := .later }
def ReduceWhnfUptoCardSaid : Prop := Claim7.holds Tryz.pinned (.plain (OpenSpec.upto reduceWhnfSpec)) reduceWhnfUptoCard

/-- THE SECOND FORM's CARD OF 'provekernellaw.ReduceNormal'. -/
def reduceNormalUptoCard : Claim7 := { stood := { row := reduceNormalUptoRow, standIns := [], harness := (true, "58269fff10c7fd54061fc4b2bc908dad84b9f7457d094b281d5b168201848177"), looks := true }, kinds := [], alts := [], laidByText := true, laidKinds := [.handle, .data], laidTests := true, laidLooks := .later }
def ReduceNormalUptoCardSaid : Prop := Claim7.holds Tryz.pinned (.plain (OpenSpec.upto reduceNormalSpec)) reduceNormalUptoCard

/-- THE SECOND FORM's CARD OF 'provekernellaw.ReduceRests'. -/
def reduceRestsUptoCard : Claim7 := { stood := { row := reduceRestsUptoRow, standIns := [], harness := (true, "58269fff10c7fd54061fc4b2bc908dad84b9f7457d094b281d5b168201848177"), looks := true }, kinds := [], alts := [], laidByText := true, laidKinds := [.handle, .data], laidTests := true, laidLooks := .later }
def ReduceRestsUptoCardSaid : Prop := Claim7.holds Tryz.pinned (.plain (OpenSpec.upto reduceRestsSpec)) reduceRestsUptoCard
end Rows
end Go.Proofs.YtndbnldjidciiaaGreatDoor
