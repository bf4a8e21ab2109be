/-
  NARROWER THAN 'FOR EVERY INPUT', by the rows' own cells (each row's printed sentence says how): ReduceKnows: laid · ReduceEqual: laid · ReduceWhnf: laid · ReduceNormal: laid · ReduceRests: laid.
  DERIVED. THE GIVEN ROWS OF THIS SEAT. 5 by the template 'for every input the law returns true; each argument reads behind the call as it read before'; 0 by the template 'total and deterministic' (their statements: YtndbnldjidciiaaGreatDoorTotals.lean).
  GIVEN WITH THE SEED: the statements are not yours to turn. If you find one false, say at which input.
  Laid BY PROGRAM, IN A SANDBOX (cutbox-rows.mjs): the forced cells as the released guide's own fill.sh prints them over the translation 188ddd7a888854e9… (all of the seat's roots in one cut). By AI agents, Wed Nov 11 2026. No macro, syntax, notation, axiom, sorry.
-/
import Derived.Test.YtndbnldjidciiaaGreatDoorChecked
import GoSem.Claim
import GoSem.ClaimJoined
import GoSem.ClaimMapViews
import Derived.JoinedTies
import Derived.KernelRfl
namespace Go.Proofs.YtndbnldjidciiaaGreatDoor
/- THE CELL 'sum', in the pinned program and in every row, IS THE sha256 OF THE DUMP (.gsa) THAT YtndbnldjidciiaaGreatDoorProg.lean LOADS. Nothing in Lean hashes anything: it is a label: what it is worth is what the hold of that sum in a sandbox is worth. -/
noncomputable def Tryz.pinned : Pinned := { name := "ytndbnldjidciiaagreatdoor", sum := "188ddd7a888854e96adec5e888f4e9c759fcfc46b4a0693fae3cd7eece196b40", checked := Tryz.checked }
namespace Rows
def none {H : Type} : Left H := { results := [], args := [] }

/- WHAT THE LISTED PACKAGE-LEVEL VARIABLES READ AS WHEN THE CALL BEGINS. Each datum BY PROGRAM (the guide's laid-datum.mjs) off the statement by which the dump's own 'gosem.cut.vars' lays the variable. In a bare row this is a premise. The card (YtndbnldjidciiaaGreatDoorCards.lean) ties it to the program's text. -/
def laid_provekernel_provekernelref_words {H : Type} : DataW H := .slice [.lit (.string []), .lit (.string [115, 111, 114, 116]), .lit (.string [99, 111, 110, 115, 116]), .lit (.string [97, 112, 112]), .lit (.string [108, 97, 109]), .lit (.string [112, 105]), .lit (.string [108, 101, 116])] []
def laid_errors_errorType {H : Type} : DataW H := .iface "internal/reflectlite.rtype" (.agg [.ptr (.lit (.string [101, 114, 114, 111, 114]))])

/-- 'provekernellaw.ReduceKnows': WHATEVER THE INPUT: true; the input reads as it did. -/
def reduceKnowsSpec : ChangeSpec := { name := "reduceKnows", fn := fun _ => fun
  | [d] => { results := [.lit (.bool true)], args := [d] }
  | _ => none }
def reduceKnowsRow : OpenClaim := { program := "ytndbnldjidciiaagreatdoor", sum := "188ddd7a888854e96adec5e888f4e9c759fcfc46b4a0693fae3cd7eece196b40", func := "provekernel/provekernellaw.ReduceKnows", spec := "reduceKnows", recurses := true, named := ["provekernel/provekernelref.words"], apart := false, laid := [("provekernel/provekernelref.words", laid_provekernel_provekernelref_words)] }
def ReduceKnowsSaid : Prop := reduceKnowsRow.holds Tryz.pinned (OpenSpec.ofChange reduceKnowsSpec)

/-- ITS FALSE NEIGHBOUR: 'it returns false'. Refute it at one input. -/
def reduceKnowsWrong : ChangeSpec := { name := "reduceKnows", fn := fun _ => fun
  | [d] => { results := [.lit (.bool false)], args := [d] }
  | _ => none }
def ReduceKnowsWrongFalsely : Prop := reduceKnowsRow.holds Tryz.pinned (OpenSpec.ofChange reduceKnowsWrong)

/-- 'provekernellaw.ReduceEqual': WHATEVER THE INPUT: true; the input reads as it did. -/
def reduceEqualSpec : ChangeSpec := { name := "reduceEqual", fn := fun _ => fun
  | [d] => { results := [.lit (.bool true)], args := [d] }
  | _ => none }
def reduceEqualRow : OpenClaim := { program := "ytndbnldjidciiaagreatdoor", sum := "188ddd7a888854e96adec5e888f4e9c759fcfc46b4a0693fae3cd7eece196b40", func := "provekernel/provekernellaw.ReduceEqual", spec := "reduceEqual", unfollowed := true, recurses := true, named := ["provekernel/provekernelref.words"], apart := false, laid := [("provekernel/provekernelref.words", laid_provekernel_provekernelref_words)] }
def ReduceEqualSaid : Prop := reduceEqualRow.holds Tryz.pinned (OpenSpec.ofChange reduceEqualSpec)

/-- ITS FALSE NEIGHBOUR: 'it returns false'. Refute it at one input. -/
def reduceEqualWrong : ChangeSpec := { name := "reduceEqual", fn := fun _ => fun
  | [d] => { results := [.lit (.bool false)], args := [d] }
  | _ => none }
def ReduceEqualWrongFalsely : Prop := reduceEqualRow.holds Tryz.pinned (OpenSpec.ofChange reduceEqualWrong)

/-- 'provekernellaw.ReduceWhnf': WHATEVER THE INPUT: true; the input reads as it did. -/
def reduceWhnfSpec : ChangeSpec := { name := "reduceWhnf", fn := fun _ => fun
  | [d] => { results := [.lit (.bool true)], args := [d] }
  | _ => none }
def reduceWhnfRow : OpenClaim := { program := "ytndbnldjidciiaagreatdoor", sum := "188ddd7a888854e96adec5e888f4e9c759fcfc46b4a0693fae3cd7eece196b40", func := "provekernel/provekernellaw.ReduceWhnf", spec := "reduceWhnf", inPlace := ["internal/reflectlite.ValueOf", "(internal/reflectlite.Value).Type", "(internal/reflectlite.Value).IsNil", "internal/reflectlite.TypeOf", "(internal/reflectlite.Value).Elem", "(internal/reflectlite.Value).Set"], unfollowed := true, recurses := true, named := ["provekernel/provekernelref.words", "errors.errorType"], apart := false, laid := [("errors.errorType", laid_errors_errorType), ("provekernel/provekernelref.words", laid_provekernel_provekernelref_words)] }
def ReduceWhnfSaid : Prop := reduceWhnfRow.holds Tryz.pinned (OpenSpec.ofChange reduceWhnfSpec)

/-- ITS FALSE NEIGHBOUR: 'it returns false'. Refute it at one input. -/
def reduceWhnfWrong : ChangeSpec := { name := "reduceWhnf", fn := fun _ => fun
  | [d] => { results := [.lit (.bool false)], args := [d] }
  | _ => none }
def ReduceWhnfWrongFalsely : Prop := reduceWhnfRow.holds Tryz.pinned (OpenSpec.ofChange reduceWhnfWrong)

/-- 'provekernellaw.ReduceNormal': WHATEVER THE INPUT: true; the input reads as it did. -/
def reduceNormalSpec : ChangeSpec := { name := "reduceNormal", fn := fun _ => fun
  | [d] => { results := [.lit (.bool true)], args := [d] }
  | _ => none }
def reduceNormalRow : OpenClaim := { program := "ytndbnldjidciiaagreatdoor", sum := "188ddd7a888854e96adec5e888f4e9c759fcfc46b4a0693fae3cd7eece196b40", func := "provekernel/provekernellaw.ReduceNormal", spec := "reduceNormal", inPlace := ["internal/reflectlite.ValueOf", "(internal/reflectlite.Value).Type", "(internal/reflectlite.Value).IsNil", "internal/reflectlite.TypeOf", "(internal/reflectlite.Value).Elem", "(internal/reflectlite.Value).Set"], unfollowed := true, recurses := true, named := ["provekernel/provekernelref.words", "errors.errorType"], apart := false, laid := [("errors.errorType", laid_errors_errorType), ("provekernel/provekernelref.words", laid_provekernel_provekernelref_words)] }
def ReduceNormalSaid : Prop := reduceNormalRow.holds Tryz.pinned (OpenSpec.ofChange reduceNormalSpec)

/-- ITS FALSE NEIGHBOUR: 'it returns false'. Refute it at one input. -/
def reduceNormalWrong : ChangeSpec := { name := "reduceNormal", fn := fun _ => fun
  | [d] => { results := [.lit (.bool false)], args := [d] }
  | _ => none }
def ReduceNormalWrongFalsely : Prop := reduceNormalRow.holds Tryz.pinned (OpenSpec.ofChange reduceNormalWrong)

/-- 'provekernellaw.ReduceRests': WHATEVER THE INPUT: true; the input reads as it did. -/
def reduceRestsSpec : ChangeSpec := { name := "reduceRests", fn := fun _ => fun
  | [d] => { results := [.lit (.bool true)], args := [d] }
  | _ => none }
def reduceRestsRow : OpenClaim := { program := "ytndbnldjidciiaagreatdoor", sum := "188ddd7a888854e96adec5e888f4e9c759fcfc46b4a0693fae3cd7eece196b40", func := "provekernel/provekernellaw.ReduceRests", spec := "reduceRests", inPlace := ["internal/reflectlite.ValueOf", "(internal/reflectlite.Value).Type", "(internal/reflectlite.Value).IsNil", "internal/reflectlite.TypeOf", "(internal/reflectlite.Value).Elem", "(internal/reflectlite.Value).Set"], unfollowed := true, recurses := true, named := ["provekernel/provekernelref.words", "errors.errorType"], apart := false, laid := [("errors.errorType", laid_errors_errorType), ("provekernel/provekernelref.words", laid_provekernel_provekernelref_words)] }
def ReduceRestsSaid : Prop := reduceRestsRow.holds Tryz.pinned (OpenSpec.ofChange reduceRestsSpec)

/-- ITS FALSE NEIGHBOUR: 'it returns false'. Refute it at one input. -/
def reduceRestsWrong : ChangeSpec := { name := "reduceRests", fn := fun _ => fun
  | [d] => { results := [.lit (.bool false)], args := [d] }
  | _ => none }
def ReduceRestsWrongFalsely : Prop := reduceRestsRow.holds Tryz.pinned (OpenSpec.ofChange reduceRestsWrong)

/- THE SECOND FORM. 'bulk': how many values and letters a reading holds, each counted each time it is reached (what is shared counts as often as it is met; a slice's spare places count too). A statement '..UptoSaid' is the law's where the arguments, and the package variables that the reading takes, are together of bulk at most 1048576: NARROWER than '..Said'. Prove '..Said' where nothing that the law and all that it calls make is longer than what came in: it says more and counts as full. Else prove '..UptoSaid'. A law counts once. -/
mutual
def uptoBulk {H : Type} : DataW H → Nat
  | .lit (.string bytes) => bytes.length + 1
  | .lit _ => 1
  | .nil => 1
  | .ptr d => uptoBulk d + 1
  | .slice elems spare => uptoBulkAll elems + uptoBulkAll spare + 1
  | .agg parts => uptoBulkAll parts + 1
  | .iface _ d => uptoBulk d + 1
  | .map entries => uptoBulkEntries entries + 1
  | .held _ => 1
def uptoBulkAll {H : Type} : List (DataW H) → Nat
  | [] => 0
  | d :: r => uptoBulk d + uptoBulkAll r
def uptoBulkEntries {H : Type} : List (Lit × DataW H) → Nat
  | [] => 0
  | x :: r => uptoBulkEntry x + uptoBulkEntries r
def uptoBulkEntry {H : Type} : Lit × DataW H → Nat
  | (.string bytes, d) => bytes.length + uptoBulk d + 1
  | (_, d) => uptoBulk d + 1
 end
def uptoSmall : (H : Type) → List (DataW H) → Bool := fun _ ds => decide (uptoBulkAll ds ≤ 1048576)
def OpenSpec.upto (s : _root_.Go.ChangeSpec) : _root_.Go.OpenSpec := { _root_.Go.OpenSpec.ofChange s with cond := some uptoSmall }

/-- 'provekernellaw.ReduceKnows', WHERE WHAT IT READS IS OF BULK AT MOST 1048576: true; the input reads as it did. -/
def reduceKnowsUptoRow : OpenClaim := { program := "ytndbnldjidciiaagreatdoor", sum := "188ddd7a888854e96adec5e888f4e9c759fcfc46b4a0693fae3cd7eece196b40", func := "provekernel/provekernellaw.ReduceKnows", spec := "reduceKnows", recurses := true, named := ["provekernel/provekernelref.words"], apart := false, laid := [("provekernel/provekernelref.words", laid_provekernel_provekernelref_words)], narrowed := true }
def ReduceKnowsUptoSaid : Prop := reduceKnowsUptoRow.holds Tryz.pinned (OpenSpec.upto reduceKnowsSpec)

/-- 'provekernellaw.ReduceEqual', WHERE WHAT IT READS IS OF BULK AT MOST 1048576: true; the input reads as it did. -/
def reduceEqualUptoRow : OpenClaim := { program := "ytndbnldjidciiaagreatdoor", sum := "188ddd7a888854e96adec5e888f4e9c759fcfc46b4a0693fae3cd7eece196b40", func := "provekernel/provekernellaw.ReduceEqual", spec := "reduceEqual", unfollowed := true, recurses := true, named := ["provekernel/provekernelref.words"], apart := false, laid := [("provekernel/provekernelref.words", laid_provekernel_provekernelref_words)], narrowed := true }
def ReduceEqualUptoSaid : Prop := reduceEqualUptoRow.holds Tryz.pinned (OpenSpec.upto reduceEqualSpec)

/-- 'provekernellaw.ReduceWhnf', WHERE WHAT IT READS IS OF BULK AT MOST 1048576: true; the input reads as it did. -/
def reduceWhnfUptoRow : OpenClaim := { program := "ytndbnldjidciiaagreatdoor", sum := "188ddd7a888854e96adec5e888f4e9c759fcfc46b4a0693fae3cd7eece196b40", func := "provekernel/provekernellaw.ReduceWhnf", spec := "reduceWhnf", inPlace := ["internal/reflectlite.ValueOf", "(internal/reflectlite.Value).Type", "(internal/reflectlite.Value).IsNil", "internal/reflectlite.TypeOf", "(internal/reflectlite.Value).Elem", "(internal/reflectlite.Value).Set"], unfollowed := true, recurses := true, named := ["provekernel/provekernelref.words", "errors.errorType"], apart := false, laid := [("errors.errorType", laid_errors_errorType), ("provekernel/provekernelref.words", laid_provekernel_provekernelref_words)], narrowed := true }
def ReduceWhnfUptoSaid : Prop := reduceWhnfUptoRow.holds Tryz.pinned (OpenSpec.upto reduceWhnfSpec)

/-- 'provekernellaw.ReduceNormal', WHERE WHAT IT READS IS OF BULK AT MOST 1048576: true; the input reads as it did. -/
def reduceNormalUptoRow : OpenClaim := { program := "ytndbnldjidciiaagreatdoor", sum := "188ddd7a888854e96adec5e888f4e9c759fcfc46b4a0693fae3cd7eece196b40", func := "provekernel/provekernellaw.ReduceNormal", spec := "reduceNormal", inPlace := ["internal/reflectlite.ValueOf", "(internal/reflectlite.Value).Type", "(internal/reflectlite.Value).IsNil", "internal/reflectlite.TypeOf", "(internal/reflectlite.Value).Elem", "(internal/reflectlite.Value).Set"], unfollowed := true, recurses := true, named := ["provekernel/provekernelref.words", "errors.errorType"], apart := false, laid := [("errors.errorType", laid_errors_errorType), ("provekernel/provekernelref.words", laid_provekernel_provekernelref_words)], narrowed := true }
def ReduceNormalUptoSaid : Prop := reduceNormalUptoRow.holds Tryz.pinned (OpenSpec.upto reduceNormalSpec)

/-- 'provekernellaw.ReduceRests', WHERE WHAT IT READS IS OF BULK AT MOST 1048576: true; the input reads as it did. -/
def reduceRestsUptoRow : OpenClaim := { program := "ytndbnldjidciiaagreatdoor", sum := "188ddd7a888854e96adec5e888f4e9c759fcfc46b4a0693fae3cd7eece196b40", func := "provekernel/provekernellaw.ReduceRests", spec := "reduceRests", inPlace := ["internal/reflectlite.ValueOf", "(internal/reflectlite.Value).Type", "(internal/reflectlite.Value).IsNil", "internal/reflectlite.TypeOf", "(internal/reflectlite.Value).Elem", "(internal/reflectlite.Value).Set"], unfollowed := true, recurses := true, named := ["provekernel/provekernelref.words", "errors.errorType"], apart := false, laid := [("errors.errorType", laid_errors_errorType), ("provekernel/provekernelref.words", laid_provekernel_provekernelref_words)], narrowed := true }
def ReduceRestsUptoSaid : Prop := reduceRestsUptoRow.holds Tryz.pinned (OpenSpec.upto reduceRestsSpec)

end Rows
end Go.Proofs.YtndbnldjidciiaaGreatDoor
