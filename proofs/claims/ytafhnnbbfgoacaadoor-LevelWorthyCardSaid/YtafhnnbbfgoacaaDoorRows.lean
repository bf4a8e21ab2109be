/-
  NARROWER THAN 'FOR EVERY INPUT', by the rows' own cells (each row's printed sentence says how): LevelMakes: laid · LevelParses: laid · LevelWorthy: laid.
  DERIVED. THE GIVEN ROWS OF THIS SEAT. 3 by the template 'for every input the law returns true; each argument reads behind the call as it read before'; 0 by the template 'total and deterministic' (their statements: YtafhnnbbfgoacaaDoorTotals.lean).
  GIVEN WITH THE SEED: the statements are not yours to turn. If you find one false, say at which input.
  Laid BY PROGRAM, IN A SANDBOX (cutbox-rows.mjs): the forced cells as the released guide's own fill.sh prints them over the translation c3298f24cba04189… (all of the seat's roots in one cut). By AI agents, Wed Nov 11 2026. No macro, syntax, notation, axiom, sorry.
-/
import Derived.Test.YtafhnnbbfgoacaaDoorChecked
import GoSem.Claim
import GoSem.ClaimJoined
import GoSem.ClaimMapViews
import Derived.JoinedTies
import Derived.KernelRfl
namespace Go.Proofs.YtafhnnbbfgoacaaDoor
/- THE CELL 'sum', in the pinned program and in every row, IS THE sha256 OF THE DUMP (.gsa) THAT YtafhnnbbfgoacaaDoorProg.lean LOADS. Nothing in Lean hashes anything: it is a label: what it is worth is what the hold of that sum in a sandbox is worth. -/
noncomputable def Tryd.pinned : Pinned := { name := "ytafhnnbbfgoacaadoor", sum := "c3298f24cba0418938dcddf4d663b3c80e17b9c6da602a055480b5b15c7f58ca", checked := Tryd.checked }
namespace Rows
def none {H : Type} : Left H := { results := [], args := [] }

/- WHAT THE LISTED PACKAGE-LEVEL VARIABLES READ AS WHEN THE CALL BEGINS. Each datum BY PROGRAM (the guide's laid-datum.mjs) off the statement by which the dump's own 'gosem.cut.vars' lays the variable. In a bare row this is a premise. The card (YtafhnnbbfgoacaaDoorCards.lean) ties it to the program's text. -/
def laid_provekernel_level_words {H : Type} : DataW H := .agg [.lit (.string []), .lit (.string [115]), .lit (.string [109, 97, 120]), .lit (.string [105, 109, 97, 120])]
def laid_errors_errorType {H : Type} : DataW H := .iface "internal/reflectlite.rtype" (.agg [.ptr (.lit (.string [101, 114, 114, 111, 114]))])

/-- 'provekernellaw.LevelMakes': WHATEVER THE INPUT: true; the input reads as it did. -/
def levelMakesSpec : ChangeSpec := { name := "levelMakes", fn := fun _ => fun
  | [d] => { results := [.lit (.bool true)], args := [d] }
  | _ => none }
def levelMakesRow : OpenClaim := { program := "ytafhnnbbfgoacaadoor", sum := "c3298f24cba0418938dcddf4d663b3c80e17b9c6da602a055480b5b15c7f58ca", func := "provekernel/provekernellaw.LevelMakes", spec := "levelMakes", inPlace := ["internal/abi.NoEscape"], unfollowed := true, recurses := true, named := ["provekernel/level.words"], apart := false, laid := [("provekernel/level.words", laid_provekernel_level_words)] }
def LevelMakesSaid : Prop := levelMakesRow.holds Tryd.pinned (OpenSpec.ofChange levelMakesSpec)

/-- ITS FALSE NEIGHBOUR: 'it returns false'. Refute it at one input. -/
def levelMakesWrong : ChangeSpec := { name := "levelMakes", fn := fun _ => fun
  | [d] => { results := [.lit (.bool false)], args := [d] }
  | _ => none }
def LevelMakesWrongFalsely : Prop := levelMakesRow.holds Tryd.pinned (OpenSpec.ofChange levelMakesWrong)

/-- 'provekernellaw.LevelParses': WHATEVER THE INPUT: true; the input reads as it did. -/
def levelParsesSpec : ChangeSpec := { name := "levelParses", fn := fun _ => fun
  | [d] => { results := [.lit (.bool true)], args := [d] }
  | _ => none }
def levelParsesRow : OpenClaim := { program := "ytafhnnbbfgoacaadoor", sum := "c3298f24cba0418938dcddf4d663b3c80e17b9c6da602a055480b5b15c7f58ca", func := "provekernel/provekernellaw.LevelParses", spec := "levelParses", inPlace := ["internal/reflectlite.ValueOf", "(internal/reflectlite.Value).Type", "(internal/reflectlite.Value).IsNil", "internal/reflectlite.TypeOf", "(internal/reflectlite.Value).Elem", "(internal/reflectlite.Value).Set"], unfollowed := true, recurses := true, named := ["errors.errorType"], apart := false, laid := [("errors.errorType", laid_errors_errorType)] }
def LevelParsesSaid : Prop := levelParsesRow.holds Tryd.pinned (OpenSpec.ofChange levelParsesSpec)

/-- ITS FALSE NEIGHBOUR: 'it returns false'. Refute it at one input. -/
def levelParsesWrong : ChangeSpec := { name := "levelParses", fn := fun _ => fun
  | [d] => { results := [.lit (.bool false)], args := [d] }
  | _ => none }
def LevelParsesWrongFalsely : Prop := levelParsesRow.holds Tryd.pinned (OpenSpec.ofChange levelParsesWrong)

/-- 'provekernellaw.LevelWorthy': WHATEVER THE INPUT: true; the input reads as it did. -/
def levelWorthySpec : ChangeSpec := { name := "levelWorthy", fn := fun _ => fun
  | [d] => { results := [.lit (.bool true)], args := [d] }
  | _ => none }
def levelWorthyRow : OpenClaim := { program := "ytafhnnbbfgoacaadoor", sum := "c3298f24cba0418938dcddf4d663b3c80e17b9c6da602a055480b5b15c7f58ca", func := "provekernel/provekernellaw.LevelWorthy", spec := "levelWorthy", inPlace := ["internal/abi.NoEscape"], unfollowed := true, recurses := true, named := ["provekernel/level.words"], apart := false, laid := [("provekernel/level.words", laid_provekernel_level_words)] }
def LevelWorthySaid : Prop := levelWorthyRow.holds Tryd.pinned (OpenSpec.ofChange levelWorthySpec)

/-- ITS FALSE NEIGHBOUR: 'it returns false'. Refute it at one input. -/
def levelWorthyWrong : ChangeSpec := { name := "levelWorthy", fn := fun _ => fun
  | [d] => { results := [.lit (.bool false)], args := [d] }
  | _ => none }
def LevelWorthyWrongFalsely : Prop := levelWorthyRow.holds Tryd.pinned (OpenSpec.ofChange levelWorthyWrong)

/- THE SECOND FORM. 'bulk': how many values and letters a reading holds, each counted each time it is reached (what is shared counts as often as it is met; a slice's spare places count too). A statement '..UptoSaid' is the law's where the arguments, and the package variables that the reading takes, are together of bulk at most 1048576: NARROWER than '..Said'. Prove '..Said' where nothing that the law and all that it calls make is longer than what came in: it says more and counts as full. Else prove '..UptoSaid'. A law counts once. -/
mutual
def uptoBulk {H : Type} : DataW H → Nat
  | .lit (.string bytes) => bytes.length + 1
  | .lit _ => 1
  | .nil => 1
  | .ptr d => uptoBulk d + 1
  | .slice elems spare => uptoBulkAll elems + uptoBulkAll spare + 1
  | .agg parts => uptoBulkAll parts + 1
  | .iface _ d => uptoBulk d + 1
  | .map entries => uptoBulkEntries entries + 1
  | .held _ => 1
def uptoBulkAll {H : Type} : List (DataW H) → Nat
  | [] => 0
  | d :: r => uptoBulk d + uptoBulkAll r
def uptoBulkEntries {H : Type} : List (Lit × DataW H) → Nat
  | [] => 0
  | x :: r => uptoBulkEntry x + uptoBulkEntries r
def uptoBulkEntry {H : Type} : Lit × DataW H → Nat
  | (.string bytes, d) => bytes.length + uptoBulk d + 1
  | (_, d) => uptoBulk d + 1
 end
def uptoSmall : (H : Type) → List (DataW H) → Bool := fun _ ds => decide (uptoBulkAll ds ≤ 1048576)
def OpenSpec.upto (s : _root_.Go.ChangeSpec) : _root_.Go.OpenSpec := { _root_.Go.OpenSpec.ofChange s with cond := some uptoSmall }

/-- 'provekernellaw.LevelMakes', WHERE WHAT IT READS IS OF BULK AT MOST 1048576: true; the input reads as it did. -/
def levelMakesUptoRow : OpenClaim := { program := "ytafhnnbbfgoacaadoor", sum := "c3298f24cba0418938dcddf4d663b3c80e17b9c6da602a055480b5b15c7f58ca", func := "provekernel/provekernellaw.LevelMakes", spec := "levelMakes", inPlace := ["internal/abi.NoEscape"], unfollowed := true, recurses := true, named := ["provekernel/level.words"], apart := false, laid := [("provekernel/level.words", laid_provekernel_level_words)], narrowed := true }
def LevelMakesUptoSaid : Prop := levelMakesUptoRow.holds Tryd.pinned (OpenSpec.upto levelMakesSpec)

/-- 'provekernellaw.LevelParses', WHERE WHAT IT READS IS OF BULK AT MOST 1048576: true; the input reads as it did. -/
def levelParsesUptoRow : OpenClaim := { program := "ytafhnnbbfgoacaadoor", sum := "c3298f24cba0418938dcddf4d663b3c80e17b9c6da602a055480b5b15c7f58ca", func := "provekernel/provekernellaw.LevelParses", spec := "levelParses", inPlace := ["internal/reflectlite.ValueOf", "(internal/reflectlite.Value).Type", "(internal/reflectlite.Value).IsNil", "internal/reflectlite.TypeOf", "(internal/reflectlite.Value).Elem", "(internal/reflectlite.Value).Set"], unfollowed := true, recurses := true, named := ["errors.errorType"], apart := false, laid := [("errors.errorType", laid_errors_errorType)], narrowed := true }
def LevelParsesUptoSaid : Prop := levelParsesUptoRow.holds Tryd.pinned (OpenSpec.upto levelParsesSpec)

/-- 'provekernellaw.LevelWorthy', WHERE WHAT IT READS IS OF BULK AT MOST 1048576: true; the input reads as it did. -/
def levelWorthyUptoRow : OpenClaim := { program := "ytafhnnbbfgoacaadoor", sum := "c3298f24cba0418938dcddf4d663b3c80e17b9c6da602a055480b5b15c7f58ca", func := "provekernel/provekernellaw.LevelWorthy", spec := "levelWorthy", inPlace := ["internal/abi.NoEscape"], unfollowed := true, recurses := true, named := ["provekernel/level.words"], apart := false, laid := [("provekernel/level.words", laid_provekernel_level_words)], narrowed := true }
def LevelWorthyUptoSaid : Prop := levelWorthyUptoRow.holds Tryd.pinned (OpenSpec.upto levelWorthySpec)

end Rows
end Go.Proofs.YtafhnnbbfgoacaaDoor
