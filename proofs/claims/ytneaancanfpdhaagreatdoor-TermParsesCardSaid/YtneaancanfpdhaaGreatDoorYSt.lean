/-
  What is proved here: a level is the same as itself; the steps of a script, as data.
-/
import Derived.Test.YtneaancanfpdhaaGreatDoorYRD
set_option linter.unusedSimpArgs false
set_option linter.unusedVariables false
namespace Go.Proofs.YtneaancanfpdhaaGreatDoor
open Go Go.Vd Go.RowKit

mutual
theorem same_refl : ∀ l : Lvl, Lvl.same l l = true
  | .mk k s a => by rw [Lvl.same_eq, sameL_refl a]; simp
theorem sameL_refl : ∀ l : List Lvl, sameL l l = true
  | [] => rfl
  | l :: r => by
    have h1 := same_refl l
    have h2 := sameL_refl r
    unfold sameL
    simp [h1, h2]
end
/-- a step of a script -/
def opD (K : Int) (S T U : ByteArray) (A B : Int) : D := .agg [.v (.int .i64 K), .v (.string S), .v (.string T), .v (.string U), .v (.int .i64 A), .v (.int .i64 B)]
def i64 (n : Int) : Prop := -9223372036854775808 ≤ n ∧ n ≤ 9223372036854775807

structure Step where
  k : Int
  s : ByteArray
  t : ByteArray
  u : ByteArray
  a : Int
  b : Int
def Step.cells (o : Step) : List D := [.v (.int .i64 o.k), .v (.string o.s), .v (.string o.t), .v (.string o.u), .v (.int .i64 o.a), .v (.int .i64 o.b)]
def steps (l : List Step) : List (List D) := l.map Step.cells
theorem steps_len (l : List Step) : (steps l).length = l.length := by simp [steps]
theorem step_at {l : List Step} {i : Nat} (h : i < l.length) : (steps l)[((i : Nat) : Int).toNat]? = some [.v (.int .i64 l[i].k), .v (.string l[i].s), .v (.string l[i].t), .v (.string l[i].u), .v (.int .i64 l[i].a), .v (.int .i64 l[i].b)] := by simp [steps, h, Step.cells]
def Step.okInts (o : Step) : Prop := i64 o.a ∧ i64 o.b
end Go.Proofs.YtneaancanfpdhaaGreatDoor
