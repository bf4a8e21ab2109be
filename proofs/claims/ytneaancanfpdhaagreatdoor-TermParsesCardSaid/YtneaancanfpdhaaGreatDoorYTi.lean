/-
  What is proved here: what the rules ask of a type, and what a load does where the cells are known; over any program.
-/
import Derived.WalkKit
namespace Go.Vd
open Go Go.RowKit

inductive Sh where
  | int (k : IntKind) | bool | str | slice | ptr | map | any

structure TI where
  ok : Bool
  size : Nat
  agg : Bool
  flds : List (Nat × Nat × Bool)
  fok : Bool
  zero : List Value
  zok : Bool
  elem : TypeId
  tup : Option (List TypeId)
  sh : List Sh

def shOf (P : Program) : Nat → TypeId → List Sh
  | 0, _ => []
  | n + 1, T => match P.underlying T with
    | some (.int k) => [.int k]
    | some .bool => [.bool]
    | some .string => [.str]
    | some (.slice _) => [.slice]
    | some (.pointer _) => [.ptr]
    | some (.map _ _) => [.map]
    | some (.struct fs) => fs.toList.flatMap fun f => shOf P n f.type
    | some (.array k e) => (List.replicate k (shOf P n e)).flatten
    | some _ => [.any]
    | none => []

def isAggD : Option TypeDesc → Bool
  | some (.struct _) => true
  | some (.array _ _) => true
  | _ => false

def tiOf (P : Program) (T : TypeId) : TI where
  ok := (P.info? T).isSome && (P.underlying T).isSome
  size := ((P.info? T).map (·.size)).getD 0
  agg := isAggD (P.underlying T)
  flds := match P.underlying T with
    | some (.struct fs) => fs.toList.map fun f => (f.offset, ((P.info? f.type).map (·.size)).getD 0, isAggD (P.underlying f.type))
    | _ => []
  fok := match P.underlying T with
    | some (.struct fs) => fs.toList.all fun f => (P.info? f.type).isSome
    | _ => false
  zero := (((P.info? T).bind (·.zero)).map (·.cells.toList)).getD []
  zok := ((P.info? T).bind (·.zero)).isSome
  elem := match P.underlying T with
    | some (.slice e) => e
    | some (.pointer e) => e
    | some (.array _ e) => e
    | _ => 0
  tup := match P.underlying T with
    | some (.tuple ts) => some ts.toList
    | _ => none
  sh := shOf P 6 T

section
variable {P : Program}
theorem ti_ok {T : TypeId} (h : (tiOf P T).ok = true) : ∃ i d, P.info? T = some i ∧ P.underlying T = some d ∧ (tiOf P T).size = i.size ∧ (tiOf P T).agg = isAggD (some d) := by
  simp only [tiOf, Bool.and_eq_true, Option.isSome_iff_exists] at h
  obtain ⟨⟨i, hi⟩, d, hd⟩ := h
  exact ⟨i, d, hi, hd, by simp [tiOf, hi], by simp [tiOf, hd]⟩

theorem run_isAgg {T : TypeId} {d : TypeDesc} (h : P.underlying T = some d) (w : World) : (isAgg T).run P w = .ok (isAggD (some d)) w := by
  cases d <;> simp [isAgg, run_underlying h, isAggD]

theorem Value.cells_one {x : Value} (h : x.oneCell' = true) : x.cells = #[x] := by cases x <;> simp_all [Value.cells, Value.oneCell']

theorem addr_add (b off i : Nat) : (⟨b, off, none⟩ : Addr).add i = ⟨b, off + i, none⟩ := by
  unfold Addr.add; split
  · subst_vars; rfl
  · rfl

/-- A load at an address where the cells are known. -/
theorem run_loadVar_cells {T : TypeId} (hT : (tiOf P T).ok = true) {w : World} {b off : Nat} {xs : List Value} (hl : xs.length = (tiOf P T).size)
    (h : ∀ j x, xs[j]? = some x → w.cell? ⟨b, off + j, none⟩ = some x) (h1 : (tiOf P T).agg = false → ∃ x, xs = [x]) :
    (loadVar T ⟨b, off, none⟩).run P w = .ok (if (tiOf P T).agg then .agg ⟨xs⟩ else xs.headD undef) w := by
  obtain ⟨i, d, hi, hd, hs, ha⟩ := ti_ok hT
  have hag := run_isAgg hd w
  rw [← ha] at hag
  cases hag2 : (tiOf P T).agg with
  | true =>
    rw [hag2] at hag
    have hload := run_loadCells_list (P := P) w ⟨b, off, none⟩ xs (fun j x hj => by rw [addr_add]; exact h j x hj)
    rw [hl, hs] at hload
    simp [loadVar, hag, sizeOf, typeInfo, hi, hload]
  | false =>
    rw [hag2] at hag
    obtain ⟨x, rfl⟩ := h1 hag2
    have h0 := h 0 x rfl
    simp at h0
    simp [loadVar, hag, h0]

end
end Go.Vd
