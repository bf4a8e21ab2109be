/-
  What is proved here: texts, numbers and levels as data; what the reference's functions on them compute, in plain words.
-/
import Derived.Test.YtneaancanfpdhaaGreatDoorY17
namespace Go.Vd
open Go Go.RowKit

def int (n : Int) : SV := .d (.v (.int .i64 n))
def strs (l : List ByteArray) : List (List D) := l.map fun s => [.v (.string s)]
def ints (l : List Int) : List (List D) := l.map fun n => [.v (.int .i64 n)]
abbrev strsD (l : List ByteArray) : D := .sl 1 (strs l)
abbrev intsD (l : List Int) : D := .sl 1 (ints l)
theorem strs_len (l : List ByteArray) : (strs l).length = l.length := by simp [strs]
theorem ints_len (l : List Int) : (ints l).length = l.length := by simp [ints]
theorem str_at {l : List ByteArray} {i : Nat} (h : i < l.length) : (strs l)[((i : Nat) : Int).toNat]? = some [.v (.string l[i])] := by simp [strs, h]
theorem int_at {l : List Int} {i : Nat} (h : i < l.length) : (ints l)[((i : Nat) : Int).toNat]? = some [.v (.int .i64 l[i])] := by simp [ints, h]
theorem strs_app (l : List ByteArray) (s : ByteArray) : strs l ++ [[.v (.string s)]] = strs (l ++ [s]) := by simp [strs]
theorem ints_app (l : List Int) (n : Int) : ints l ++ [[.v (.int .i64 n)]] = ints (l ++ [n]) := by simp [ints]

/-- among -/
def memB (name : ByteArray) (l : List ByteArray) : Bool := l.any fun s => decide (s = name)
theorem memB_true {name : ByteArray} {l : List ByteArray} {k : Nat} (h : k < l.length) (e : l[k] = name) : memB name l = true := by
  unfold memB; rw [List.any_eq_true]; exact ⟨_, List.getElem_mem h, by simpa using e⟩
theorem memB_iff {name : ByteArray} {l : List ByteArray} : memB name l = true ↔ name ∈ l := by
  unfold memB; rw [List.any_eq_true]
  exact ⟨fun ⟨x, hx, e⟩ => by simp at e; subst e; exact hx, fun h => ⟨name, h, by simp⟩⟩
theorem memB_false {name : ByteArray} {l : List ByteArray} (h : name ∉ l) : memB name l = false := by
  cases hb : memB name l with
  | false => rfl
  | true => exact absurd (memB_iff.1 hb) h
theorem not_mem_take_succ {name : ByteArray} {l : List ByteArray} {k : Nat} (h : k < l.length) (h1 : name ∉ l.take k) (h2 : ¬ l[k] = name) : name ∉ l.take (k + 1) := by
  rw [List.take_add_one, List.mem_append]
  rintro (h3 | h3)
  · exact h1 h3
  · simp [h] at h3; exact h2 h3.symm

/-! levels -/
inductive Lvl where
  | mk (kind : Int) (name : ByteArray) (args : List Lvl)
mutual
def Lvl.cells : Lvl → List D
  | .mk k s args => [.v (.int .i64 k), .v (.string s), .sl 3 (lvls args)]
def lvls : List Lvl → List (List D)
  | [] => []
  | l :: r => l.cells :: lvls r
end
def Lvl.d (l : Lvl) : D := .agg l.cells
theorem Lvl.cells_len : ∀ l : Lvl, l.cells.length = 3
  | .mk _ _ _ => rfl
theorem Lvl.case (l : Lvl) : ∃ k s args, l = .mk k s args := by cases l; exact ⟨_, _, _, rfl⟩
theorem lvls_len : ∀ l : List Lvl, (lvls l).length = l.length
  | [] => rfl
  | l :: r => by simp [lvls, lvls_len r]
theorem lvls_get : ∀ {l : List Lvl} {i : Nat} {x : Lvl}, l[i]? = some x → (lvls l)[i]? = some x.cells
  | [], i, x, h => by simp at h
  | l :: r, 0, x, h => by simp at h; subst h; simp [lvls]
  | l :: r, i + 1, x, h => by simpa [lvls] using lvls_get (l := r) (i := i) (by simpa using h)
theorem lvl_at {l : List Lvl} {i : Nat} {k : Int} {s : ByteArray} {args : List Lvl} (h : l[i]? = some (.mk k s args)) : (lvls l)[((i : Nat) : Int).toNat]? = some [.v (.int .i64 k), .v (.string s), .sl 3 (lvls args)] := by
  rw [Int.toNat_natCast, lvls_get h]; rfl
theorem lvls_app (l m : List Lvl) : lvls (l ++ m) = lvls l ++ lvls m := by
  induction l with
  | nil => rfl
  | cons a r ih => simp [lvls, ih]
theorem lvl_get {ls : List Lvl} {i : Nat} (h : i < ls.length) : ∃ k s args, ls[i]? = some (.mk k s args) := by
  have : ls[i]? = some ls[i] := by simp [h]
  rw [this]
  cases ls[i]; exact ⟨_, _, _, rfl⟩
mutual
def Lvl.size : Lvl → Nat
  | .mk _ _ args => 1 + sizes args
def sizes : List Lvl → Nat
  | [] => 0
  | l :: r => l.size + sizes r
end
theorem size_get : ∀ {ls : List Lvl} {i : Nat} {l : Lvl}, ls[i]? = some l → l.size ≤ sizes ls
  | [], i, l, h => by simp at h
  | a :: r, 0, l, h => by simp at h; subst h; simp [sizes]
  | a :: r, i + 1, l, h => by simp at h; have := size_get h; simp [sizes]; omega
theorem lvls_size : ∀ ls : List Lvl, ls.length ≤ sizes ls
  | [] => by simp
  | l :: r => by have := lvls_size r; cases l; simp [sizes, Lvl.size]; omega
mutual
/-- as they are written -/
def Lvl.same : Lvl → Lvl → Bool
  | .mk k s a, .mk k2 s2 a2 => decide (k = k2) && decide (s = s2) && sameL a a2
def sameL : List Lvl → List Lvl → Bool
  | [], [] => true
  | l :: r, l2 :: r2 => l.same l2 && sameL r r2
  | _, _ => false
end
theorem Lvl.same_eq (k : Int) (s : ByteArray) (a : List Lvl) (k2 : Int) (s2 : ByteArray) (a2 : List Lvl) : Lvl.same (.mk k s a) (.mk k2 s2 a2) = (decide (k = k2) && decide (s = s2) && sameL a a2) := by simp [Lvl.same]
theorem sameL_len : ∀ {a b : List Lvl}, sameL a b = true → a.length = b.length
  | [], [], _ => rfl
  | l :: r, l2 :: r2, h => by simp [sameL] at h; simp [sameL_len h.2]
  | [], _ :: _, h => by simp [sameL] at h
  | _ :: _, [], h => by simp [sameL] at h
theorem sameL_app : ∀ {a b : List Lvl} {x y : Lvl}, a.length = b.length → sameL (a ++ [x]) (b ++ [y]) = (sameL a b && x.same y)
  | [], [], x, y, _ => by simp [sameL]
  | l :: r, l2 :: r2, x, y, h => by simp [sameL, sameL_app (a := r) (b := r2) (by simpa using h), Bool.and_assoc]
  | [], _ :: _, _, _, h => by simp at h
  | _ :: _, [], _, _, h => by simp at h
theorem sameL_take {a b : List Lvl} {i : Nat} {x y : Lvl} (hx : a[i]? = some x) (hy : b[i]? = some y) : sameL (a.take (i + 1)) (b.take (i + 1)) = (sameL (a.take i) (b.take i) && x.same y) := by
  have h1 := (List.getElem?_eq_some_iff.1 hx).1
  have h2 := (List.getElem?_eq_some_iff.1 hy).1
  rw [List.take_add_one, List.take_add_one, hx, hy]
  exact sameL_app (by simp; omega)
theorem sameL_false : ∀ {a b : List Lvl} {i : Nat} {x y : Lvl}, a[i]? = some x → b[i]? = some y → x.same y = false → sameL a b = false
  | [], _, i, _, _, h, _, _ => by simp at h
  | _ :: _, [], i, _, _, _, h, _ => by simp at h
  | l :: r, l2 :: r2, 0, x, y, h1, h2, h3 => by simp at h1 h2; subst h1 h2; simp [sameL, h3]
  | l :: r, l2 :: r2, i + 1, x, y, h1, h2, h3 => by simp [sameL]; intro _; exact sameL_false (i := i) (by simpa using h1) (by simpa using h2) h3
mutual
/-- the reference's 'succs' -/
def Lvl.succs : Lvl → Nat
  | .mk k _ args => (if k = 1 then 1 else 0) + succsL args
def succsL : List Lvl → Nat
  | [] => 0
  | l :: r => l.succs + succsL r
end
mutual
theorem Lvl.succs_le : ∀ l : Lvl, l.succs ≤ l.size
  | .mk k s args => by simp only [Lvl.succs, Lvl.size]; have := succsL_le args; split <;> omega
theorem succsL_le : ∀ ls : List Lvl, succsL ls ≤ sizes ls
  | [] => by simp [succsL]
  | l :: r => by simp only [succsL, sizes]; have := l.succs_le; have := succsL_le r; omega
end
theorem succsL_append (l m : List Lvl) : succsL (l ++ m) = succsL l + succsL m := by
  induction l with
  | nil => simp [succsL]
  | cons a r ih => simp [succsL, ih]; omega
theorem succsL_take {l : List Lvl} {i : Nat} {a : Lvl} (h : l[i]? = some a) : succsL (l.take (i + 1)) = succsL (l.take i) + a.succs := by
  rw [List.take_add_one, h]; simp [succsL_append, succsL]
theorem succsL_take_le (l : List Lvl) (i : Nat) : succsL (l.take i) ≤ succsL l := by
  have : succsL l = succsL (l.take i) + succsL (l.drop i) := by rw [← succsL_append, List.take_append_drop]
  omega
mutual
/-- the reference's 'Params' -/
def Lvl.params : Lvl → List ByteArray → List ByteArray
  | .mk k s args, ah => if k = 4 then (if memB s ah then ah else ah ++ [s]) else paramsL args ah
def paramsL : List Lvl → List ByteArray → List ByteArray
  | [], ah => ah
  | l :: r, ah => paramsL r (l.params ah)
end
mutual
theorem Lvl.params_len : ∀ (l : Lvl) (ah : List ByteArray), (l.params ah).length ≤ ah.length + l.size
  | .mk k s args, ah => by
    have h := paramsL_len args ah
    simp only [Lvl.params, Lvl.size]
    split
    · split
      · omega
      · simp
    · omega
theorem paramsL_len : ∀ (ls : List Lvl) (ah : List ByteArray), (paramsL ls ah).length ≤ ah.length + sizes ls
  | [], ah => by simp [paramsL]
  | l :: r, ah => by
    have h1 := l.params_len ah
    have h2 := paramsL_len r (l.params ah)
    simp only [paramsL, sizes]; omega
end
theorem paramsL_append (l m : List Lvl) (ah : List ByteArray) : paramsL (l ++ m) ah = paramsL m (paramsL l ah) := by
  induction l generalizing ah with
  | nil => rfl
  | cons a r ih => simp [paramsL, ih]
theorem paramsL_take {l : List Lvl} {i : Nat} {a : Lvl} (h : l[i]? = some a) (ah : List ByteArray) : paramsL (l.take (i + 1)) ah = a.params (paramsL (l.take i) ah) := by
  rw [List.take_add_one, h]; simp [paramsL_append, paramsL]
theorem sizes_append (l m : List Lvl) : sizes (l ++ m) = sizes l + sizes m := by
  induction l with
  | nil => simp [sizes]
  | cons a r ih => simp [sizes, ih]; omega
theorem sizes_take {l : List Lvl} {i : Nat} {a : Lvl} (h : l[i]? = some a) : sizes (l.take (i + 1)) = sizes (l.take i) + a.size := by
  rw [List.take_add_one, h]; simp [sizes_append, sizes]
theorem sizes_take_le (l : List Lvl) (i : Nat) : sizes (l.take i) ≤ sizes l := by
  have : sizes l = sizes (l.take i) + sizes (l.drop i) := by rw [← sizes_append, List.take_append_drop]
  omega
end Go.Vd
