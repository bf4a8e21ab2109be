/-
  What is proved here: well-formed levels as a type of their own, what they are worth, and what the reference's counts say of them. No program in sight.
-/
import Derived.Test.YtneaancanfpdhaaGreatDoorYData
namespace Go.Vd
open Go Go.RowKit

inductive Lev where
  | zero
  | succ (a : Lev)
  | max (a b : Lev)
  | imax (a b : Lev)
  | param (s : ByteArray)

def Lev.toLvl : Lev → Lvl
  | .zero => .mk 0 .empty []
  | .succ a => .mk 1 .empty [a.toLvl]
  | .max a b => .mk 2 .empty [a.toLvl, b.toLvl]
  | .imax a b => .mk 3 .empty [a.toLvl, b.toLvl]
  | .param s => .mk 4 s []

def Lev.size : Lev → Nat
  | .zero => 1
  | .succ a => 1 + a.size
  | .max a b => 1 + a.size + b.size
  | .imax a b => 1 + a.size + b.size
  | .param _ => 1
theorem Lev.size_toLvl : ∀ l : Lev, l.toLvl.size = l.size
  | .zero => rfl
  | .succ a => by simp [Lev.toLvl, Lvl.size, sizes, Lev.size, a.size_toLvl]
  | .max a b => by simp [Lev.toLvl, Lvl.size, sizes, Lev.size, a.size_toLvl, b.size_toLvl]; omega
  | .imax a b => by simp [Lev.toLvl, Lvl.size, sizes, Lev.size, a.size_toLvl, b.size_toLvl]; omega
  | .param _ => rfl

def Lev.succs : Lev → Nat
  | .zero => 0
  | .succ a => 1 + a.succs
  | .max a b => a.succs + b.succs
  | .imax a b => a.succs + b.succs
  | .param _ => 0
theorem Lev.succs_toLvl : ∀ l : Lev, l.toLvl.succs = l.succs
  | .zero => rfl
  | .succ a => by simp [Lev.toLvl, Lvl.succs, succsL, Lev.succs, a.succs_toLvl]
  | .max a b => by simp [Lev.toLvl, Lvl.succs, succsL, Lev.succs, a.succs_toLvl, b.succs_toLvl]
  | .imax a b => by simp [Lev.toLvl, Lvl.succs, succsL, Lev.succs, a.succs_toLvl, b.succs_toLvl]
  | .param _ => rfl
theorem Lev.succs_le : ∀ l : Lev, l.succs ≤ l.size
  | .zero => by simp [Lev.succs]
  | .succ a => by have := a.succs_le; simp only [Lev.succs, Lev.size]; omega
  | .max a b => by have := a.succs_le; have := b.succs_le; simp only [Lev.succs, Lev.size]; omega
  | .imax a b => by have := a.succs_le; have := b.succs_le; simp only [Lev.succs, Lev.size]; omega
  | .param _ => by simp [Lev.succs]

def Lev.params : Lev → List ByteArray → List ByteArray
  | .zero, ah => ah
  | .succ a, ah => a.params ah
  | .max a b, ah => b.params (a.params ah)
  | .imax a b, ah => b.params (a.params ah)
  | .param s, ah => if memB s ah then ah else ah ++ [s]
theorem Lev.params_toLvl : ∀ (l : Lev) (ah : List ByteArray), l.toLvl.params ah = l.params ah
  | .zero, ah => by simp [Lev.toLvl, Lvl.params, paramsL, Lev.params]
  | .succ a, ah => by simp [Lev.toLvl, Lvl.params, paramsL, Lev.params, a.params_toLvl]
  | .max a b, ah => by simp [Lev.toLvl, Lvl.params, paramsL, Lev.params, a.params_toLvl, b.params_toLvl]
  | .imax a b, ah => by simp [Lev.toLvl, Lvl.params, paramsL, Lev.params, a.params_toLvl, b.params_toLvl]
  | .param s, ah => by simp [Lev.toLvl, Lvl.params, Lev.params]

/-- the number of a parameter -/
def pval : List ByteArray → List Int → ByteArray → Int
  | p :: ps, n :: ns, s => if p = s then n else pval ps ns s
  | _, _, _ => 0
theorem pval_at : ∀ {ps : List ByteArray} {ns : List Int} {s : ByteArray} {i : Nat}, ps.length ≤ ns.length → s ∉ ps.take i → ps[i]? = some s → ∃ n, ns[i]? = some n ∧ pval ps ns s = n
  | [], _, _, i, _, _, h => by simp at h
  | p :: ps, [], s, i, h, _, _ => by simp at h
  | p :: ps, n :: ns, s, 0, h, _, h2 => by simp at h2; subst h2; exact ⟨n, by simp, by simp [pval]⟩
  | p :: ps, n :: ns, s, i + 1, h, h1, h2 => by
    simp only [List.take_succ_cons, List.mem_cons, not_or] at h1
    obtain ⟨m, hm, he⟩ := pval_at (ps := ps) (ns := ns) (s := s) (i := i) (by simpa using h) h1.2 (by simpa using h2)
    exact ⟨m, by simpa using hm, by simp only [pval]; rw [if_neg (fun e => h1.1 e.symm), he]⟩
theorem pval_none : ∀ {ps : List ByteArray} {ns : List Int} {s : ByteArray}, s ∉ ps → pval ps ns s = 0
  | [], _, _, _ => by simp [pval]
  | p :: ps, [], s, _ => by simp [pval]
  | p :: ps, n :: ns, s, h => by
    simp only [List.mem_cons, not_or] at h
    simp only [pval]; rw [if_neg (fun e => h.1 e.symm), pval_none h.2]
theorem pval_bound {B : Int} (hB : 0 ≤ B) : ∀ {ps : List ByteArray} {ns : List Int} {s : ByteArray}, (∀ n ∈ ns, -B ≤ n ∧ n ≤ B) → -B ≤ pval ps ns s ∧ pval ps ns s ≤ B
  | [], _, _, _ => by simp only [pval]; omega
  | p :: ps, [], s, _ => by simp only [pval]; omega
  | p :: ps, n :: ns, s, h => by
    simp only [pval]
    split
    · exact h n List.mem_cons_self
    · exact pval_bound hB fun m hm => h m (List.mem_cons_of_mem _ hm)

/-- what a level is worth -/
def Lev.worth (σ : ByteArray → Int) : Lev → Int
  | .zero => 0
  | .succ a => a.worth σ + 1
  | .max a b => Max.max (a.worth σ) (b.worth σ)
  | .imax a b => if b.worth σ = 0 then 0 else Max.max (a.worth σ) (b.worth σ)
  | .param s => σ s
theorem Lev.worth_bound {σ : ByteArray → Int} {B : Int} (hB : 0 ≤ B) (hσ : ∀ s, -B ≤ σ s ∧ σ s ≤ B) : ∀ l : Lev, -B ≤ l.worth σ ∧ l.worth σ ≤ B + l.size
  | .zero => by simp only [Lev.worth, Lev.size]; omega
  | .succ a => by have := a.worth_bound hB hσ; simp only [Lev.worth, Lev.size]; omega
  | .max a b => by have := a.worth_bound hB hσ; have := b.worth_bound hB hσ; simp only [Lev.worth, Lev.size]; omega
  | .imax a b => by have := a.worth_bound hB hσ; have := b.worth_bound hB hσ; simp only [Lev.worth, Lev.size]; split <;> omega
  | .param s => by have := hσ s; simp only [Lev.worth, Lev.size]; omega

theorem Lev.lvl (l : Lev) : ∃ k s args, l.toLvl = .mk k s args := by cases h : l.toLvl; exact ⟨_, _, _, rfl⟩

/-- the reference's values of a parameter -/
def third (big : Int) (r : Nat) : Int := if r % 3 = 0 then 0 else if r % 3 = 1 then 1 else big
def digs (big : Int) (k n : Nat) : List Int := (List.range n).map fun j => third big (k / 3 ^ j)
theorem digs_succ (big : Int) (k n : Nat) : digs big k (n + 1) = digs big k n ++ [third big (k / 3 ^ n)] := by simp [digs, List.range_succ]
theorem digs_len (big : Int) (k n : Nat) : (digs big k n).length = n := by simp [digs]
theorem third_get (big : Int) (r : Nat) : [Value.int .i64 0, .int .i64 1, .int .i64 big][r % 3]? = some (.int .i64 (third big r)) := by
  have : r % 3 < 3 := Nat.mod_lt _ (by omega)
  unfold third
  rcases (show r % 3 = 0 ∨ r % 3 = 1 ∨ r % 3 = 2 by omega) with h | h | h <;> simp [h]
theorem third_bound {big : Int} (h0 : 0 ≤ big) (h1 : big ≤ 1099511627776) (r : Nat) : -1099511627776 ≤ third big r ∧ third big r ≤ 1099511627776 := by
  unfold third; split
  · omega
  · split <;> omega
def Lev.ps (a b : Lev) : List ByteArray := b.params (a.params [])
def Lev.big (a b : Lev) : Int := 2 + a.succs + b.succs
def refAt (a b : Lev) (k : Nat) : Prop := a.worth (pval (a.ps b) (digs (a.big b) k (a.ps b).length)) ≤ b.worth (pval (a.ps b) (digs (a.big b) k (a.ps b).length))
instance (a b : Lev) (k : Nat) : Decidable (refAt a b k) := by unfold refAt; infer_instance
/-- the reference's 'Leq' -/
def refLeq (a b : Lev) : Bool := decide (∀ k, k < 3 ^ (a.ps b).length → refAt a b k)

/-! the reference's reader -/
def nameB (c : Int) (first : Bool) : Bool := decide ((97 ≤ c ∧ c ≤ 122) ∨ (65 ≤ c ∧ c ≤ 90) ∨ c = 95 ∨ (first = false ∧ ((48 ≤ c ∧ c ≤ 57) ∨ c = 46 ∨ c = 39)))
def isNameB (t : ByteArray) : Bool := decide (t ≠ .empty) && nameB (byteAt t 0) true
theorem size_pos_of_ne {t : ByteArray} (h : t ≠ .empty) : 0 < t.size := by
  rcases Nat.eq_zero_or_pos t.size with h0 | h0
  · refine absurd ?_ h
    apply ByteArray.ext
    exact Array.eq_empty_of_size_eq_zero h0
  · exact h0
/-- the end of a row of bytes of a sort -/
def spanB (f : Int → Bool) (s : ByteArray) (p : Nat) : Nat := if h : p < s.size ∧ f (byteAt s p) = true then spanB f s (p + 1) else p
termination_by s.size - p
decreasing_by omega
def wsB (c : Int) : Bool := decide (c = 32 ∨ c = 9 ∨ c = 10)
def digB (c : Int) : Bool := decide (48 ≤ c ∧ c ≤ 57)
/-- the reference's 'token': its text, its place, whether it is one -/
def tokR (s : ByteArray) (p0 : Nat) : ByteArray × Nat × Bool :=
  let p := spanB wsB s p0
  if p = s.size then (.empty, p, true) else
  let c := byteAt s p
  if c = 40 ∨ c = 41 then (s.extract p (p + 1), p, true) else
  if nameB c true then
    let q := spanB (nameB · false) s (p + 1)
    if q - p > 40 then (.empty, p, false) else (s.extract p q, p, true)
  else if c = 35 ∨ digB c then
    let q := spanB digB s (p + 1)
    let d := if c = 35 then p + 1 else p
    if q = d ∨ q - d > 5 ∨ (q - d > 1 ∧ byteAt s d = 48) then (.empty, p, false) else (s.extract p q, p, true)
  else (.empty, p, false)
theorem spanB_le (f : Int → Bool) (s : ByteArray) (p : Nat) (h : p ≤ s.size) : p ≤ spanB f s p ∧ spanB f s p ≤ s.size := by
  rw [spanB]
  split
  · rename_i h1
    have := spanB_le f s (p + 1) (by omega)
    omega
  · omega
termination_by s.size - p
theorem spanB_step {f : Int → Bool} {s : ByteArray} {p : Nat} (h : p < s.size) (hf : f (byteAt s p) = true) : spanB f s p = spanB f s (p + 1) := by
  rw [spanB]; simp [h, hf]
theorem spanB_end {f : Int → Bool} {s : ByteArray} {p : Nat} (h : ¬ (p < s.size ∧ f (byteAt s p) = true)) : spanB f s p = p := by
  rw [spanB]; simp only [h]; rfl

/-! what the reference's other functions compute -/
mutual
/-- the reference's 'SubstLevel' -/
def Lvl.subst (ps : List ByteArray) (ls : List Lvl) : Lvl → Lvl
  | .mk k s args => if k = 4 then (match ps.findIdx? (· = s) with | some i => ls.getD i (.mk k s args) | none => .mk k s args) else .mk k s (substL ps ls args)
def substL (ps : List ByteArray) (ls : List Lvl) : List Lvl → List Lvl
  | [] => []
  | l :: r => l.subst ps ls :: substL ps ls r
end
theorem substL_len (ps : List ByteArray) (ls : List Lvl) : ∀ a : List Lvl, (substL ps ls a).length = a.length
  | [] => rfl
  | l :: r => by simp [substL, substL_len ps ls r]
theorem substL_app (ps : List ByteArray) (ls : List Lvl) : ∀ a b : List Lvl, substL ps ls (a ++ b) = substL ps ls a ++ substL ps ls b
  | [], b => rfl
  | l :: r, b => by simp [substL, substL_app ps ls r b]
theorem substL_take {ps : List ByteArray} {ls a : List Lvl} {i : Nat} {x : Lvl} (h : a[i]? = some x) : substL ps ls (a.take (i + 1)) = substL ps ls (a.take i) ++ [x.subst ps ls] := by
  rw [List.take_add_one, h, substL_app]; rfl
theorem findIdx_some {ps : List ByteArray} {s : ByteArray} {i : Nat} (h : i < ps.length) (h1 : s ∉ ps.take i) (h2 : ps[i] = s) : ps.findIdx? (· = s) = some i := by
  rw [List.findIdx?_eq_some_iff_getElem]
  refine ⟨h, by simpa using h2, fun j hj => ?_⟩
  simp only [decide_eq_true_eq]
  intro e
  exact h1 (List.mem_iff_getElem.2 ⟨j, by simp; omega, by simpa using e⟩)
theorem findIdx_none {ps : List ByteArray} {s : ByteArray} (h : s ∉ ps) : ps.findIdx? (· = s) = none := by
  rw [List.findIdx?_eq_none_iff]
  intro x hx
  simp only [decide_eq_false_iff_not]
  intro e; subst e; exact h hx

/-- the reference's 'PrintLevel' -/
def Lev.print : Lev → ByteArray
  | .zero => ⟨#[48]⟩
  | .succ a => ⟨#[40, 115, 32]⟩ ++ a.print ++ ⟨#[41]⟩
  | .max a b => ⟨#[40]⟩ ++ ⟨#[109, 97, 120]⟩ ++ ⟨#[32]⟩ ++ a.print ++ ⟨#[32]⟩ ++ b.print ++ ⟨#[41]⟩
  | .imax a b => ⟨#[40]⟩ ++ ⟨#[105, 109, 97, 120]⟩ ++ ⟨#[32]⟩ ++ a.print ++ ⟨#[32]⟩ ++ b.print ++ ⟨#[41]⟩
  | .param s => s
theorem size_mk (a : Array UInt8) : (ByteArray.mk a).size = a.size := rfl
/-- the bytes of a level's names, and ten for each of its parts -/
def Lev.weight : Lev → Nat
  | .zero => 10
  | .succ a => 10 + a.weight
  | .max a b => 10 + a.weight + b.weight
  | .imax a b => 10 + a.weight + b.weight
  | .param s => 10 + s.size
theorem Lev.size_le_weight : ∀ l : Lev, l.size ≤ l.weight
  | .zero => by simp [Lev.size, Lev.weight]
  | .succ a => by have := a.size_le_weight; simp [Lev.size, Lev.weight]; omega
  | .max a b => by have := a.size_le_weight; have := b.size_le_weight; simp [Lev.size, Lev.weight]; omega
  | .imax a b => by have := a.size_le_weight; have := b.size_le_weight; simp [Lev.size, Lev.weight]; omega
  | .param s => by simp [Lev.size, Lev.weight]; omega
theorem Lev.print_size : ∀ l : Lev, l.print.size ≤ l.weight
  | .zero => by decide
  | .succ a => by
    have := a.print_size
    simp only [Lev.print, Lev.weight, ByteArray.size_append, size_mk, List.size_toArray, List.length_cons, List.length_nil]; omega
  | .max a b => by
    have := a.print_size
    have := b.print_size
    simp only [Lev.print, Lev.weight, ByteArray.size_append, size_mk, List.size_toArray, List.length_cons, List.length_nil]; omega
  | .imax a b => by
    have := a.print_size
    have := b.print_size
    simp only [Lev.print, Lev.weight, ByteArray.size_append, size_mk, List.size_toArray, List.length_cons, List.length_nil]; omega
  | .param s => by simp only [Lev.print, Lev.weight]; omega
mutual
def fitP : Lvl → Prop
  | .mk k s args => 0 ≤ k ∧ k ≤ 4 ∧ (k = 4 → s ≠ .empty) ∧ fitL args
def fitL : List Lvl → Prop
  | [] => True
  | l :: r => fitP l ∧ fitL r
end
end Go.Vd
