/-
  What is proved here: lemmas of part 3, for the theorem of the last part.
-/
import Derived.Test.YtndbnldjidciiaaGreatDoorP2
set_option linter.unusedSimpArgs false
set_option linter.unusedVariables false
set_option linter.unusedSectionVars false
namespace Go.Vd
open Go Go.RowKit
inductive dp where
 | mk (kind : Int) (name : ByteArray) (params : List ByteArray) (ty val : ae) (arity : Int) (ctors : List (ByteArray × ae))
def gV (l : List (ByteArray × ae)) : List (List D) := l.map fun c => .v (.string c.1) :: c.2.cells
def dp.cells : dp → List D
 | .mk k s ps t v a cs => .v (.int .i64 k) :: .v (.string s) :: .sl 1 (strs ps) :: (t.cells ++ (v.cells ++ [.v (.int .i64 a), .sl 6 (gV cs)]))
def dp.d (x : dp) : D := .agg x.cells
def iV (l : List dp) : List (List D) := l.map dp.cells
theorem dp.case (x : dp) : ∃ k s ps k1 n1 s1 l1 a1 k2 n2 s2 l2 a2 a cs, x = .mk k s ps (.mk k1 n1 s1 l1 a1) (.mk k2 n2 s2 l2 a2) a cs := by
 obtain ⟨k, s, ps, ⟨k1, n1, s1, l1, a1⟩, ⟨k2, n2, s2, l2, a2⟩, a, cs⟩ := x
 exact ⟨_, _, _, _, _, _, _, _, _, _, _, _, _, _, _, rfl⟩
theorem dp.Ak (k : Int) (s : ByteArray) (ps : List ByteArray) (k1 n1 : Int) (s1 : ByteArray) (l1 : List aJ) (a1 : List ae) (k2 n2 : Int) (s2 : ByteArray) (l2 : List aJ) (a2 : List ae) (a : Int) (cs : List (ByteArray × ae)) :
 (dp.mk k s ps (.mk k1 n1 s1 l1 a1) (.mk k2 n2 s2 l2 a2) a cs).cells = [.v (.int .i64 k), .v (.string s), .sl 1 (strs ps), .v (.int .i64 k1), .v (.int .i64 n1), .v (.string s1), .sl 3 (bF l1), .sl 5 (ba a1), .v (.int .i64 k2), .v (.int .i64 n2), .v (.string s2), .sl 3 (bF l2), .sl 5 (ba a2), .v (.int .i64 a), .sl 6 (gV cs)] := rfl
theorem gd (l : List (ByteArray × ae)) : (gV l).length = l.length := by simp [gV]
theorem oM (l : List dp) : (iV l).length = l.length := by simp [iV]
theorem FX (l m : List (ByteArray × ae)) : gV (l ++ m) = gV l ++ gV m := by simp [gV]
theorem Af (l m : List dp) : iV (l ++ m) = iV l ++ iV m := by simp [iV]
variable {i : Nat} {nm s : ByteArray}
theorem gW {l : List (ByteArray × ae)} {k n : Int} {ls : List aJ} {args : List ae} (h : l[i]? = some (nm, .mk k n s ls args)) : (gV l)[((i : Nat) : Int).toNat]? = some [.v (.string nm), .v (.int .i64 k), .v (.int .i64 n), .v (.string s), .sl 3 (bF ls), .sl 5 (ba args)] := by
 simp [gV, h, ae.cells]
variable {ps : List ByteArray} {a : Int}
theorem FV {l : List dp} {k : Int} {k1 n1 : Int} {s1 : ByteArray} {l1 : List aJ} {a1 : List ae} {k2 n2 : Int} {s2 : ByteArray} {l2 : List aJ} {a2 : List ae} {cs : List (ByteArray × ae)}
 (h : l[i]? = some (.mk k s ps (.mk k1 n1 s1 l1 a1) (.mk k2 n2 s2 l2 a2) a cs)) : (iV l)[((i : Nat) : Int).toNat]? = some [.v (.int .i64 k), .v (.string s), .sl 1 (strs ps), .v (.int .i64 k1), .v (.int .i64 n1), .v (.string s1), .sl 3 (bF l1), .sl 5 (ba a1), .v (.int .i64 k2), .v (.int .i64 n2), .v (.string s2), .sl 3 (bF l2), .sl 5 (ba a2), .v (.int .i64 a), .sl 6 (gV cs)] := by
 simp [iV, h, dp.Ak]
theorem kn {l : List (ByteArray × ae)} (h : i < l.length) : ∃ nm k n s ls args, l[i]? = some (nm, .mk k n s ls args) := by
 have : l[i]? = some l[i] := by simp [h]
 rw [this]
 obtain ⟨nm, ⟨k, n, s, ls, args⟩⟩ := l[i]
 exact ⟨_, _, _, _, _, _, rfl⟩
def dg : Nat → ByteArray → RS → List ByteArray × RS
 | 0, _, r => ([], r)
 | n + 1, s, r =>
  if r.f = none ∧ jK s r ≠ ⟨#[41]⟩ then
   let a := ch s r
   let b := dg n s a.2
   (a.1 :: b.1, b.2)
  else ([], r)
def jl : ByteArray := ⟨#[99, 116, 111, 114]⟩
def dZ (s : ByteArray) (r : RS) : (ByteArray × ae) × RS :=
 let c := ch s (bT s jl (bT s ⟨#[40]⟩ r))
 let t := bH (s.size + 1) s c.2
 ((c.1, t.1), bT s ⟨#[41]⟩ t.2)
def dc : Nat → ByteArray → RS → List (ByteArray × ae) × RS
 | 0, _, r => ([], r)
 | n + 1, s, r =>
  if r.f = none ∧ jK s r = ⟨#[40]⟩ then
   let a := dZ s r
   let b := dc n s a.2
   (a.1 :: b.1, b.2)
  else ([], r)
def sO (w : ByteArray) : Nat :=
 if w = ⟨#[97, 120, 105, 111, 109]⟩ then 1 else if w = ⟨#[100, 101, 102]⟩ then 2 else if w = ⟨#[105, 110, 100, 117, 99, 116, 105, 118, 101]⟩ then 3 else 0
theorem Fj (w : ByteArray) : sO w ≤ 3 := by
 unfold sO; repeat' split
 all_goals omega
def oP (t : ByteArray × Nat × Bool) : Prop := t.1 ≠ .empty ∧ 48 ≤ aZ t.1 0 ∧ aZ t.1 0 ≤ 57 ∧ t.1.size ≤ 2
instance (t : ByteArray × Nat × Bool) : Decidable (oP t) := inferInstanceAs (Decidable (_ ∧ _))
def bz (s : ByteArray) (r : RS) : Nat × ByteArray × List ByteArray × RS :=
 let r1 := bT s ⟨#[40]⟩ r
 let k := sO (aO s r1.p).1
 if k = 0 then (0, .empty, [], r1.fail (aO s r1.p).2.1)
 else
  let nm := ch s (aF s r1).2
  let ps := dg (s.size + 2) s (bT s ⟨#[40]⟩ nm.2)
  (k, nm.1, ps.1, bT s ⟨#[41]⟩ ps.2)
def eY (s : ByteArray) (k : Nat) (r : RS) : Int × RS := if k = 3 then (jN (aO s r.p).1 (aO s r.p).1.size, (aF s r).2) else (0, r)
def pD (s : ByteArray) (k : Nat) (r : RS) : ae × RS := if k = 2 then bH (s.size + 1) s r else (aI, r)
def ky (s : ByteArray) (k : Nat) (r : RS) : List (ByteArray × ae) × RS := if k = 3 then dc (s.size + 2) s r else ([], r)
def gU (s : ByteArray) (k : Nat) (nm : ByteArray) (ps : List ByteArray) (a : Int) (r : RS) : dp × RS :=
 let t := bH (s.size + 1) s r
 let v := pD s k t.2
 let c := ky s k v.2
 (.mk k nm ps t.1 v.1 a c.1, bT s ⟨#[41]⟩ c.2)
def dI (s : ByteArray) (r : RS) : dp × RS :=
 let h := bz s r
 if h.1 = 0 then (.mk 0 .empty [] aI aI 0 [], h.2.2.2)
 else if h.1 = 3 ∧ ¬ oP (aO s h.2.2.2.p) then (.mk 3 h.2.1 h.2.2.1 aI aI 0 [], h.2.2.2.fail (aO s h.2.2.2.p).2.1)
 else gU s h.1 h.2.1 h.2.2.1 (eY s h.1 h.2.2.2).1 (eY s h.1 h.2.2.2).2
def atEnd (s : ByteArray) (r : RS) : Prop := (aO s r.p).2.2 = true ∧ (aO s r.p).1 = .empty
instance (s : ByteArray) (r : RS) : Decidable (atEnd s r) := inferInstanceAs (Decidable (_ ∧ _))
def eQ : Nat → ByteArray → RS → List dp × RS
 | 0, _, r => ([], r)
 | n + 1, s, r =>
  if r.f = none ∧ ¬ atEnd s r then
   let a := dI s r
   let b := eQ n s a.2
   (a.1 :: b.1, b.2)
  else ([], r)
def eu (s : ByteArray) : List dp × Int × Int :=
 match (eQ (s.size + 2) s ⟨0, none⟩).2.f with
 | none => ((eQ (s.size + 2) s ⟨0, none⟩).1, 0, 0)
 | some a => ([], 1, a)
def eW (s : ByteArray) : List dp × Int × Int := if s.size > 200000 then ([], 2, 0) else eu s
theorem wP : ∀ (n : Nat) {r : RS}, r.p ≤ s.size → r.p ≤ (dg n s r).2.p ∧ (dg n s r).2.p ≤ s.size := by
 intro n
 induction n with
 | zero => intro r hp; exact ⟨Nat.le_refl _, hp⟩
 | succ n ih =>
  intro r hp
  simp only [dg]
  split
  ·have h1 := dH (s := s) hp
   have h2 := ih h1.2
   exact ⟨Nat.le_trans h1.1 h2.1, h2.2⟩
  ·exact ⟨Nat.le_refl _, hp⟩
variable {r : RS}
theorem qN (hp : r.p ≤ s.size) : r.p ≤ (dZ s r).2.p ∧ (dZ s r).2.p ≤ s.size := by
 have h1 := bO (s := s) (w := ⟨#[40]⟩) hp
 have h2 := bO (s := s) (w := jl) h1.2
 have h3 := dH (s := s) h2.2
 have h4 := dG (s := s) (s.size + 1) _ h3.2
 have h5 := bO (s := s) (w := ⟨#[41]⟩) h4.2
 unfold dZ
 exact ⟨Nat.le_trans h1.1 (Nat.le_trans h2.1 (Nat.le_trans h3.1 (Nat.le_trans h4.1 h5.1))), h5.2⟩
theorem xh : ∀ (n : Nat) {r : RS}, r.p ≤ s.size → r.p ≤ (dc n s r).2.p ∧ (dc n s r).2.p ≤ s.size := by
 intro n
 induction n with
 | zero => intro r hp; exact ⟨Nat.le_refl _, hp⟩
 | succ n ih =>
  intro r hp
  simp only [dc]
  split
  ·have h1 := qN (s := s) hp
   have h2 := ih h1.2
   exact ⟨Nat.le_trans h1.1 h2.1, h2.2⟩
  ·exact ⟨Nat.le_refl _, hp⟩
theorem kj (hp : r.p ≤ s.size) : r.p ≤ (bz s r).2.2.2.p ∧ (bz s r).2.2.2.p ≤ s.size := by
 have h1 := bO (s := s) (w := ⟨#[40]⟩) hp
 have h2 := cy (s := s) h1.2
 have h3 := dH (s := s) h2.2
 have h4 := bO (s := s) (w := ⟨#[40]⟩) h3.2
 have h5 := wP (s := s) (s.size + 2) h4.2
 have h6 := bO (s := s) (w := ⟨#[41]⟩) h5.2
 unfold bz
 dsimp only
 split
 ·rw [RS.gm]; exact h1
 ·exact ⟨Nat.le_trans h1.1 (Nat.le_trans h2.1 (Nat.le_trans h3.1 (Nat.le_trans h4.1 (Nat.le_trans h5.1 h6.1)))), h6.2⟩
variable {k : Nat}
theorem mJ (hp : r.p ≤ s.size) : r.p ≤ (eY s k r).2.p ∧ (eY s k r).2.p ≤ s.size := by
 have h2 := cy (s := s) hp
 unfold eY
 split
 ·exact h2
 ·exact ⟨Nat.le_refl _, hp⟩
theorem tt (hp : r.p ≤ s.size) : r.p ≤ (pD s k r).2.p ∧ (pD s k r).2.p ≤ s.size := by
 have h2 := dG (s := s) (s.size + 1) r hp
 unfold pD
 split
 ·exact h2
 ·exact ⟨Nat.le_refl _, hp⟩
theorem F0 (hp : r.p ≤ s.size) : r.p ≤ (ky s k r).2.p ∧ (ky s k r).2.p ≤ s.size := by
 have h2 := xh (s := s) (s.size + 2) hp
 unfold ky
 split
 ·exact h2
 ·exact ⟨Nat.le_refl _, hp⟩
theorem ta (hp : r.p ≤ s.size) : r.p ≤ (gU s k nm ps a r).2.p ∧ (gU s k nm ps a r).2.p ≤ s.size := by
 have h1 := dG (s := s) (s.size + 1) r hp
 have h2 := tt (s := s) (k := k) h1.2
 have h3 := F0 (s := s) (k := k) h2.2
 have h4 := bO (s := s) (w := ⟨#[41]⟩) h3.2
 unfold gU
 exact ⟨Nat.le_trans h1.1 (Nat.le_trans h2.1 (Nat.le_trans h3.1 h4.1)), h4.2⟩
theorem vf (hp : r.p ≤ s.size) : r.p ≤ (dI s r).2.p ∧ (dI s r).2.p ≤ s.size := by
 have h1 := kj (s := s) hp
 unfold dI
 dsimp only
 split
 ·exact h1
 ·split
  ·rw [RS.gm]; exact h1
  ·have h2 := mJ (s := s) (k := (bz s r).1) h1.2
   have h3 := ta (s := s) (k := (bz s r).1) (nm := (bz s r).2.1) (ps := (bz s r).2.2.1) (a := (eY s (bz s r).1 (bz s r).2.2.2).1) h2.2
   exact ⟨Nat.le_trans h1.1 (Nat.le_trans h2.1 h3.1), h3.2⟩
theorem iH (r : RS) (x : Nat) : (r.fail x).f ≠ none := by obtain ⟨a, f⟩ := r; cases f <;> simp [RS.fail]
variable {w : ByteArray}
theorem ir (h : (bT s w r).f = none) : r.f = none := by
 obtain ⟨p, f⟩ := r
 unfold bT at h
 dsimp only at h
 split at h
 ·exact absurd h (iH _ _)
 ·cases f with
  | none => rfl
  | some a => cases h
theorem Fc (h : (aF s r).2.f = none) : r.f = none := by
 obtain ⟨p, f⟩ := r
 unfold aF at h
 dsimp only at h
 split at h
 ·exact absurd h (iH _ _)
 ·cases f with
  | none => rfl
  | some a => cases h
theorem xN (h : (ch s r).2.f = none) : r.f = none := by
 obtain ⟨p, f⟩ := r
 unfold ch at h
 dsimp only at h
 split at h
 ·exact absurd h (iH _ _)
 ·cases f with
  | none => rfl
  | some a => cases h
theorem pJ {n : Nat} (h : (bH n s r).2.f = none) : r.f = none := by
 obtain ⟨p, f⟩ := r
 cases f with
 | none => rfl
 | some a => cases n <;> cases h
theorem tA {s : ByteArray} : ∀ {n : Nat} {r : RS}, (dg n s r).2.f = none → r.f = none
 | 0, r, h => h
 | n + 1, r, h => by
  simp only [dg] at h
  split at h
  ·exact xN (tA h)
  ·exact h
theorem Jq (h : (dZ s r).2.f = none) : r.f = none := ir (ir (xN (pJ (ir h))))
theorem yk {s : ByteArray} : ∀ {n : Nat} {r : RS}, (dc n s r).2.f = none → r.f = none
 | 0, r, h => h
 | n + 1, r, h => by
  simp only [dc] at h
  split at h
  ·exact Jq (yk h)
  ·exact h
theorem Fs (h : (bz s r).2.2.2.f = none) : (bT s ⟨#[40]⟩ r).f = none := by
 unfold bz at h
 dsimp only at h
 split at h
 ·exact absurd h (iH _ _)
 ·exact Fc (xN (ir (tA (ir h))))
theorem C4 (h : (eY s k r).2.f = none) : r.f = none := by
 unfold eY at h
 split at h
 ·exact Fc h
 ·exact h
theorem HH (h : (pD s k r).2.f = none) : r.f = none := by
 unfold pD at h
 split at h
 ·exact pJ h
 ·exact h
theorem FZ (h : (ky s k r).2.f = none) : r.f = none := by
 unfold ky at h
 split at h
 ·exact yk h
 ·exact h
theorem ED (h : (gU s k nm ps a r).2.f = none) : r.f = none :=
 pJ (HH (FZ (ir h)))
theorem Jp (h : (dI s r).2.f = none) : (bT s ⟨#[40]⟩ r).f = none := by
 unfold dI at h
 dsimp only at h
 split at h
 ·exact Fs h
 ·split at h
  ·exact absurd h (iH _ _)
  ·exact Fs (C4 (ED h))
theorem wg (hw : w ≠ .empty) (hp : r.p ≤ s.size) (h : (bT s w r).f = none) : r.p < (bT s w r).p := by
 have hat := eG (s := s) hp
 obtain ⟨p, f⟩ := r
 unfold bT at h ⊢
 dsimp only at h ⊢
 split at h
 ·exact absurd h (iH _ _)
 ·rename_i hn
  rw [if_neg hn]
  cases f with
  | none =>
   have : (aO s p).1 = w := Classical.byContradiction fun e => hn (.inr e)
   have h2 : 0 < (aO s p).1.size := by
    rcases Nat.eq_zero_or_pos (aO s p).1.size with h3 | h3
    ·exact absurd (this ▸ ByteArray.size_eq_zero_iff.1 h3) hw
    ·exact h3
   simp only at hat ⊢; omega
  | some a => cases h
theorem Dw (hp : r.p ≤ s.size) (h : (ch s r).2.f = none) : r.p < (ch s r).2.p := by
 have hat := eG (s := s) hp
 obtain ⟨p, f⟩ := r
 unfold ch at h ⊢
 dsimp only at h ⊢
 split at h
 ·exact absurd h (iH _ _)
 ·rename_i hn
  rw [if_neg hn]
  cases f with
  | none =>
   have h2 : 0 < (aO s p).1.size := by
    rcases Nat.eq_zero_or_pos (aO s p).1.size with h3 | h3
    ·exfalso; apply hn; right; rw [ByteArray.size_eq_zero_iff.1 h3]; rfl
    ·exact h3
   simp only at hat ⊢; omega
  | some a => cases h
theorem D6 (hp : r.p ≤ s.size) (h : (dZ s r).2.f = none) : r.p < (dZ s r).2.p := by
 have h1 := wg (w := ⟨#[40]⟩) (by decide) hp (ir (xN (pJ (ir h))))
 have h0 := bO (s := s) (w := ⟨#[40]⟩) hp
 have h2 := bO (s := s) (w := jl) h0.2
 have h3 := dH (s := s) h2.2
 have h4 := dG (s := s) (s.size + 1) _ h3.2
 have h5 := bO (s := s) (w := ⟨#[41]⟩) h4.2
 have : (dZ s r).2 = bT s ⟨#[41]⟩ (bH (s.size + 1) s (ch s (bT s jl (bT s ⟨#[40]⟩ r))).2).2 := rfl
 rw [this]; omega
theorem DZ (hp : r.p ≤ s.size) (h : (dI s r).2.f = none) : r.p < (dI s r).2.p := by
 have h1 := wg (w := ⟨#[40]⟩) (by decide) hp (Jp h)
 have h2 := bO (s := s) (w := ⟨#[40]⟩) hp
 have key : (bT s ⟨#[40]⟩ r).p ≤ (bz s r).2.2.2.p := by
  have h3 := cy (s := s) h2.2
  have h4 := dH (s := s) h3.2
  have h5 := bO (s := s) (w := ⟨#[40]⟩) h4.2
  have h6 := wP (s := s) (s.size + 2) h5.2
  have h7 := bO (s := s) (w := ⟨#[41]⟩) h6.2
  unfold bz
  dsimp only
  split
  ·rw [RS.gm]; exact Nat.le_refl _
  ·exact Nat.le_trans h3.1 (Nat.le_trans h4.1 (Nat.le_trans h5.1 (Nat.le_trans h6.1 h7.1)))
 have h8 := kj (s := s) hp
 have h9 : (bz s r).2.2.2.p ≤ (dI s r).2.p := by
  unfold dI
  dsimp only
  split
  ·exact Nat.le_refl _
  ·split
   ·rw [RS.gm]; exact Nat.le_refl _
   ·have h2 := mJ (s := s) (k := (bz s r).1) h8.2
    have h3 := ta (s := s) (k := (bz s r).1) (nm := (bz s r).2.1) (ps := (bz s r).2.2.1) (a := (eY s (bz s r).1 (bz s r).2.2.2).1) h2.2
    exact Nat.le_trans h2.1 h3.1
 omega
variable {m : Nat}
theorem Bd (h : ¬ (r.f = none ∧ ¬ jK s r = ⟨#[41]⟩)) : dg m s r = ([], r) := by
 cases m with
 | zero => rfl
 | succ m => simp only [dg]; rw [if_neg h]
variable {r0 r' : RS}
theorem Be {acc : List ByteArray} {x : ByteArray} (hinv : r'.p ≤ s.size ∧ acc.length + m = s.size + 2 ∧ (r'.f = none → s.size - r'.p < m) ∧ dg (s.size + 2) s r0 = (acc ++ (dg m s r').1, (dg m s r').2))
 (h : r'.f = none ∧ ¬ jK s r' = ⟨#[41]⟩) (hX : (ch s r').1 = x) :
 (ch s r').2.p ≤ s.size ∧ (acc ++ [x]).length + (m - 1) = s.size + 2 ∧ ((ch s r').2.f = none → s.size - (ch s r').2.p < m - 1) ∧
  dg (s.size + 2) s r0 = (acc ++ [x] ++ (dg (m - 1) s (ch s r').2).1, (dg (m - 1) s (ch s r').2).2) := by
 obtain ⟨h1, h2, h3, h4⟩ := hinv
 have hm := h3 h.1
 obtain ⟨m, rfl⟩ : ∃ k, m = k + 1 := ⟨m - 1, by omega⟩
 have hle := dH (s := s) h1
 refine ⟨hle.2, by simp; omega, fun hf => by have := Dw h1 hf; omega, ?_⟩
 rw [h4]
 simp only [dg]
 rw [if_pos h, ← hX]
 simp
theorem BL (h : ¬ (r.f = none ∧ jK s r = ⟨#[40]⟩)) : dc m s r = ([], r) := by
 cases m with
 | zero => rfl
 | succ m => simp only [dc]; rw [if_neg h]
theorem BM {acc : List (ByteArray × ae)} {x : ByteArray × ae} (hinv : r'.p ≤ s.size ∧ acc.length + m = s.size + 2 ∧ (r'.f = none → s.size - r'.p < m) ∧ dc (s.size + 2) s r0 = (acc ++ (dc m s r').1, (dc m s r').2))
 (h : r'.f = none ∧ jK s r' = ⟨#[40]⟩) (hX : (dZ s r').1 = x) :
 (dZ s r').2.p ≤ s.size ∧ (acc ++ [x]).length + (m - 1) = s.size + 2 ∧ ((dZ s r').2.f = none → s.size - (dZ s r').2.p < m - 1) ∧
  dc (s.size + 2) s r0 = (acc ++ [x] ++ (dc (m - 1) s (dZ s r').2).1, (dc (m - 1) s (dZ s r').2).2) := by
 obtain ⟨h1, h2, h3, h4⟩ := hinv
 have hm := h3 h.1
 obtain ⟨m, rfl⟩ : ∃ k, m = k + 1 := ⟨m - 1, by omega⟩
 have hle := qN (s := s) h1
 refine ⟨hle.2, by simp; omega, fun hf => by have := D6 h1 hf; omega, ?_⟩
 rw [h4]
 simp only [dc]
 rw [if_pos h, ← hX]
 simp
theorem rD (h : ¬ (r.f = none ∧ ¬ atEnd s r)) : eQ m s r = ([], r) := by
 cases m with
 | zero => rfl
 | succ m => simp only [eQ]; rw [if_neg h]
theorem DQ {acc : List dp} {x : dp} (hinv : r'.p ≤ s.size ∧ acc.length + m = s.size + 2 ∧ (r'.f = none → s.size - r'.p < m) ∧ eQ (s.size + 2) s r0 = (acc ++ (eQ m s r').1, (eQ m s r').2))
 (h : r'.f = none ∧ ¬ atEnd s r') (hX : (dI s r').1 = x) :
 (dI s r').2.p ≤ s.size ∧ (acc ++ [x]).length + (m - 1) = s.size + 2 ∧ ((dI s r').2.f = none → s.size - (dI s r').2.p < m - 1) ∧
  eQ (s.size + 2) s r0 = (acc ++ [x] ++ (eQ (m - 1) s (dI s r').2).1, (eQ (m - 1) s (dI s r').2).2) := by
 obtain ⟨h1, h2, h3, h4⟩ := hinv
 have hm := h3 h.1
 obtain ⟨m, rfl⟩ : ∃ k, m = k + 1 := ⟨m - 1, by omega⟩
 have hle := vf (s := s) h1
 refine ⟨hle.2, by simp; omega, fun hf => by have := DZ h1 hf; omega, ?_⟩
 rw [h4]
 simp only [eQ]
 rw [if_pos h, ← hX]
 simp
end Go.Vd
namespace Go.Proofs.YtndbnldjidciiaaGreatDoor
open Go Go.Vd Go.RowKit
attribute [local irreducible] bl br de aj bI
variable {gl : Nat → List D}
theorem rh (s : ByteArray) (r : RS) (hs : s.size ≤ 1099511627776) (hp : r.p ≤ s.size) :
 ey Tryz.prog gl 93 [gx s r] [.bZ 0 0] fun out ob' => out = .ret (.d (.v (.string (jK s r)))) ∧ ob' = [gx s r] := by
 obtain ⟨p, f⟩ := r
 simp only at hp
 cases f with
 | none =>
  refine bS Tryz.func93 Tryz.ntmps93 1 ?_;refine gc 8 ?_;refine oc (ck nS rfl rfl (cE s p (bg none) (dJ none) hs hp) [0] rfl (bh .nil) (an .nil) ?_);refine ko 10 [5, 3, 0] 5 ?_
  apply kS (yt := 20) (d := 14) 6 rfl rfl rfl (.none rfl) rfl rfl
  case h1 =>
   intro hb4 hK
   have hc := hb4; (try simp only [dh, Int.reduceEq, Int.reduceNe, Int.reduceLT, Int.reduceLE, bg, dJ] at hc)
   refine ml ?_ (hbw := by exact hb4);refine go 1 ?_;refine ml ?_ (hbw := by exact hb4);refine go 1 ?_;refine ml ?_ (hbw := by exact hb4);refine go 1 ?_;refine ml ?_ (hbw := by exact hb4);refine go 1 ?_;refine ml ?_ (hbw := by exact hb4);refine go 1 ?_;refine ml ?_ (hbw := by exact hb4);refine go 1 ?_; exact hK [_, _, _, _, _, _] rfl rfl
  case h2 =>
   intro hb4 hK; refine ln ?_ (hbw := by exact hb4);refine ln ?_ (hbw := by exact hb4);refine ln ?_ (hbw := by exact hb4);refine ln ?_ (hbw := by exact hb4);refine ln ?_ (hbw := by exact hb4);refine ln ?_ (hbw := by exact hb4)
   exact hK [_, _, _, _, _, _] rfl
  refine go 2 ?_;refine cd (fun h2 => ?_) (fun h2 => ?_)
  ·(try simp only [dh, Int.reduceEq, Int.reduceNe, Int.reduceLT, Int.reduceLE, bg, dJ] at h2)
   refine kc 0 [] 7 ?_;refine qI [0] [gx s ⟨p, none⟩] ?_
   ·refine ⟨?_, rfl⟩; unfold jK; dsimp only; rw [if_pos (by simp_all)]; rfl
  (try simp only [dh, Int.reduceEq, Int.reduceNe, Int.reduceLT, Int.reduceLE, bg, dJ] at h2); refine kc 2 [3] 7 ?_;refine qI [0] [gx s ⟨p, none⟩] ?_
  ·refine ⟨?_, rfl⟩; unfold jK; dsimp only; rw [if_neg (by simp_all)]
 | some a =>
  refine bS Tryz.func93 Tryz.ntmps93 1 ?_;refine gc 8 ?_;refine oc (ck nS rfl rfl (cE s p (bg (some a)) (dJ (some a)) hs hp) [0] rfl (bh .nil) (an .nil) ?_);refine ko 10 [5, 3, 0] 5 ?_
  apply kS (yt := 20) (d := 14) 6 rfl rfl rfl (.none rfl) rfl rfl
  case h1 =>
   intro hb4 hK
   have hc := hb4; (try simp only [dh, Int.reduceEq, Int.reduceNe, Int.reduceLT, Int.reduceLE, bg, dJ] at hc)
   refine ml ?_ (hbw := by exact hb4);refine go 1 ?_;refine ml ?_ (hbw := by exact hb4);refine go 1 ?_;refine ml ?_ (hbw := by exact hb4);refine go 1 ?_;refine ml ?_ (hbw := by exact hb4);refine go 1 ?_;refine ml ?_ (hbw := by exact hb4);refine go 1 ?_;refine ml ?_ (hbw := by exact hb4);refine go 1 ?_; exact hK [_, _, _, _, _, _] rfl rfl
  case h2 =>
   intro hb4 hK; refine ln ?_ (hbw := by exact hb4);refine ln ?_ (hbw := by exact hb4);refine ln ?_ (hbw := by exact hb4);refine ln ?_ (hbw := by exact hb4);refine ln ?_ (hbw := by exact hb4);refine ln ?_ (hbw := by exact hb4)
   exact hK [_, _, _, _, _, _] rfl
  refine go 2 ?_;refine vy (fun h2 => ?_) (fun h2 => ?_)
  ·simp only [dh, Int.reduceEq, Int.reduceNe, Int.reduceLT, Int.reduceLE, bg, dJ] at h2
  (try simp only [dh, Int.reduceEq, Int.reduceNe, Int.reduceLT, Int.reduceLE, bg, dJ] at h2); refine kc 0 [] 7 ?_;refine qI [0] [gx s ⟨p, some a⟩] ?_
  ·refine ⟨?_, rfl⟩; unfold jK; dsimp only; rw [if_pos (by simp)]; rfl
theorem o0 (s : ByteArray) (r : RS) (hs : s.size ≤ 1099511627776) (hp : r.p ≤ s.size) :
 ey Tryz.prog gl 92 [gx s r] [.bZ 0 0] fun out ob' => out = .ret (.d (.v (.string (ch s r).1))) ∧ ob' = [gx s (ch s r).2] := by
 have hat := eG (s := s) hp
 obtain ⟨p, f⟩ := r
 simp only at hat hp
 cases f with
 | none =>
  refine bS Tryz.func92 Tryz.ntmps92 1 ?_;refine gc 8 ?_;refine oc (ck nS rfl rfl (cE s p (bg none) (dJ none) hs hp) [0] rfl (bh .nil) (an .nil) ?_);refine ko 9 [5, 4, 3, 0] 3 ?_;refine oc (cv C3 rfl rfl (j8 (aO s p).1) (an .nil) ?_);refine go 9 ?_
  apply kS (yt := 19) (d := 17) 2 rfl rfl rfl (.none rfl) rfl rfl
  case h1 =>
   intro hb4 hK
   have hc := hb4; (try simp only [dh, Int.reduceEq, Int.reduceNe, Int.reduceLT, Int.reduceLE, bg, dJ, RS.fail] at hc)
   refine ml ?_ (hbw := by exact hb4);refine go 1 ?_;refine ml ?_ (hbw := by exact hb4);refine go 1 ?_; exact hK [_, _] rfl rfl
  case h2 =>
   intro hb4 hK; refine ln ?_ (hbw := by exact hb4);refine ln ?_ (hbw := by exact hb4); exact hK [_, _] rfl
  refine go 2 ?_;refine cd (fun h3 => ?_) (fun h3 => ?_)
  ·(try simp only [dh, Int.reduceEq, Int.reduceNe, Int.reduceLT, Int.reduceLE, bg, dJ, RS.fail] at h3)
   refine kc 0 [4, 3, 0] 3 ?_;refine oc (ck rJ rfl rfl (dS s (aO s p).2.1 ⟨p, none⟩) [0] rfl (bh .nil) (an (an .nil)) ?_);refine go 13 ?_;refine vy (fun h5 => ?_) (fun h5 => ?_)
   ·simp only [dh, Int.reduceEq, Int.reduceNe, Int.reduceLT, Int.reduceLE, bg, dJ, RS.fail] at h5
   (try simp only [dh, Int.reduceEq, Int.reduceNe, Int.reduceLT, Int.reduceLE, bg, dJ, RS.fail] at h5); refine kc 0 [] 7 ?_;refine qI [0] [gx s (RS.fail (aO s p).2.1 ⟨p, none⟩)] ?_
   ·unfold ch; simp only; rw [if_pos (by simp_all)]; exact ⟨rfl, rfl⟩
  (try simp only [dh, Int.reduceEq, Int.reduceNe, Int.reduceLT, Int.reduceLE, bg, dJ, RS.fail] at h3); refine kc 3 [4, 3, 0] 10 ?_;refine cd (fun h5 => ?_) (fun h5 => ?_)
  ·simp only [dh, Int.reduceEq, Int.reduceNe, Int.reduceLT, Int.reduceLE, bg, dJ, RS.fail] at h5
  (try simp only [dh, Int.reduceEq, Int.reduceNe, Int.reduceLT, Int.reduceLE, bg, dJ, RS.fail] at h5); refine kc 2 [4, 3, 0] 6 ?_;refine o1 (cw ?_);refine ko 5 [3] 7 ?_;refine qI [0] [gx s ⟨(aO s p).2.1 + (aO s p).1.size, none⟩] ?_
  ·unfold ch; simp only; rw [if_neg (by simp_all)]; exact ⟨rfl, rfl⟩
 | some a =>
  refine bS Tryz.func92 Tryz.ntmps92 1 ?_;refine gc 8 ?_;refine oc (ck nS rfl rfl (cE s p (bg (some a)) (dJ (some a)) hs hp) [0] rfl (bh .nil) (an .nil) ?_);refine ko 9 [5, 4, 3, 0] 3 ?_;refine oc (cv C3 rfl rfl (j8 (aO s p).1) (an .nil) ?_);refine go 9 ?_
  apply kS (yt := 19) (d := 17) 2 rfl rfl rfl (.none rfl) rfl rfl
  case h1 =>
   intro hb4 hK
   have hc := hb4; (try simp only [dh, Int.reduceEq, Int.reduceNe, Int.reduceLT, Int.reduceLE, bg, dJ, RS.fail] at hc)
   refine ml ?_ (hbw := by exact hb4);refine go 1 ?_;refine ml ?_ (hbw := by exact hb4);refine go 1 ?_; exact hK [_, _] rfl rfl
  case h2 =>
   intro hb4 hK; refine ln ?_ (hbw := by exact hb4);refine ln ?_ (hbw := by exact hb4); exact hK [_, _] rfl
  refine go 2 ?_;refine vy (fun h3 => ?_) (fun h3 => ?_)
  ·(try simp only [dh, Int.reduceEq, Int.reduceNe, Int.reduceLT, Int.reduceLE, bg, dJ, RS.fail] at h3)
   refine kc 3 [4, 3, 0] 10 ?_;refine vy (fun h5 => ?_) (fun h5 => ?_)
   ·simp only [dh, Int.reduceEq, Int.reduceNe, Int.reduceLT, Int.reduceLE, bg, dJ, RS.fail] at h5
   (try simp only [dh, Int.reduceEq, Int.reduceNe, Int.reduceLT, Int.reduceLE, bg, dJ, RS.fail] at h5); refine kc 0 [] 7 ?_;refine qI [0] [gx s ⟨p, some a⟩] ?_
   ·unfold ch; simp only; split <;> exact ⟨rfl, rfl⟩
  (try simp only [dh, Int.reduceEq, Int.reduceNe, Int.reduceLT, Int.reduceLE, bg, dJ, RS.fail] at h3); refine kc 0 [4, 3, 0] 3 ?_;refine oc (ck rJ rfl rfl (dS s (aO s p).2.1 ⟨p, some a⟩) [0] rfl (bh .nil) (an (an .nil)) ?_);refine go 13 ?_;refine vy (fun h5 => ?_) (fun h5 => ?_)
  ·simp only [dh, Int.reduceEq, Int.reduceNe, Int.reduceLT, Int.reduceLE, bg, dJ, RS.fail] at h5
  (try simp only [dh, Int.reduceEq, Int.reduceNe, Int.reduceLT, Int.reduceLE, bg, dJ, RS.fail] at h5); refine kc 0 [] 7 ?_;refine qI [0] [gx s ⟨p, some a⟩] ?_
  ·unfold ch; simp only; split <;> exact ⟨rfl, rfl⟩
theorem sF (t : ByteArray) (h5 : t.size ≤ 5) (hd : rL t) : cD Tryz.prog gl 90 [.v (.string t)] (· = .v (.int .i64 (jN t t.size))) := by
 refine bD Tryz.func90 Tryz.ntmps90 ?_;refine kc 17 [4, 3, 0] 0 ?_;refine lP (ι := Nat) (fun i => [(4, int i), (3, int (jN t i))]) [0] (fun i => i ≤ t.size) (fun i => t.size - i) (0) rfl ?I1 ?M1 ?H1
 case I1 =>
  exact Nat.zero_le _
 case M1 =>
  exact mz
 case H1 =>
  rintro i hinv
  try dsimp only at hinv
  refine kc 0 [4, 3, 0] 9 ?_;refine cJ (fun h3 => ?_) (fun h3 => ?_)
  ·refine kc 5 [3] 7 ?_;refine ez ?_
   have hi : i = t.size := by omega
   subst hi
   rfl
  refine kc 4 [4, 3, 0] 0 ?_
  have hdi := hd i (by omega)
  have hnb := ur hd i (by omega) (by omega)
  have hw : IntKind.wrap .i64 (GM (aZ t ((i : Nat) : Int).toNat) 48) = aZ t i - 48 := by rw [Int.toNat_natCast, AF hdi]; exact Au (by omega)
  refine gc 2 ?_;refine o1 (uZ rfl rfl rfl (by omega) ?_);refine go 2 ?_;refine o1 (BT rO ?_);refine o1 (G9 rfl rfl rfl ?_);refine o1 (CP LA LL rfl rfl ?_);refine o1 (cw ?_);refine ko 4 [3, 4, 0] 2 ?_;refine o1 (cw ?_);refine go 2 ?_
  rw [hw]
  refine bi (i + 1) rfl ?_ mz
  exact ⟨by omega, by omega⟩
end Go.Proofs.YtndbnldjidciiaaGreatDoor
namespace Go.Proofs.YtndbnldjidciiaaGreatDoor
open Go Go.Vd Go.RowKit
attribute [local irreducible] bl br de aj bI
def L7 (g : Nat → List D) : Nat → List D := g
def L8 (g : Nat → List D) : Nat → List D
 | 0 => [c6 eA]
 | n => g n
abbrev zJ (g : Nat → List D) : Nat → List D := L7 (L8 g)
variable {g : Nat → List D}
variable {s : ByteArray}
theorem size_pos (h : s ≠ .empty) : 0 < s.size := by
 rcases Nat.eq_zero_or_pos s.size with h1 | h1
 ·exact absurd (ByteArray.size_eq_zero_iff.1 h1) h
 ·exact h1
theorem cV : bg none = 0 := rfl
theorem du {f : Option Nat} : bg f = 0 ↔ f = none := by cases f <;> simp [bg]
variable {r : RS} {m : Nat}
theorem zw (h : ¬ (bg r.f = 0 ∧ ¬ jK s r = ⟨#[41]⟩)) : cG m s r = ([], r) := by
 cases m with
 | zero => rfl
 | succ m => simp only [cG]; rw [if_neg (by rw [du] at h; exact h)]
theorem uJ {n : Nat} (hp : r.p ≤ s.size) (h1 : r.f = none) (h2 : (bw (n + 1) s r).2.f = none) : r.p < (bw (n + 1) s r).2.p := by
 obtain ⟨p, f⟩ := r
 simp only at h1 hp
 subst h1
 have hf : ∀ (q : RS) (x : Nat), (q.fail x).f ≠ none := by rintro ⟨a, f⟩ x; cases f <;> simp [RS.fail]
 have hat := eG (s := s) hp
 have hnx : (aO s p).1 ≠ .empty → p < (aF s ⟨p, none⟩).2.p := fun h => by rw [gO h]; have := size_pos h; simp only; omega
 have hn1 := cy (s := s) (r := ⟨p, none⟩) hp
 have hn2 := cy (s := s) (r := (aF s ⟨p, none⟩).2) hn1.2
 have hl1 := dP (s := s) n (r := (aF s (aF s ⟨p, none⟩).2).2) hn2.2
 have hl2 := dP (s := s) n (r := (bw n s (aF s (aF s ⟨p, none⟩).2).2).2) hl1.2
 have ht1 := bO (s := s) (w := ⟨#[41]⟩) hl1.2
 have ht2 := bO (s := s) (w := ⟨#[41]⟩) hl2.2
 by_cases c0 : (aO s p).1 = ⟨#[48]⟩
 ·rw [j3 c0]; exact hnx (by rw [c0]; decide)
 cases c1 : db (aO s p).1 with
 | true =>
  rw [j4 c0 c1]
  exact hnx (by intro e; rw [e] at c1; simp [db] at c1)
 | false =>
  by_cases c2 : (aO s p).1 = ⟨#[40]⟩
  ·have h3 := hnx (by rw [c2]; decide)
   by_cases c3 : fU (aO s (aF s ⟨p, none⟩).2.p).1 = 0
   ·rw [j5 c0 c1 c2 c3] at h2; exact absurd h2 (hf _ _)
   ·by_cases c4 : fU (aO s (aF s ⟨p, none⟩).2.p).1 = 1
    ·rw [nB c0 c1 c2 c4]; simp only at h3 ⊢; omega
    ·rw [iC c0 c1 c2 c3 c4]; simp only at h3 ⊢; omega
  ·rw [j6 c0 c1 c2] at h2; exact absurd h2 (hf _ _)
theorem zx {r0 r' : RS} {acc : List aJ} {x : aJ} (hinv : r'.p ≤ s.size ∧ acc.length + m = s.size + 2 ∧ (r'.f = none → s.size - r'.p < m) ∧ cG (s.size + 2) s r0 = (acc ++ (cG m s r').1, (cG m s r').2))
 (h : bg r'.f = 0 ∧ ¬ jK s r' = ⟨#[41]⟩) (hX : (bw (s.size + 1) s r').1 = x) :
 (bw (s.size + 1) s r').2.p ≤ s.size ∧ (acc ++ [x]).length + (m - 1) = s.size + 2 ∧ ((bw (s.size + 1) s r').2.f = none → s.size - (bw (s.size + 1) s r').2.p < m - 1) ∧
  cG (s.size + 2) s r0 = (acc ++ [x] ++ (cG (m - 1) s (bw (s.size + 1) s r').2).1, (cG (m - 1) s (bw (s.size + 1) s r').2).2) := by
 rw [du] at h
 obtain ⟨h1, h2, h3, h4⟩ := hinv
 have hm := h3 h.1
 obtain ⟨m, rfl⟩ : ∃ k, m = k + 1 := ⟨m - 1, by omega⟩
 have hle := dP (s := s) (s.size + 1) h1
 refine ⟨hle.2, by simp; omega, fun hf => by have := uJ h1 h.1 hf; omega, ?_⟩
 rw [h4]
 simp only [cG]
 rw [if_pos h, ← hX]
 simp
theorem um (k : Nat) : partsOf k ≤ 3 := by unfold partsOf; split; omega; split <;> omega
theorem oV (s : ByteArray) (hs : s.size ≤ 1099511627776) : ∀ (n : Nat) (r : RS), r.p ≤ s.size → s.size - r.p < n →
 ey Tryz.prog (zJ g) 52 [gx s r] [.bZ 0 0] fun out ob' => out = .ret (.d (bH n s r).1.d) ∧ ob' = [gx s (bH n s r).2] := by
 intro n
 induction n with
 | zero => intro r _ h; omega
 | succ n ih =>
  intro r hp hn
  have hat := eG (s := s) hp
  obtain ⟨p, f⟩ := r
  simp only at hat hp hn
  cases f with
  | some a =>
   refine bS Tryz.func52 Tryz.ntmps52 1 ?_;refine gc 8 ?_;refine oc (ck nS rfl rfl (cE s p (bg (some a)) (dJ (some a)) hs hp) [0] rfl (bh .nil) (an .nil) ?_);refine ko 10 [5, 4, 3, 2, 0] 10 ?_;refine vy (fun h2 => ?_) (fun h2 => ?_)
   ·simp only [dh, Int.reduceEq, Int.reduceNe, Int.reduceLT, Int.reduceLE, bg, dJ] at h2
   (try simp only [dh, Int.reduceEq, Int.reduceNe, Int.reduceLT, Int.reduceLE, bg, dJ] at h2); refine kc 0 [2] 8 ?_;refine eo (aI.d) [0] [gx s ⟨p, some a⟩] ?_
   ·exact ⟨rfl, rfl⟩
  | none =>
   have hn1 := cy (s := s) (r := ⟨p, none⟩) hp
   have hn2 := cy (s := s) (r := (aF s ⟨p, none⟩).2) hn1.2
   have hpos := size_pos (s := (aO s p).1)
   have hash := yy (s := s) hp
   have hwl : (strs eA).length = 7 := rfl
   have hwl2 : eA.length = 7 := rfl
   refine bS Tryz.func52 Tryz.ntmps52 1 ?_;refine gc 8 ?_;refine oc (ck nS rfl rfl (cE s p (bg none) (dJ none) hs hp) [0] rfl (bh .nil) (an .nil) ?_);refine ko 10 [5, 4, 3, 2, 0] 10 ?_;refine cd (fun h2 => ?_) (fun h2 => ?_)
   ·simp only [dh, Int.reduceEq, Int.reduceNe, Int.reduceLT, Int.reduceLE, cV] at h2
   (try simp only [dh, Int.reduceEq, Int.reduceNe, Int.reduceLT, Int.reduceLE, cV] at h2); refine kc 3 [5, 4, 3, 2, 0] 5 ?_
   apply kS (yt := 31) (d := 29) 2 rfl rfl rfl (.none rfl) rfl rfl
   case h1 =>
    intro hb4 hK
    have hc := hb4; (try simp only [dh, Int.reduceEq, Int.reduceNe, Int.reduceLT, Int.reduceLE, cV] at hc)
    refine ml ?_ (hbw := by exact hb4);refine go 1 ?_;refine ml ?_ (hbw := by exact hb4);refine go 1 ?_; exact hK [_, _] rfl rfl
   case h2 =>
    intro hb4 hK; refine ln ?_ (hbw := by exact hb4);refine ln ?_ (hbw := by exact hb4); exact hK [_, _] rfl
   refine go 1 ?_
   apply kS (yt := 40) (d := 33) 7 rfl rfl rfl (.none rfl) rfl rfl
   case h1 =>
    intro hb12 hK
    have hc := hb12; (try simp only [dh, Int.reduceEq, Int.reduceNe, Int.reduceLT, Int.reduceLE, cV] at hc)
    refine ml ?_ (hbw := by exact hb12);refine go 1 ?_;refine ml ?_ (hbw := by exact hb12);refine o1 (BT rO ?_ (h01 := by have h1 := hpos hc.2; omega));refine ml ?_ (hbw := by exact hb12);refine go 1 ?_;refine ml ?_ (hbw := by exact hb12);refine go 1 ?_
    apply CA (yt := 39) (d := 37) 2 rfl rfl rfl (.yes rfl rfl rfl hb12) rfl rfl
    case h1 =>
     intro hb21 hK
     have hc := hb21; (try simp only [dh, Int.reduceEq, Int.reduceNe, Int.reduceLT, Int.reduceLE, cV] at hc)
     refine ml ?_ (hbw := by exact hb21);refine go 1 ?_;refine ml ?_ (hbw := by exact hb21);refine go 1 ?_; exact hK [_, _] rfl rfl
    case h2 =>
     intro hb21 hK; refine ln ?_ (hbw := by exact hb21);refine ln ?_ (hbw := by exact hb21); exact hK [_, _] rfl
    exact hK [_, _, _, _, _] rfl rfl
   case h2 =>
    intro hb12 hK; refine ln ?_ (hbw := by exact hb12);refine ln ?_ (hbw := by exact hb12);refine ln ?_ (hbw := by exact hb12);refine ln ?_ (hbw := by exact hb12);refine go 2 ?_;refine ln ?_ (hbw := by exact hb12)
    exact hK [_, _, _, _, _, _, _] rfl
   refine go 2 ?_;refine cd (fun h4 => ?_) (fun h4 => ?_)
   ·(try simp only [dh, Int.reduceEq, Int.reduceNe, Int.reduceLT, Int.reduceLE, cV] at h4)
    refine kc 0 [4, 2, 0] 4 ?_;refine oc (ck rJ rfl rfl (dS s (aO s p).2.1 ⟨p, none⟩) [0] rfl (bh .nil) (an (an .nil)) ?_);refine ko 2 [2] 8 ?_;refine eo (aI.d) [0] [gx s ((RS.mk p none).fail (aO s p).2.1)] ?_
    ·rw [qZ (by rintro ⟨ha, hb⟩; rcases h4 with (h | h) | h; exact ha (pH h); exact ha h; rcases hb with hb | hb; exact h.1 hb; exact h.2 hb)]; exact ⟨rfl, rfl⟩
   (try simp only [dh, Int.reduceEq, Int.reduceNe, Int.reduceLT, Int.reduceLE, cV] at h4); refine kc 2 [3, 2, 0] 3 ?_;refine oc (ck Al rfl rfl (gr s ⟨p, none⟩ hs hp) [0] rfl (bh .nil) (an .nil) ?_);refine go 9 ?_;refine cd (fun h8 => ?_) (fun h8 => ?_)
   ·(try simp only [dh, Int.reduceEq, Int.reduceNe, Int.reduceLT, Int.reduceLE, cV] at h8)
    refine kc 1 [3, 2] 0 ?_
    have hh4 : sP (aO s p).1 := ⟨h4.1.2, h4.2⟩
    have hh35 : aZ (aO s p).1 0 = 35 := by rcases h4.2 with h | h; exact h; exact absurd h h8
    have hhash := hash h4.1.2 hh35
    refine gc 2 ?_;refine o1 (FB rO rfl rfl rfl (by omega) ?_);refine oc (cv Ki rfl rfl (sF ((aO s p).1.extract 1 (aO s p).1.size) (by rw [ByteArray.size_extract]; omega) hhash.2.2) (an .nil) ?_);refine go 6 ?_;refine eo ((ae.mk 0 (jN ((aO s p).1.extract 1 (aO s p).1.size) ((aO s p).1.extract 1 (aO s p).1.size).size) .empty [] []).d) [0] [gx s (aF s ⟨p, none⟩).2] ?_
    ·rw [qY hh4 h8, show ((aO s p).1.extract 1 (aO s p).1.size).size = (aO s p).1.size - 1 by rw [ByteArray.size_extract]; omega]; exact ⟨rfl, rfl⟩
   (try simp only [dh, Int.reduceEq, Int.reduceNe, Int.reduceLT, Int.reduceLE, cV] at h8); refine kc 2 [2, 0] 3 ?_;refine oc (ck nS rfl rfl (cE s (aF s ⟨p, none⟩).2.p (bg (aF s ⟨p, none⟩).2.f) (dJ (aF s ⟨p, none⟩).2.f) hs hn1.2) [0] rfl (bh .nil) (an .nil) ?_);refine ko 9 [7, 6, 2, 0] 12 ?_;refine lP (ι := Nat) (fun i => [(10, int i), (9, int (nC (aO s (aF s ⟨p, none⟩).2.p).1 i))]) [7, 6, 2, 0] (fun i => 1 ≤ i ∧ i ≤ 7) (fun i => 7 - i) (1) rfl ?I1 ?M1 ?H1
   case I1 =>
    exact ⟨Nat.le_refl _, by omega⟩
   case M1 =>
    refine mo ?_ (aH (eh rfl (by exact Fit.of_eq (by unfold nC; rw [show (if eN (aO s (aF s ⟨p, none⟩).2.p).1 < 1 then eN (aO s (aF s ⟨p, none⟩).2.p).1 else 0) = 0 by split <;> omega]; rfl)) (aH (aH (aH (aH dF))))))
    repeat (first | exact cW | refine bh ?_)
   case H1 =>
    rintro i hinv
    try dsimp only at hinv
    refine kc 0 [10, 9, 7, 6, 2, 0] 9 ?_;refine cd (fun h13 => ?_) (fun h13 => ?_)
    ·(try simp only [dh, Int.reduceEq, Int.reduceNe, Int.reduceLT, Int.reduceLE, cV] at h13)
     refine kc 4 [10, 9, 7, 6, 2, 0] 4 ?_;refine o1 (bV jW lF ?_ (he := by exact (fX (show i < eA.length by omega))));refine go 5 ?_;refine vy (fun h15 => ?_) (fun h15 => ?_)
     ·(try simp only [dh, Int.reduceEq, Int.reduceNe, Int.reduceLT, Int.reduceLE, cV] at h15)
      refine kc 3 [10, 9, 7, 6, 2, 0] 2 ?_;refine o1 (cw ?_);refine go 2 ?_;refine bi (i + 1) rfl ?_ ?_
      ·exact ⟨⟨by omega, by omega⟩, by omega⟩
      ·refine mo ?_ (aH (eh rfl (by exact Fit.of_eq (by (first | rw [uP hinv.1 (by omega) h15] | rw [wS hinv.1 (by omega) h15]); rfl)) (aH (aH (aH (aH dF))))))
       repeat (first | exact cW | refine bh ?_)
     (try simp only [dh, Int.reduceEq, Int.reduceNe, Int.reduceLT, Int.reduceLE, cV] at h15); refine kc 0 [10, 7, 6, 2, 0] 8 ?_;refine o1 (cw ?_);refine go 2 ?_;refine bi (i + 1) rfl ?_ ?_
     ·exact ⟨⟨by omega, by omega⟩, by omega⟩
     ·refine mo ?_ (aH (eh rfl (by exact Fit.of_eq (by (first | rw [uP hinv.1 (by omega) h15] | rw [wS hinv.1 (by omega) h15]); rfl)) (aH (aH (aH (aH dF))))))
      repeat (first | exact cW | refine bh ?_)
    (try simp only [dh, Int.reduceEq, Int.reduceNe, Int.reduceLT, Int.reduceLE, cV] at h13); refine kc 7 [9, 7, 2, 0] 0 ?_; obtain rfl : i = 7 := by omega
    rw [Fi]
    have hkl := uR (aO s (aF s ⟨p, none⟩).2.p).1
    generalize hk : eN (aO s (aF s ⟨p, none⟩).2.p).1 = k at hkl ⊢
    refine gc 5 ?_;refine cd (fun h17 => ?_) (fun h17 => ?_)
    ·(try simp only [dh, Int.reduceEq, Int.reduceNe, Int.reduceLT, Int.reduceLE, cV] at h17)
     refine gc 4 ?_;refine oc (ck rJ rfl rfl (dS s (aO s (aF s ⟨p, none⟩).2.p).2.1 (aF s ⟨p, none⟩).2) [0] rfl (bh .nil) (an (an .nil)) ?_);refine ko 2 [2] 8 ?_;refine eo (aI.d) [0] [gx s ((aF s ⟨p, none⟩).2.fail (aO s (aF s ⟨p, none⟩).2.p).2.1)] ?_
     ·rw [pL h8 (by omega)]; exact ⟨rfl, rfl⟩
    (try simp only [dh, Int.reduceEq, Int.reduceNe, Int.reduceLT, Int.reduceLE, cV] at h17); refine gc 5 ?_;refine oc (ck Al rfl rfl (gr s (aF s ⟨p, none⟩).2 hs hn1.2) [0] rfl (bh .nil) (an .nil) ?_);refine ko 2 [9, 2, 0] 9 ?_;refine bq 39 5 rfl ?_;refine kc 10 [83, 12, 11, 2, 0] 0 ?_;refine xo (ι := ByteArray × List aJ × RS) (fun ⟨nm, L, r3⟩ => [(12, int (partsOf k))]) (fun ⟨nm, L, r3⟩ => [gx s r3, .cells [.d (.v (.int .i64 0)), .d (.v (.int .i64 0)), .d (.v (.string .empty)), .d (.v (.slice none 0 0)), .d (.v (.slice none 0 0))] 39, .cells [.d (.v (.int .i64 k)), .d (.v (.int .i64 0)), .d (.v (.string nm)), .own 3 3 (bF L), .d (.v (.slice none 0 0))] 39, .row 121 3, .bP 39 5]) [11, 2, 0] (fun ⟨nm, L, r3⟩ => ij s k (aF s (aF s ⟨p, none⟩).2).2 = (nm, L, r3)) rfl ?A2 ?B2
    case A2 =>
     refine gc 7 ?_;refine cd (fun h24 => ?_) (fun h24 => ?_)
     ·(try simp only [dh, Int.reduceEq, Int.reduceNe, Int.reduceLT, Int.reduceLE, cV] at h24)
      refine kc 1 [11, 2, 0] 0 ?_; obtain ⟨k1, s1, a1, hX⟩ := aJ.case (bw (s.size + 1) s (aF s (aF s ⟨p, none⟩).2).2).1; refine gz [0, 1, 2] mixed ?_;refine A2 3 rfl (ay Hs rfl rfl rfl rfl (uH s hs (s.size + 1) (aF s (aF s ⟨p, none⟩).2).2 hn2.2 (by omega)) [0] (bh .nil) rfl rfl rfl rfl (an .nil) (fun s ob' hq => ?_) (fun s ob' hq => ?_))
      rotate_left
      ·first | exact hq.elim | cases hq.1
      obtain ⟨hq1, rfl⟩ := hq; rw [hX] at hq1; cases hq1; refine ⟨_, _, _, _, _, rfl, rfl, rfl, rfl, rfl, ?_⟩;refine A2 4 rfl (gR jD [.tmp 89] dB ?_);refine A2 (T := fun _ => False) 5 rfl (py jD rfl rfl rfl rfl rfl rfl (by simp only [List.length_cons, List.length_nil, Nat.reduceAdd]; rfl) rfl rfl (by decide) (by simp) (by first | decide | (simp only [maxLen, List.length_cons, List.length_nil, List.length_append, List.length_map]; omega) | omega) rfl rfl rfl ?_);refine ga [6] ?_;refine A2 7 rfl (eD yz ?_);refine aQ ?_;refine ke 1 [11, 2, 0] 4 ?_;refine bk ((.empty, [aJ.mk k1 s1 a1], (bw (s.size + 1) s (aF s (aF s ⟨p, none⟩).2).2).2)) rfl ?_ ([0, 1, 2, 5, 3]) ?_
      ·unfold ij; rw [if_pos (by omega), hX]
      ·refine mo ?_ (eh rfl (by exact Fit.of_eq (by unfold partsOf; first | (rw [if_pos (by omega)]; rfl) | (rw [if_neg (by omega), if_pos (by omega)]; rfl) | (rw [if_neg (by omega), if_neg (by omega)]; rfl))) (aH (aH (aH dF))))
       repeat (first | exact cW | refine bh ?_ | refine cu ?_ | refine Ef ?_)
     (try simp only [dh, Int.reduceEq, Int.reduceNe, Int.reduceLT, Int.reduceLE, cV] at h24); refine gc 6 ?_;refine vy (fun h27 => ?_) (fun h27 => ?_)
     ·(try simp only [dh, Int.reduceEq, Int.reduceNe, Int.reduceLT, Int.reduceLE, cV] at h27)
      refine kc 1 [83, 12, 11, 2, 0] 0 ?_;refine bq 121 3 rfl ?_;refine gc 5 ?_;refine vy (fun h32 => ?_) (fun h32 => ?_)
      ·(try simp only [dh, Int.reduceEq, Int.reduceNe, Int.reduceLT, Int.reduceLE, cV] at h32)
       refine gc 2 ?_;refine bk ((.empty, [], (aF s (aF s ⟨p, none⟩).2).2)) rfl ?_ ([0, 1, 2, 4, 3]) ?_
       ·unfold ij; rw [if_neg (by omega), if_neg (by omega)]
       ·refine mo ?_ (eh rfl (by exact Fit.of_eq (by unfold partsOf; first | (rw [if_pos (by omega)]; rfl) | (rw [if_neg (by omega), if_pos (by omega)]; rfl) | (rw [if_neg (by omega), if_neg (by omega)]; rfl))) (aH (aH (aH dF))))
        repeat (first | exact cW | exact zX | refine bh ?_ | refine Ef ?_ | refine p6 ?_ | refine BU ?_ ?_ | refine an ?_ | refine .cons (.nil rfl) ?_)
      (try simp only [dh, Int.reduceEq, Int.reduceNe, Int.reduceLT, Int.reduceLE, cV] at h32); refine kc 0 [11, 2, 0] 4 ?_;refine bk ((.empty, [], (aF s (aF s ⟨p, none⟩).2).2)) rfl ?_ ([0, 1, 2, 4, 3]) ?_
      ·unfold ij; rw [if_neg (by omega), if_neg (by omega)]
      ·refine mo ?_ (eh rfl (by exact Fit.of_eq (by unfold partsOf; first | (rw [if_pos (by omega)]; rfl) | (rw [if_neg (by omega), if_pos (by omega)]; rfl) | (rw [if_neg (by omega), if_neg (by omega)]; rfl))) (aH (aH (aH dF))))
       repeat (first | exact cW | exact zX | refine bh ?_ | refine Ef ?_ | refine p6 ?_ | refine BU ?_ ?_ | refine an ?_ | refine .cons (.nil rfl) ?_)
     (try simp only [dh, Int.reduceEq, Int.reduceNe, Int.reduceLT, Int.reduceLE, cV] at h27); refine kc 1 [11, 2, 0] 0 ?_
     have hnm := dH (s := s) (r := (aF s (aF s ⟨p, none⟩).2).2) hn2.2
     refine gc 2 ?_;refine oc (ck Hr rfl rfl (o0 s (aF s (aF s ⟨p, none⟩).2).2 hs hn2.2) [0] rfl (bh .nil) (an .nil) ?_);refine ko 10 [12, 11, 2, 0] 0 ?_;refine bq 121 3 rfl ?_;refine lp (ι := Nat × List aJ × RS) (fun ⟨m, acc, r'⟩ => []) (fun ⟨m, acc, r'⟩ => [gx s r', .cells [.d (.v (.int .i64 0)), .d (.v (.int .i64 0)), .d (.v (.string .empty)), .d (.v (.slice none 0 0)), .d (.v (.slice none 0 0))] 39, .cells [.d (.v (.int .i64 k)), .d (.v (.int .i64 0)), .d (.v (.string (ch s (aF s (aF s ⟨p, none⟩).2).2).1)), .own 4 3 (bF acc), .d (.v (.slice none 0 0))] 39, .bP 39 5, .row 121 3]) [12, 11, 2, 0] (fun ⟨m, acc, r'⟩ => r'.p ≤ s.size ∧ acc.length + m = s.size + 2 ∧ (r'.f = none → s.size - r'.p < m) ∧ cG (s.size + 2) s (ch s (aF s (aF s ⟨p, none⟩).2).2).2 = (acc ++ (cG m s r').1, (cG m s r').2)) (fun ⟨m, acc, r'⟩ => m) ((s.size + 2, [], (ch s (aF s (aF s ⟨p, none⟩).2).2).2)) ([0, 1, 2, 3, 4]) rfl ?I3 ?M3 ?H3
     case I3 =>
      exact ⟨hnm.2, by simp, fun _ => by omega, rfl⟩
     case M3 =>
      refine mo ?_ (aH (aH (aH (aH dF))))
      repeat (first | exact cW | exact zX | refine bh ?_ | refine Ef ?_ | refine p6 ?_ | refine BU ?_ ?_ | refine an ?_ | refine .cons (.nil rfl) ?_)
     case H3 =>
      rintro ⟨m, acc, r'⟩ hinv
      try dsimp only at hinv
      refine kc 0 [12, 11, 2, 0] 10 ?_
      apply CA (yt := 107) (d := 104) 3 rfl rfl rfl (.none rfl) rfl rfl
      case h1 =>
       intro hb13 hK
       have hc := hb13; (try simp only [dh, Int.reduceEq, Int.reduceNe, Int.reduceLT, Int.reduceLE, cV] at hc)
       refine ml ?_ (hbw := by exact hb13);refine go 1 ?_;refine ml ?_ (hbw := by exact hb13);refine oc (ck Jr rfl rfl (rh s r' hs hinv.1) [0] rfl (bh .nil) (an .nil) ?_);refine ml ?_ (hbw := by exact hb13);refine go 1 ?_
       exact hK [_, _, _] rfl rfl
      case h2 =>
       intro hb13 hK; refine ln ?_ (hbw := by exact hb13);refine ln ?_ (hbw := by exact hb13);refine ln ?_ (hbw := by exact hb13); exact hK [_, _, _] rfl
      refine go 2 ?_;refine vy (fun h30 => ?_) (fun h30 => ?_)
      ·(try simp only [dh, Int.reduceEq, Int.reduceNe, Int.reduceLT, Int.reduceLE, cV] at h30)
       refine gc 5 ?_;refine bk (((ch s (aF s (aF s ⟨p, none⟩).2).2).1, acc, r')) rfl ?_ ([0, 1, 2, 4, 3]) ?_
       ·unfold ij; rw [if_neg (by omega), if_pos (by omega), hinv.2.2.2, zw (by rintro ⟨ha, hb⟩; rcases h30 with h | h; exact h ha; exact hb h), List.append_nil]
       ·refine mo ?_ (eh rfl (by exact Fit.of_eq (by unfold partsOf; first | (rw [if_pos (by omega)]; rfl) | (rw [if_neg (by omega), if_pos (by omega)]; rfl) | (rw [if_neg (by omega), if_neg (by omega)]; rfl))) (aH (aH (aH dF))))
        repeat (first | exact cW | refine bh ?_ | refine cu ?_ | refine Ef ?_)
      (try simp only [dh, Int.reduceEq, Int.reduceNe, Int.reduceLT, Int.reduceLE, cV] at h30); refine kc 3 [12, 11, 2, 0] 0 ?_
      obtain ⟨k1, s1, a1, hX⟩ := aJ.case (bw (s.size + 1) s r').1
      have hm1 := hinv.2.2.1 (du.1 h30.1)
      have hln := bR acc
      have hlast : bF acc ++ [[.v (.int .i64 k1), .v (.string s1), .sl 3 (bF a1)]] = bF (acc ++ [aJ.mk k1 s1 a1]) := by rw [qy]; rfl
      refine gz [0, 1, 2] mixed ?_;refine A2 3 rfl (ay Hs rfl rfl rfl rfl (uH s hs (s.size + 1) r' hinv.1 (by omega)) [0] (bh .nil) rfl rfl rfl rfl (an .nil) (fun s ob' hq => ?_) (fun s ob' hq => ?_))
      rotate_left
      ·first | exact hq.elim | cases hq.1
      obtain ⟨hq1, rfl⟩ := hq; rw [hX] at hq1; cases hq1; refine ⟨_, _, _, _, _, rfl, rfl, rfl, rfl, rfl, ?_⟩;refine A2 4 rfl (gR jD [.tmp 112] dB ?_);refine A2 5 rfl (nU jD ?_);refine ga [6] ?_;refine A2 7 rfl (eD yz ?_);refine aQ ?_;refine ge 1 ?_
      rw [hlast]
      refine bk ((m - 1, acc ++ [aJ.mk k1 s1 a1], (bw (s.size + 1) s r').2)) rfl ?_ ([0, 1, 2, 3, 4]) ?_
      ·exact ⟨zx hinv h30 hX, show m - 1 < m by omega⟩
      ·refine mo ?_ (aH (aH (aH (aH dF))))
       repeat (first | exact cW | refine bh ?_ | refine cu ?_ | refine Ef ?_)
    case B2 =>
     rintro ⟨nm, L, r3⟩ hcut
     try dsimp only at hcut
     refine kc 0 [12, 11, 2, 0] 2 ?_
     have hh3 := qD (s := s) k (r := (aF s (aF s ⟨p, none⟩).2).2) hn2.2
     rw [hcut] at hh3
     dsimp only at hh3
     have hpl := um k
     refine gc 5 ?_;refine lp (ι := Nat) (fun i => [(13, int i)]) (fun i => [gx s (dt (bH n s) i r3).2, .cells [.d (.v (.int .i64 0)), .d (.v (.int .i64 0)), .d (.v (.string .empty)), .d (.v (.slice none 0 0)), .d (.v (.slice none 0 0))] 39, .cells [.d (.v (.int .i64 k)), .d (.v (.int .i64 0)), .d (.v (.string nm)), .own 3 3 (bF L), .own 4 5 (ba (dt (bH n s) i r3).1)] 39, .row 121 3, .row 39 5]) [12, 11, 2, 0] (fun i => i ≤ partsOf k) (fun i => partsOf k - i) (0) ([0, 1, 2, 3, 4]) rfl ?I4 ?M4 ?H4
     case I4 =>
      exact Nat.zero_le _
     case M4 =>
      refine mo ?_ (aH (aH (aH (aH (aH dF)))))
      repeat (first | exact cW | exact zX | refine bh ?_ | refine cu ?_ | refine p6 ?_ | refine BU ?_ ?_ | refine an ?_ | refine .cons (.nil rfl) ?_)
     case H4 =>
      rintro i hinv
      try dsimp only at hinv
      refine kc 0 [13, 12, 11, 2, 0] 8 ?_;refine vy (fun h35 => ?_) (fun h35 => ?_)
      ·(try simp only [dh, Int.reduceEq, Int.reduceNe, Int.reduceLT, Int.reduceLE, cV] at h35)
       refine kc 5 [11, 2, 0] 3 ?_;refine oc (ck vW rfl rfl (fj s ⟨#[41]⟩ (dt (bH n s) i r3).2 hs (jx (s := s) (f := bH n s) (fun r hr => dG n r hr) i hh3.2).2) [0] rfl (bh .nil) (an (an .nil)) ?_);refine go 9 ?_;refine fR ?_; obtain rfl : i = partsOf k := by omega
       refine qF ⟨_, _, rfl, (fm rfl rfl bM rfl rfl rfl rfl), rfl⟩ rfl ((ae.mk k 0 nm L (dt (bH n s) (partsOf k) r3).1).d) (by exact .refl _) ([0]) ([gx s (bT s ⟨#[41]⟩ (dt (bH n s) (partsOf k) r3).2)]) rfl rfl rfl ?_ ?_
       ·repeat (first | exact cW | refine bh ?_)
       ·rw [pK h8 hk (by omega) hcut]; exact ⟨rfl, rfl⟩
      (try simp only [dh, Int.reduceEq, Int.reduceNe, Int.reduceLT, Int.reduceLE, cV] at h35); refine gc 4 ?_
      have hpp := jx (s := s) (f := bH n s) (fun r hr => dG n r hr) i hh3.2
      obtain ⟨k2, n2, s2, l2, a2', hX⟩ := ae.case (bH n s (dt (bH n s) i r3).2).1
      have hln : (ba (dt (bH n s) i r3).1).length = i := by rw [bf, uk]
      have hlast : ba (dt (bH n s) i r3).1 ++ [[.v (.int .i64 k2), .v (.int .i64 n2), .v (.string s2), .sl 3 (bF l2), .sl 5 (ba a2')]] = ba (dt (bH n s) (i + 1) r3).1 := by simp only [dt]; rw [hX, er]; rfl
      have hpr : p < (aF s ⟨p, none⟩).2.p := by rw [gO (by rw [h8]; decide), h8]; simp only; have : (ByteArray.mk #[40]).size = 1 := rfl; omega
      refine gz [0, 1, 2] mixed ?_;refine A2 3 rfl (ay F3 rfl rfl rfl rfl (ih (dt (bH n s) i r3).2 hpp.2 (by omega)) [0] (bh .nil) rfl rfl rfl rfl (an .nil) (fun s ob' hq => ?_) (fun s ob' hq => ?_))
      rotate_left
      ·first | exact hq.elim | cases hq.1
      obtain ⟨hq1, rfl⟩ := hq; rw [hX] at hq1; cases hq1; refine ⟨_, _, _, _, _, rfl, rfl, rfl, rfl, rfl, ?_⟩;refine A2 4 rfl (gR fA [.tmp 126] bM ?_);refine A2 5 rfl (nU fA ?_);refine ga [6] ?_;refine A2 7 rfl (eD EC ?_);refine aQ ?_;refine ke 2 [13, 12, 11, 2, 0] 2 ?_;refine o1 (cw ?_);refine go 2 ?_
      rw [hlast]
      refine bk (i + 1) rfl ?_ [0, 1, 2, 3, 4] mz
      exact ⟨by omega, by omega⟩
end Go.Proofs.YtndbnldjidciiaaGreatDoor
namespace Go.Proofs.YtndbnldjidciiaaGreatDoor
open Go Go.Vd Go.RowKit
attribute [local irreducible] bl br de aj bI cY
variable {g gl : Nat → List D}
variable {s : ByteArray}
theorem Cl {p : Nat} (hp : p ≤ s.size) (h0 : (aO s p).1 ≠ .empty) (h : 48 ≤ aZ (aO s p).1 0 ∧ aZ (aO s p).1 0 ≤ 57) :
 (aO s p).1.size ≤ 5 ∧ rL (aO s p).1 ∧ (1 < (aO s p).1.size → ¬ aZ (aO s p).1 0 = 48) := by
 have hle := eJ pe s p hp
 revert h0 h
 unfold aO
 dsimp only
 split
 ·intro h0; exact absurd rfl h0
 ·rename_i hn
  have hlt : cr pe s p < s.size := by omega
  split
  ·rename_i hc
   intro _ h
   rw [bW s (by omega) (by omega), Nat.add_zero] at h
   omega
  ·split
   ·rename_i hc hnm
    have h3 := eJ (ff · false) s (cr pe s p + 1) (by omega)
    split
    ·intro h0; exact absurd rfl h0
    ·intro _ h
     rw [bW s (by omega) (by omega), Nat.add_zero] at h
     exfalso
     revert hnm
     unfold ff
     simp
     omega
   ·split
    ·have h3 := eJ jc s (cr pe s p + 1) (by omega)
     by_cases h35 : aZ s (cr pe s p) = 35
     ·simp only [if_pos h35]
      split
      ·intro h0; exact absurd rfl h0
      ·intro _ h
       rw [bW s (by omega) (by omega), Nat.add_zero] at h
       omega
     ·simp only [if_neg h35]
      split
      ·intro h0; exact absurd rfl h0
      ·rename_i hd
       intro _ h
       rw [bW s (by omega) (by omega), Nat.add_zero] at h ⊢
       simp only [ByteArray.size_extract]
       refine ⟨by omega, fun i hi => ?_, fun h1 h48 => hd (.inr (.inr ⟨by omega, h48⟩))⟩
       simp only [ByteArray.size_extract] at hi
       rw [bW s (by omega) (by omega)]
       rcases Nat.eq_zero_or_pos i with rfl | hi0
       ·exact h
       ·have := q9 (f := jc) (s := s) (p := cr pe s p + 1) (j := cr pe s p + i) (by omega) (by omega)
        simpa [jc] using this
    ·intro h0; exact absurd rfl h0
variable {r r1 : RS}
theorem BJ (h1 : bT s ⟨#[40]⟩ r = r1) (hk : sO (aO s r1.p).1 = 0) : dI s r = (.mk 0 .empty [] aI aI 0 [], r1.fail (aO s r1.p).2.1) := by
 unfold dI bz
 dsimp only
 rw [h1, if_pos hk]; rfl
variable {k : Nat} {nm : ByteArray} {ps : List ByteArray}
theorem Ag {r5 : RS} (h1 : bT s ⟨#[40]⟩ r = r1) (hk : sO (aO s r1.p).1 = k) (h0 : ¬ k = 0) (h3 : (ch s (aF s r1).2).1 = nm)
 (h5 : dg (s.size + 2) s (bT s ⟨#[40]⟩ (ch s (aF s r1).2).2) = (ps, r5)) : bz s r = (k, nm, ps, bT s ⟨#[41]⟩ r5) := by
 unfold bz
 dsimp only
 rw [h1, hk, if_neg h0, h3, h5]
variable {r6 : RS}
theorem D0 (h : bz s r = (3, nm, ps, r6)) (hb : ¬ oP (aO s r6.p)) : dI s r = (.mk 3 nm ps aI aI 0 [], r6.fail (aO s r6.p).2.1) := by
 unfold dI
 dsimp only
 rw [h, if_neg (by simp), if_pos ⟨rfl, hb⟩]
theorem BK {r7 r8 r9 r10 : RS} {a : Int} {t v : ae} {cs : List (ByteArray × ae)} (h : bz s r = (k, nm, ps, r6)) (h0 : ¬ k = 0) (hb : ¬ (k = 3 ∧ ¬ oP (aO s r6.p))) (ha : eY s k r6 = (a, r7))
 (ht : bH (s.size + 1) s r7 = (t, r8)) (hv : pD s k r8 = (v, r9)) (hc : ky s k r9 = (cs, r10)) : dI s r = (.mk k nm ps t v a cs, bT s ⟨#[41]⟩ r10) := by
 unfold dI
 dsimp only
 rw [h, if_neg h0, if_neg hb]
 simp only [gU, ha, ht, hv, hc]
def mI (k m : Nat) (s : ByteArray) (r : RS) : List (ByteArray × ae) × RS := if k = 3 then dc m s r else ([], r)
variable {m : Nat}
theorem D7 (h : ¬ (k = 3 ∧ r.f = none ∧ jK s r = ⟨#[40]⟩)) : mI k m s r = ([], r) := by
 unfold mI
 split
 ·rename_i hk; exact BL fun h2 => h ⟨hk, h2⟩
 ·rfl
theorem D8 {r0 r' : RS} {acc : List (ByteArray × ae)} {x : ByteArray × ae} (hinv : r'.p ≤ s.size ∧ acc.length + m = s.size + 2 ∧ (r'.f = none → s.size - r'.p < m) ∧ mI k (s.size + 2) s r0 = (acc ++ (mI k m s r').1, (mI k m s r').2))
 (hk : k = 3) (h : r'.f = none ∧ jK s r' = ⟨#[40]⟩) (hX : (dZ s r').1 = x) :
 (dZ s r').2.p ≤ s.size ∧ (acc ++ [x]).length + (m - 1) = s.size + 2 ∧ ((dZ s r').2.f = none → s.size - (dZ s r').2.p < m - 1) ∧
  mI k (s.size + 2) s r0 = (acc ++ [x] ++ (mI k (m - 1) s (dZ s r').2).1, (mI k (m - 1) s (dZ s r').2).2) := by
 subst hk
 unfold mI at hinv ⊢
 simp only [if_true] at hinv ⊢
 exact BM hinv h hX
theorem zB {w : ByteArray} (h1 : ¬ w = ⟨#[97, 120, 105, 111, 109]⟩) (h2 : ¬ w = ⟨#[100, 101, 102]⟩) (h3 : ¬ w = ⟨#[105, 110, 100, 117, 99, 116, 105, 118, 101]⟩) : sO w = 0 := by
 unfold sO; rw [if_neg h1, if_neg h2, if_neg h3]
variable {acc : List dp}
theorem vJ (h : eQ (s.size + 2) s ⟨0, none⟩ = (acc, r)) (hf : r.f = none) : eu s = (acc, 0, 0) := by
 unfold eu; rw [h]; simp only [hf]
theorem xJ {a : Nat} (h : eQ (s.size + 2) s ⟨0, none⟩ = (acc, r)) (hf : r.f = some a) : eu s = ([], 1, (a : Int)) := by
 unfold eu; rw [h]; simp only [hf]
theorem DS (h : eQ (s.size + 2) s ⟨0, none⟩ = (acc, r)) (hf : ¬ bg r.f = 0) : eu s = ([], bg r.f, dJ r.f) := by
 cases hr : r.f with
 | none => rw [hr] at hf; exact absurd rfl hf
 | some a => rw [xJ h hr]; rfl
end Go.Proofs.YtndbnldjidciiaaGreatDoor
namespace Go.Proofs.YtndbnldjidciiaaGreatDoor
open Go Go.Vd Go.RowKit
variable {s : ByteArray} {p : Nat}
theorem G3 (hp : p ≤ s.size) (h : (aO s p).1 ≠ .empty) : p + 1 ≤ (aF s ⟨p, none⟩).2.p := by
 have hat := eG (s := s) hp
 rw [gO h]; have := size_pos h; simp only; omega
theorem IP (hp : p ≤ s.size) (h : sP (aO s p).1) (h1 : (aO s p).1 ≠ ⟨#[40]⟩) :
 0 ≤ jN ((aO s p).1.extract 1 (aO s p).1.size) ((aO s p).1.size - 1) ∧ jN ((aO s p).1.extract 1 (aO s p).1.size) ((aO s p).1.size - 1) ≤ 99999 := by
 have h2 : aZ (aO s p).1 0 = 35 := by rcases h.2 with h | h; exact h; exact absurd h h1
 have h3 := yy hp h.1 h2
 exact ur h3.2.2 _ (by rw [ByteArray.size_extract]; omega) (by omega)
theorem Du {t : ByteArray} (hd : rL t) (h2 : t.size ≤ 2) : 0 ≤ jN t t.size ∧ jN t t.size ≤ 99 := by
 have key : t.size = 0 ∨ t.size = 1 ∨ t.size = 2 := by omega
 rcases key with h | h | h
 ·rw [h]; simp [jN]
 ·have d0 := hd 0 (by omega)
  rw [h]; simp only [jN]; omega
 ·have d0 := hd 0 (by omega)
  have d1 := hd 1 (by omega)
  rw [h]; simp only [jN]; omega
end Go.Proofs.YtndbnldjidciiaaGreatDoor
namespace Go.Proofs.YtndbnldjidciiaaGreatDoor
open Go Go.Vd Go.RowKit
def Fv (l : aJ) : Prop := ∃ x : cB, l = x.bG ∧ tq x.bG ∧ ∀ w, x.has w → gh w
mutual
def qE : ae → Prop
 | .mk k n s ls args => (∀ l ∈ ls, Fv l) ∧ ry args ∧
  ((k = 0 ∧ 0 ≤ n ∧ n ≤ 99999 ∧ s = .empty ∧ ls = [] ∧ args = []) ∨ (k = 1 ∧ n = 0 ∧ s = .empty ∧ ls.length = 1 ∧ args = []) ∨ (k = 2 ∧ n = 0 ∧ gh s ∧ args = []) ∨
   ((k = 3 ∨ k = 4 ∨ k = 5) ∧ n = 0 ∧ s = .empty ∧ ls = [] ∧ args.length = 2) ∨ (k = 6 ∧ n = 0 ∧ s = .empty ∧ ls = [] ∧ args.length = 3))
def ry : List ae → Prop
 | [] => True
 | t :: r => qE t ∧ ry r
end
theorem Bp {l : List ae} {t : ae} (h1 : ry l) (h2 : qE t) : ry (l ++ [t]) := by
 induction l with
 | nil => exact ⟨h2, trivial⟩
 | cons a r ih => exact ⟨h1.1, ih h1.2⟩
variable {s : ByteArray} {r : RS}
theorem sN (n : Nat) (hp : r.p ≤ s.size) : Fv (bw n s r).1 := by
 obtain ⟨x, h1, h2, _⟩ := uK (s := s) n hp
 exact ⟨x, h1, h2, DB n hp x h1⟩
theorem xT : ∀ (n : Nat) {r : RS}, r.p ≤ s.size → ∀ l ∈ (cG n s r).1, Fv l := by
 intro n
 induction n with
 | zero => intro r hp l hl; simp [cG] at hl
 | succ n ih =>
  intro r hp l hl
  simp only [cG] at hl
  split at hl
  ·rcases List.mem_cons.1 hl with rfl | hl
   ·exact sN _ hp
   ·exact ih (dP (s := s) (s.size + 1) hp).2 l hl
  ·simp at hl
theorem j2 (hp : r.p ≤ s.size) (h : (ch s r).2.f = none) : gh (ch s r).1 := by
 obtain ⟨p, f⟩ := r
 unfold ch at h ⊢
 dsimp only at h ⊢
 split at h
 ·exact absurd h (iH _ _)
 ·rename_i hn
  rw [if_neg hn]
  cases f with
  | none =>
   have h1 : db (aO s p).1 = true := by
    cases hb : db (aO s p).1 with
    | true => rfl
    | false => exact absurd (.inr hb) hn
   exact tN hp h1
  | some a => cases h
theorem Fg : ∀ {n : Nat} {r : RS}, (cG n s r).2.f = none → r.f = none
 | 0, r, h => h
 | n + 1, r, h => by
  simp only [cG] at h
  split at h
  ·rename_i hc; exact hc.1
  ·exact h
theorem y5 {s : ByteArray} {n : Nat} : ∀ {i : Nat} {r : RS}, (dt (bH n s) i r).2.f = none → r.f = none
 | 0, r, h => h
 | i + 1, r, h => y5 (i := i) (pJ h)
theorem pI : ∀ (n : Nat) (r : RS), r.p ≤ s.size → (bH n s r).2.f = none → s.size < n + r.p → qE (bH n s r).1 := by
 intro n
 induction n with
 | zero => intro r hp _ hn; omega
 | succ n ih =>
  intro r hp hf hn
  obtain ⟨p, f⟩ := r
  simp only at hp hn
  cases f with
  | some a => cases hf
  | none =>
   have h1 := cy (s := s) (r := ⟨p, none⟩) hp
   have h2 := cy (s := s) (r := (aF s ⟨p, none⟩).2) h1.2
   simp only at h1
   by_cases c1 : sP (aO s p).1
   ·by_cases c2 : (aO s p).1 = ⟨#[40]⟩
    ·rcases hk : eN (aO s (aF s ⟨p, none⟩).2.p).1 with _ | k
     ·rw [pL c2 hk] at hf; exact absurd hf (iH _ _)
     ·rcases hh : ij s (k + 1) (aF s (aF s ⟨p, none⟩).2).2 with ⟨nm, L, r3⟩
      have h3 := qD (s := s) (k + 1) h2.2
      rw [hh] at h3
      simp only at h3
      have h9 := uR (aO s (aF s ⟨p, none⟩).2.p).1
      have h10 := G3 hp (by rw [c2]; decide)
      have hpart : ∀ (i : Nat), (dt (bH n s) i r3).2.f = none → ry (dt (bH n s) i r3).1 := by
       intro i
       induction i with
       | zero => intro _; exact trivial
       | succ i ihi =>
        intro hfi
        have h5 := jx (s := s) (f := bH n s) (fun r hr => dG n r hr) i h3.2
        exact Bp (ihi (pJ hfi)) (ih _ h5.2 hfi (by omega))
      rw [pK c2 hk (by omega) hh] at hf ⊢
      have hf2 := ir hf
      have hf3 := y5 hf2
      have hpl := uk (bH n s) (partsOf (k + 1)) r3
      have hga := hpart _ hf2
      generalize (dt (bH n s) (partsOf (k + 1)) r3).1 = as1 at hpl hga ⊢
      unfold ij at hh
      split at hh
      ·rename_i hk1
       cases hh
       refine ⟨fun l hl => ?_, hga, .inr (.inl ⟨by omega, rfl, rfl, rfl, ?_⟩)⟩
       ·simp only [List.mem_singleton] at hl; subst hl; exact sN _ h2.2
       ·rw [hk1] at hpl; exact List.length_eq_zero_iff.1 hpl
      ·split at hh
       ·rename_i hk1 hk2
        cases hh
        have h6 := dH (s := s) h2.2
        refine ⟨xT _ h6.2, hga, .inr (.inr (.inl ⟨by omega, rfl, j2 h2.2 (Fg hf3), ?_⟩))⟩
        rw [hk2] at hpl; exact List.length_eq_zero_iff.1 hpl
       ·rename_i hk1 hk2
        cases hh
        refine ⟨fun l hl => (by cases hl), hga, ?_⟩
        unfold partsOf at hpl
        rw [if_neg (by omega)] at hpl
        split at hpl
        ·exact .inr (.inr (.inr (.inr ⟨by omega, rfl, rfl, rfl, hpl⟩)))
        ·exact .inr (.inr (.inr (.inl ⟨by omega, rfl, rfl, rfl, hpl⟩)))
    ·rw [qY c1 c2]
     have h3 := IP hp c1 c2
     exact ⟨fun l hl => (by cases hl), trivial, .inl ⟨rfl, h3.1, h3.2, rfl, rfl, rfl⟩⟩
   ·rw [qZ c1] at hf; exact absurd hf (iH _ _)
end Go.Proofs.YtndbnldjidciiaaGreatDoor
namespace Go.Proofs.YtndbnldjidciiaaGreatDoor
open Go Go.Vd Go.RowKit
variable {s : ByteArray} {r : RS}
theorem wW (hf : (bz s r).2.2.2.f = none) : (bz s r).1 ≤ 3 ∧ ¬ (bz s r).1 = 0 := by
 unfold bz at hf ⊢
 dsimp only at hf ⊢
 split at hf
 ·exact absurd hf (iH _ _)
 ·rename_i hk
  rw [if_neg hk]
  exact ⟨Fj _, hk⟩
def CK : dp → Prop
 | .mk k nm ps t v a cs => gh nm ∧ (∀ w ∈ ps, gh w) ∧ qE t ∧
  ((k = 1 ∧ v = aI ∧ a = 0 ∧ cs = []) ∨ (k = 2 ∧ qE v ∧ a = 0 ∧ cs = []) ∨ (k = 3 ∧ v = aI ∧ 0 ≤ a ∧ a ≤ 99 ∧ ∀ c ∈ cs, gh c.1 ∧ qE c.2))
theorem zm : ∀ (n : Nat) {r : RS}, r.p ≤ s.size → (dg n s r).2.f = none → ∀ w ∈ (dg n s r).1, gh w := by
 intro n
 induction n with
 | zero => intro r hp _ w hw; simp [dg] at hw
 | succ n ih =>
  intro r hp hf w hw
  simp only [dg] at hf hw
  split at hf
  ·rename_i hc
   rw [if_pos hc] at hw
   rcases List.mem_cons.1 hw with rfl | hw
   ·exact j2 hp (tA hf)
   ·exact ih (dH (s := s) hp).2 hf w hw
  ·rename_i hc
   rw [if_neg hc] at hw; simp at hw
theorem BO (hp : r.p ≤ s.size) (hf : (dZ s r).2.f = none) : gh (dZ s r).1.1 ∧ qE (dZ s r).1.2 := by
 have h1 := bO (s := s) (w := ⟨#[40]⟩) hp
 have h2 := bO (s := s) (w := jl) h1.2
 have h3 := dH (s := s) h2.2
 unfold dZ at hf ⊢
 have g1 := ir hf
 exact ⟨j2 h2.2 (pJ g1), pI _ _ h3.2 g1 (by omega)⟩
theorem Ai : ∀ (n : Nat) {r : RS}, r.p ≤ s.size → (dc n s r).2.f = none → ∀ c ∈ (dc n s r).1, gh c.1 ∧ qE c.2 := by
 intro n
 induction n with
 | zero => intro r hp _ w hw; simp [dc] at hw
 | succ n ih =>
  intro r hp hf w hw
  simp only [dc] at hf hw
  split at hf
  ·rename_i hc
   rw [if_pos hc] at hw
   rcases List.mem_cons.1 hw with rfl | hw
   ·exact BO hp (yk hf)
   ·exact ih (qN (s := s) hp).2 hf w hw
  ·rename_i hc
   rw [if_neg hc] at hw; simp at hw
theorem Bo (hp : r.p ≤ s.size) (hf : (bz s r).2.2.2.f = none) : gh (bz s r).2.1 ∧ ∀ w ∈ (bz s r).2.2.1, gh w := by
 have h1 := bO (s := s) (w := ⟨#[40]⟩) hp
 have h2 := cy (s := s) h1.2
 have h3 := dH (s := s) h2.2
 have h4 := bO (s := s) (w := ⟨#[40]⟩) h3.2
 unfold bz at hf ⊢
 dsimp only at hf ⊢
 split at hf
 ·exact absurd hf (iH _ _)
 ·rename_i hk
  rw [if_neg hk]
  have g1 := ir hf
  exact ⟨j2 h2.2 (ir (tA g1)), zm _ h4.2 g1⟩
theorem BI (hp : r.p ≤ s.size) (hf : (dI s r).2.f = none) : CK (dI s r).1 := by
 have hh := kj (s := s) hp
 unfold dI at hf ⊢
 dsimp only at hf ⊢
 split at hf
 ·rename_i hk
  exact absurd (wW hf).2 (fun h => h hk)
 ·rename_i hk
  rw [if_neg hk]
  split at hf
  ·exact absurd hf (iH _ _)
  ·rename_i hb
   rw [if_neg hb]
   have ha := mJ (s := s) (k := (bz s r).1) hh.2
   have hfh := C4 (ED hf)
   have hg := wW hfh
   have hs := Bo hp hfh
   generalize hk1 : (bz s r).1 = k at *
   generalize hn1 : (bz s r).2.1 = nm at *
   generalize hp1 : (bz s r).2.2.1 = ps at *
   generalize hr1 : (bz s r).2.2.2 = r6 at *
   have har : (¬ k = 3 → (eY s k r6).1 = 0) ∧ (k = 3 → 0 ≤ (eY s k r6).1 ∧ (eY s k r6).1 ≤ 99) := by
    unfold eY
    refine ⟨fun h => by rw [if_neg h], fun h => ?_⟩
    rw [if_pos h]
    have hab : oP (aO s r6.p) := Classical.byContradiction fun h2 => hb ⟨h, h2⟩
    obtain ⟨_, had, _⟩ := Cl hh.2 hab.1 ⟨hab.2.1, hab.2.2.1⟩
    exact Du had hab.2.2.2
   generalize (eY s k r6).1 = a at *
   generalize (eY s k r6).2 = r7 at *
   unfold gU at hf ⊢
   dsimp only at hf ⊢
   have f1 := ir hf
   have f2 := FZ f1
   have f3 := HH f2
   have t2 := dG (s := s) (s.size + 1) r7 ha.2
   have v2 := tt (s := s) (k := k) t2.2
   have gt := pI (s := s) (s.size + 1) r7 ha.2 f3 (by omega)
   refine ⟨hs.1, hs.2, gt, ?_⟩
   have hk123 : k = 1 ∨ k = 2 ∨ k = 3 := by omega
   rcases hk123 with rfl | rfl | rfl
   ·refine .inl ⟨rfl, ?_, har.1 (by decide), ?_⟩
    ·unfold pD; rw [if_neg (by decide)]
    ·unfold ky; rw [if_neg (by decide)]
   ·refine .inr (.inl ⟨rfl, ?_, har.1 (by decide), ?_⟩)
    ·unfold pD at f2 ⊢
     rw [if_pos rfl] at f2 ⊢
     exact pI _ _ t2.2 f2 (by omega)
    ·unfold ky; rw [if_neg (by decide)]
   ·refine .inr (.inr ⟨rfl, ?_, (har.2 rfl).1, (har.2 rfl).2, ?_⟩)
    ·unfold pD; rw [if_neg (by decide)]
    ·unfold ky at f1 ⊢
     rw [if_pos rfl] at f1 ⊢
     exact Ai _ v2.2 f1
theorem BD : ∀ (n : Nat) {r : RS}, r.p ≤ s.size → (eQ n s r).2.f = none → ∀ d ∈ (eQ n s r).1, CK d := by
 intro n
 induction n with
 | zero => intro r hp _ d hd; simp [eQ] at hd
 | succ n ih =>
  intro r hp hf d hd
  simp only [eQ] at hf hd
  split at hf
  ·rename_i hc
   rw [if_pos hc] at hd
   have hdn : (dI s r).2.f = none := by
    cases hx : (dI s r).2.f with
    | none => rfl
    | some a =>
     rw [rD (by rintro ⟨e, _⟩; rw [hx] at e; cases e)] at hf
     rw [hx] at hf; cases hf
   rcases List.mem_cons.1 hd with rfl | hd
   ·exact BI hp hdn
   ·exact ih (vf (s := s) hp).2 hf d hd
  ·rename_i hc
   rw [if_neg hc] at hd; simp at hd
theorem xI (h : (eW s).2.1 = 0) : ∀ d ∈ (eW s).1, CK d := by
 unfold eW at h ⊢
 split at h
 ·exact absurd h (by decide)
 ·rename_i hs
  rw [if_neg hs]
  unfold eu at h ⊢
  split at h
  ·rename_i hf
   simp only
   exact BD _ (Nat.zero_le _) hf
  ·exact absurd (show (1 : Int) = 0 from h) (by decide)
end Go.Proofs.YtndbnldjidciiaaGreatDoor
namespace Go.Proofs.YtndbnldjidciiaaGreatDoor
open Go Go.Vd Go.RowKit
def J7 (l : aJ) : Prop := ∃ x : cB, l = x.bG ∧ tq x.bG
def zk (k n : Int) (s : ByteArray) (ls : List aJ) (a : Nat) (V : Prop) (C : Prop) : Prop :=
 (k = 0 ∧ V ∧ s = .empty ∧ ls = [] ∧ a = 0) ∨ (k = 1 ∧ n = 0 ∧ s = .empty ∧ ls.length = 1 ∧ a = 0) ∨ (k = 2 ∧ n = 0 ∧ C ∧ a = 0) ∨
  ((k = 3 ∨ k = 4 ∨ k = 5) ∧ n = 0 ∧ s = .empty ∧ ls = [] ∧ a = 2) ∨ (k = 6 ∧ n = 0 ∧ s = .empty ∧ ls = [] ∧ a = 3)
variable {k n : Int} {s : ByteArray} {ls : List aJ}
theorem zk.imp {a : Nat} {V C V' C' : Prop} (h : zk k n s ls a V C) (hv : k = 0 → V → V') (hc : k = 2 → C → C') : zk k n s ls a V' C' := by
 rcases h with ⟨h1, h2, h3⟩ | h | ⟨h1, h2, h3, h4⟩ | h | h
 ·exact .inl ⟨h1, hv h1 h2, h3⟩
 ·exact .inr (.inl h)
 ·exact .inr (.inr (.inl ⟨h1, h2, hc h1 h3, h4⟩))
 ·exact .inr (.inr (.inr (.inl h)))
 ·exact .inr (.inr (.inr (.inr h)))
mutual
def iU (B : Int) : ae → Prop
 | .mk k n s ls args => (∀ l ∈ ls, J7 l) ∧ th B args ∧ zk k n s ls args.length (0 ≤ n ∧ n ≤ B) True
def th (B : Int) : List ae → Prop
 | [] => True
 | t :: r => iU B t ∧ th B r
end
theorem yI {B : Int} : ∀ {l : List ae} {t : ae}, th B l → t ∈ l → iU B t
 | [], t, _, h => by cases h
 | a :: r, t, ho, h => by
  rcases List.mem_cons.1 h with rfl | h
  ·exact ho.1
  ·exact yI ho.2 h
variable {B : Int} {t : ae}
theorem uc {l : List ae} {i : Nat} (h : th B l) (hi : l[i]? = some t) : iU B t := yI h (List.mem_of_getElem? hi)
variable {args : List ae}
theorem pP (h : iU B (.mk k n s ls args)) (hk : k = 0) : 0 ≤ n ∧ n ≤ B ∧ s = .empty ∧ ls = [] ∧ args = [] := by
 obtain ⟨_, _, h3⟩ := h
 rcases h3 with h3 | h3 | h3 | h3 | h3
 ·exact ⟨h3.2.1.1, h3.2.1.2, h3.2.2.1, h3.2.2.2.1, List.length_eq_zero_iff.1 h3.2.2.2.2⟩
 all_goals omega
mutual
theorem jG {B B' : Int} (hb : B ≤ B') : ∀ {t : ae}, iU B t → iU B' t
 | .mk k n s ls args, h => ⟨h.1, wu hb h.2.1, h.2.2.imp (fun _ h => ⟨h.1, by omega⟩) fun _ h => h⟩
theorem wu {B B' : Int} (hb : B ≤ B') : ∀ {l : List ae}, th B l → th B' l
 | [], _ => trivial
 | t :: r, h => ⟨jG hb h.1, wu hb h.2⟩
end
mutual
theorem qh : ∀ {t : ae}, qE t → iU 99999 t
 | .mk k n s ls args, h => by
  refine ⟨fun l hl => (h.1 l hl).imp fun x h => ⟨h.1, h.2.1⟩, wx h.2.1, ?_⟩
  rcases h.2.2 with h | h | h | h | h
  ·exact .inl ⟨h.1, ⟨h.2.1, h.2.2.1⟩, h.2.2.2.1, h.2.2.2.2.1, by rw [h.2.2.2.2.2]; rfl⟩
  ·exact .inr (.inl ⟨h.1, h.2.1, h.2.2.1, h.2.2.2.1, by rw [h.2.2.2.2]; rfl⟩)
  ·exact .inr (.inr (.inl ⟨h.1, h.2.1, trivial, by rw [h.2.2.2]; rfl⟩))
  ·exact .inr (.inr (.inr (.inl h)))
  ·exact .inr (.inr (.inr (.inr h)))
theorem wx : ∀ {l : List ae}, ry l → th 99999 l
 | [], _ => trivial
 | t :: r, h => ⟨qh h.1, wx h.2⟩
end
def gQ (ps : List ByteArray) (l : aJ) : Prop := ∃ x : cB, l = x.bG ∧ tq x.bG ∧ ∀ p, x.has p → p ∈ ps
abbrev Sg := ByteArray → Option Nat
mutual
def Wt (sg : Sg) (ps : List ByteArray) : ae → Int → Prop
 | .mk k n s ls args, c => (∀ l ∈ ls, gQ ps l) ∧ fQ sg ps (decide (4 ≤ k)) args c ∧ zk k n s ls args.length (0 ≤ n ∧ n < c) (sg s = some ls.length)
def fQ (sg : Sg) (ps : List ByteArray) (b : Bool) : List ae → Int → Prop
 | [], _ => True
 | t :: r, c => Wt sg ps t (if b && r.isEmpty then c + 1 else c) ∧ fQ sg ps b r c
end
def v5 (a b : Sg) : Prop := ∀ s n, a s = some n → b s = some n
variable {l : aJ}
theorem gQ.mono {ps qs : List ByteArray} (h : gQ ps l) (hp : ∀ p ∈ ps, p ∈ qs) : gQ qs l := by
 obtain ⟨x, h1, h2, h3⟩ := h
 exact ⟨x, h1, h2, fun p hx => hp p (h3 p hx)⟩
theorem gQ.ok {ps : List ByteArray} (h : gQ ps l) : J7 l := h.imp fun x h => ⟨h.1, h.2.1⟩
section
variable {sg sg' : Sg} {ps qs : List ByteArray}
mutual
theorem Wt.mono (hs : v5 sg sg') (hp : ∀ p ∈ ps, p ∈ qs) : ∀ {t : ae} {c c' : Int}, Wt sg ps t c → c ≤ c' → Wt sg' qs t c'
 | .mk k n s ls args, c, c', h, hc => ⟨fun l hl => (h.1 l hl).mono hp, fQ.mono hs hp h.2.1 hc, h.2.2.imp (fun _ h => ⟨h.1, by omega⟩) fun _ h => hs _ _ h⟩
theorem fQ.mono (hs : v5 sg sg') (hp : ∀ p ∈ ps, p ∈ qs) : ∀ {l : List ae} {b : Bool} {c c' : Int}, fQ sg ps b l c → c ≤ c' → fQ sg' qs b l c'
 | [], b, c, c', _, _ => trivial
 | t :: r, b, c, c', h, hc => ⟨Wt.mono hs hp h.1 (by split <;> omega), fQ.mono hs hp h.2 hc⟩
end
theorem v5.refl (sg : Sg) : v5 sg sg := fun _ _ h => h
variable {c : Int}
theorem Wt.up {c' : Int} (h : Wt sg ps t c) (hc : c ≤ c') : Wt sg ps t c' := h.mono (v5.refl _) (fun _ h => h) hc
mutual
theorem Wt.sh : ∀ {t : ae} {c : Int}, Wt sg ps t c → ∀ {B : Int}, c + t.size ≤ B + 1 → iU B t
 | .mk k n s ls args, c, h, B, hB => by
  simp only [ae.size] at hB
  exact ⟨fun l hl => (h.1 l hl).ok, fQ.sh h.2.1 (by omega), h.2.2.imp (fun _ h => ⟨h.1, by omega⟩) fun _ _ => trivial⟩
theorem fQ.sh : ∀ {l : List ae} {b : Bool} {c : Int}, fQ sg ps b l c → ∀ {B : Int}, c + ai l ≤ B → th B l
 | [], _, _, _, _, _ => trivial
 | t :: r, b, c, h, B, hB => by
  simp only [ai] at hB
  exact ⟨Wt.sh h.1 (by split <;> omega), fQ.sh h.2 (by omega)⟩
end
mutual
theorem Wt.lift {m fr : Int} (hm : 0 ≤ m) : ∀ {t : ae} {c d : Int}, Wt sg ps t c → Wt sg ps (eL (eM m fr) t d) (c + m)
 | .mk k n s ls args, c, d, h => by
  by_cases hk : k = 0
  ·subst hk
   have hv := h.2.2
   rcases hv with hv | hv | hv | hv | hv
   ·obtain ⟨_, ⟨h0, h1⟩, rfl, rfl, ha⟩ := hv
    have ha := List.length_eq_zero_iff.1 ha
    subst ha
    rw [fg, eM]
    split
    ·exact ⟨fun l hl => (by cases hl), trivial, .inl ⟨rfl, ⟨by omega, by omega⟩, rfl, rfl, rfl⟩⟩
    ·exact ⟨fun l hl => (by cases hl), trivial, .inl ⟨rfl, ⟨by omega, by omega⟩, rfl, rfl, rfl⟩⟩
   all_goals omega
  ·rw [eL, if_neg hk]
   refine ⟨h.1, fQ.lift hm h.2.1, ?_⟩
   rw [iz]
   exact h.2.2.imp (fun h => absurd h hk) fun _ h => h
theorem fQ.lift {m fr : Int} (hm : 0 ≤ m) : ∀ {l : List ae} {b : Bool} {c d : Int}, fQ sg ps b l c → fQ sg ps b (b0 (eM m fr) b l d) (c + m)
 | [], b, c, d, _ => by simp [b0, fQ]
 | t :: r, b, c, d, h => by
  rw [b0, fQ]
  refine ⟨?_, fQ.lift hm h.2⟩
  rw [ow]
  have := Wt.lift (fr := fr) hm (d := if (b && r.isEmpty) = true then d + 1 else d) h.1
  refine this.up ?_
  split <;> omega
end
theorem Wt.IT {m fr : Int} (hm : 0 ≤ m) (h : Wt sg ps t c) : Wt sg ps (fT t m fr) (c + m) := by
 rw [fk]; exact h.lift hm
mutual
theorem Wt.inst {v : ae} {c : Int} (hc : 0 ≤ c) (hv : Wt sg ps v c) : ∀ {t : ae} {d : Int}, 0 ≤ d → Wt sg ps t (c + 1 + d) → Wt sg ps (eL (dD v) t d) (c + d)
 | .mk k n s ls args, d, hd, h => by
  by_cases hk : k = 0
  ·subst hk
   rcases h.2.2 with h2 | h2 | h2 | h2 | h2
   ·obtain ⟨_, ⟨h0, h1⟩, rfl, rfl, ha⟩ := h2
    have ha := List.length_eq_zero_iff.1 ha
    subst ha
    rw [fg, dD]
    split
    ·exact ⟨fun l hl => (by cases hl), trivial, .inl ⟨rfl, ⟨by omega, by omega⟩, rfl, rfl, rfl⟩⟩
    ·split
     ·exact hv.IT hd
     ·exact ⟨fun l hl => (by cases hl), trivial, .inl ⟨rfl, ⟨by omega, by omega⟩, rfl, rfl, rfl⟩⟩
   all_goals omega
  ·rw [eL, if_neg hk]
   refine ⟨h.1, fQ.inst hc hv hd h.2.1, ?_⟩
   rw [iz]
   exact h.2.2.imp (fun h => absurd h hk) fun _ h => h
theorem fQ.inst {v : ae} {c : Int} (hc : 0 ≤ c) (hv : Wt sg ps v c) : ∀ {l : List ae} {b : Bool} {d : Int}, 0 ≤ d → fQ sg ps b l (c + 1 + d) → fQ sg ps b (b0 (dD v) b l d) (c + d)
 | [], b, d, _, _ => by simp [b0, fQ]
 | t :: r, b, d, hd, h => by
  rw [b0, fQ]
  refine ⟨?_, fQ.inst hc hv hd h.2⟩
  rw [ow]
  have h1 := h.1
  split at h1
  ·rename_i e
   rw [if_pos e, if_pos e]
   have := Wt.inst hc hv (d := d + 1) (by omega) (h1.up (by omega))
   exact this.up (by omega)
  ·rename_i e
   rw [if_neg e, if_neg e]
   exact Wt.inst hc hv hd h1
end
variable {b v : ae}
theorem Wt.sub (hc : 0 ≤ c) (hb : Wt sg ps b (c + 1)) (hv : Wt sg ps v c) : Wt sg ps (dK b v) c := by
 have := Wt.inst hc hv (t := b) (d := 0) (Int.le_refl _) (by rw [Int.add_zero]; exact hb)
 rwa [Int.add_zero] at this
mutual
theorem Wt.qV {v : ae} {c B : Int} (hc : 0 ≤ c) : ∀ {t : ae} {d : Int}, 0 ≤ d → iU B t → Wt sg ps (eL (dD v) t d) (c + d) → Wt sg ps t (c + 1 + d)
 | .mk k n s ls args, d, hd, hs, h => by
  by_cases hk : k = 0
  ·subst hk
   obtain ⟨h0, _, rfl, rfl, rfl⟩ := pP hs rfl
   rw [fg, dD] at h
   refine ⟨fun l hl => (by cases hl), trivial, .inl ⟨rfl, ⟨h0, ?_⟩, rfl, rfl, rfl⟩⟩
   split at h
   ·omega
   ·split at h
    ·omega
    ·rcases h.2.2 with h2 | h2 | h2 | h2 | h2
     ·have := h2.2.1.2; omega
     all_goals omega
  ·rw [eL, if_neg hk] at h
   refine ⟨h.1, fQ.qV hc hd hs.2.1 h.2.1, ?_⟩
   have h2 := h.2.2
   rw [iz] at h2
   exact h2.imp (fun h => absurd h hk) fun _ h => h
theorem fQ.qV {v : ae} {c B : Int} (hc : 0 ≤ c) : ∀ {l : List ae} {b : Bool} {d : Int}, 0 ≤ d → th B l → fQ sg ps b (b0 (dD v) b l d) (c + d) → fQ sg ps b l (c + 1 + d)
 | [], b, d, _, _, _ => trivial
 | t :: r, b, d, hd, hs, h => by
  rw [b0, fQ, ow] at h
  refine ⟨?_, fQ.qV hc hd hs.2 h.2⟩
  have h1 := h.1
  split at h1
  ·rename_i e
   rw [if_pos e]
   have := Wt.qV hc (d := d + 1) (by omega) hs.1 (h1.up (by omega))
   exact this.up (by omega)
  ·rename_i e
   rw [if_neg e]
   exact Wt.qV hc hd hs.1 h1
end
theorem Wt.HI (hc : 0 ≤ c) (hs : iU B b) (h : Wt sg ps (dK b v) c) : Wt sg ps b (c + 1) := by
 have := Wt.qV (v := v) (B := B) hc (t := b) (d := 0) (Int.le_refl _) hs (by rw [Int.add_zero]; exact h)
 rwa [Int.add_zero] at this
theorem fQ.get : ∀ {l : List ae} {b : Bool} {c : Int} {i : Nat} {t : ae}, fQ sg ps b l c → l[i]? = some t → Wt sg ps t (if b = true ∧ i + 1 = l.length then c + 1 else c)
 | [], b, c, i, t, _, h => by simp at h
 | a :: r, b, c, 0, t, hp, h => by
  simp at h; subst h
  have := hp.1
  cases r <;> simpa using this
 | a :: r, b, c, i + 1, t, hp, h => by
  have := fQ.get (l := r) (i := i) (t := t) hp.2 (by simpa using h)
  simpa only [List.length_cons, Nat.add_right_cancel_iff] using this
theorem Wt.two (h : Wt sg ps (.mk k n s ls args) c) (hk : k = 3 ∨ k = 4 ∨ k = 5) : ∃ a b, args = [a, b] ∧ n = 0 ∧ s = .empty ∧ ls = [] ∧ Wt sg ps a c ∧ Wt sg ps b (if k = 3 then c else c + 1) := by
 rcases h.2.2 with h2 | h2 | h2 | h2 | h2
 ·omega
 ·omega
 ·omega
 ·obtain ⟨_, hn, hs, hl, ha⟩ := h2
  match args, ha with
  | [a, b], _ =>
   have h3 := h.2.1
   simp only [fQ, List.isEmpty_cons, List.isEmpty_nil, Bool.and_false, Bool.and_true, Bool.false_eq_true, if_false, decide_eq_true_eq] at h3
   refine ⟨a, b, rfl, hn, hs, hl, h3.1, ?_⟩
   have h4 := h3.2.1
   by_cases h5 : k = 3
   ·rw [if_pos h5]; rw [if_neg (by omega)] at h4; exact h4
   ·rw [if_neg h5]; rw [if_pos (by omega)] at h4; exact h4
 ·omega
theorem Wt.three (h : Wt sg ps (.mk k n s ls args) c) (hk : k = 6) : ∃ a v b, args = [a, v, b] ∧ n = 0 ∧ s = .empty ∧ ls = [] ∧ Wt sg ps a c ∧ Wt sg ps v c ∧ Wt sg ps b (c + 1) := by
 rcases h.2.2 with h2 | h2 | h2 | h2 | h2
 ·omega
 ·omega
 ·omega
 ·omega
 ·obtain ⟨_, hn, hs, hl, ha⟩ := h2
  match args, ha with
  | [a, v, b], _ =>
   have h3 := h.2.1
   simp only [fQ, List.isEmpty_cons, List.isEmpty_nil, Bool.and_false, Bool.and_true, Bool.false_eq_true, if_false, decide_eq_true_eq] at h3
   refine ⟨a, v, b, rfl, hn, hs, hl, h3.1, h3.2.1, ?_⟩
   have h4 := h3.2.2.1
   rw [if_pos (by omega)] at h4; exact h4
variable {a : ae}
theorem Wt.LD (hk : k = 3 ∨ k = 4 ∨ k = 5) (ha : Wt sg ps a c) (hb : Wt sg ps b (if k = 3 then c else c + 1)) : Wt sg ps (.mk k 0 .empty [] [a, b]) c := by
 refine ⟨fun l hl => (by cases hl), ?_, .inr (.inr (.inr (.inl ⟨hk, rfl, rfl, rfl, rfl⟩)))⟩
 simp only [fQ, List.isEmpty_cons, List.isEmpty_nil, Bool.and_false, Bool.and_true, Bool.false_eq_true, if_false, decide_eq_true_eq]
 refine ⟨ha, ?_, trivial⟩
 by_cases h5 : k = 3
 ·rw [if_pos h5] at hb; rw [if_neg (by omega)]; exact hb
 ·rw [if_neg h5] at hb; rw [if_pos (by omega)]; exact hb
theorem Wt.app (ha : Wt sg ps a c) (hb : Wt sg ps b c) : Wt sg ps (.mk 3 0 .empty [] [a, b]) c := Wt.LD (.inl rfl) ha (by rw [if_pos rfl]; exact hb)
theorem Wt.bind (hk : k = 4 ∨ k = 5) (ha : Wt sg ps a c) (hb : Wt sg ps b (c + 1)) : Wt sg ps (.mk k 0 .empty [] [a, b]) c := Wt.LD (.inr hk) ha (by rw [if_neg (by omega)]; exact hb)
theorem Wt.var (h0 : 0 ≤ n) (h1 : n < c) : Wt sg ps (.mk 0 n .empty [] []) c := ⟨fun l hl => (by cases hl), trivial, .inl ⟨rfl, ⟨h0, h1⟩, rfl, rfl, rfl⟩⟩
theorem Wt.sort (h : gQ ps l) : Wt sg ps (.mk 1 0 .empty [l] []) c := ⟨fun x hx => by simp only [List.mem_singleton] at hx; subst hx; exact h, trivial, .inr (.inl ⟨rfl, rfl, rfl, rfl, rfl⟩)⟩
theorem Wt.apply {f : ae} {bs : List ae} (hf : Wt sg ps f c) (hb : ∀ b ∈ bs, Wt sg ps b c) : Wt sg ps (bN f bs) c := by
 unfold bN
 induction bs generalizing f with
 | nil => exact hf
 | cons a r ih => exact ih (Wt.app hf (hb a List.mem_cons_self)) fun b h => hb b (List.mem_cons_of_mem _ h)
theorem Wt.spine : ∀ (n : Nat) {t : ae} {c : Int}, t.size ≤ n → Wt sg ps t c → tX t ∧ Wt sg ps (bt t).1 c ∧ (∀ b ∈ (bt t).2, Wt sg ps b c) ∧ bN (bt t).1 (bt t).2 = t := by
 intro n
 induction n with
 | zero => intro t c h; obtain ⟨k, m, s, ls, args, rfl⟩ := ae.case t; simp [ae.size] at h
 | succ n ih =>
  intro t c hn h
  obtain ⟨k, m, s, ls, args, rfl⟩ := ae.case t
  by_cases hk : k = 3
  ·subst hk
   obtain ⟨a, b, rfl, rfl, rfl, rfl, ha, hb⟩ := h.two (.inl rfl)
   rw [if_pos rfl] at hb
   simp only [ae.size, ai] at hn
   obtain ⟨h1, h2, h3, h4⟩ := ih (by omega) ha
   rw [wj]
   refine ⟨fun _ => h1, h2, fun x hx => ?_, ?_⟩
   ·rcases List.mem_append.1 hx with hx | hx
    ·exact h3 x hx
    ·simp only [List.mem_singleton] at hx; subst hx; exact hb
   ·show bN (bt a).1 ((bt a).2 ++ [b]) = _
    unfold bN at h4 ⊢
    rw [List.foldl_append, h4]; rfl
  ·rw [yG hk]
   exact ⟨by
    match args with
    | [a, b] => intro e; exact absurd e hk
    | [] => exact hk
    | [a] => exact hk
    | a :: b :: c :: r => exact hk, h, fun b hb => (by cases hb), rfl⟩
end
end Go.Proofs.YtndbnldjidciiaaGreatDoor
namespace Go.Proofs.YtndbnldjidciiaaGreatDoor
open Go Go.Vd Go.RowKit
mutual
def jn (ps : List ByteArray) (us : List aJ) : ae → ae
 | .mk k n s ls args => .mk k n s (ls.map fun x => x.subst ps us) (eZ ps us args)
def eZ (ps : List ByteArray) (us : List aJ) : List ae → List ae
 | [] => []
 | t :: r => jn ps us t :: eZ ps us r
end
theorem q7 {ps : List ByteArray} {us : List aJ} : ∀ l : List ae, (eZ ps us l).length = l.length
 | [] => rfl
 | t :: r => by simp [eZ, q7 r]
theorem wh {ps : List ByteArray} {us : List aJ} : ∀ {l : List ae} {i : Nat} {t : ae}, l[i]? = some t → (eZ ps us l)[i]? = some (jn ps us t)
 | [], i, t, h => by simp at h
 | a :: r, 0, t, h => by simp at h; subst h; simp [eZ]
 | a :: r, i + 1, t, h => by simpa [eZ] using wh (l := r) (i := i) (t := t) (by simpa using h)
variable {i : Nat}
theorem Bh {l : List aJ} {x : aJ} (h : l[i]? = some x) : bF (l.take i) ++ [x.cells] = bF (l.take (i + 1)) := by
 rw [List.take_add_one, h, qy]; rfl
theorem Az {l : List ae} {x : ae} (h : l[i]? = some x) : ba (l.take i) ++ [x.cells] = ba (l.take (i + 1)) := by
 rw [List.take_add_one, h, er]; rfl
theorem tY : ∀ {l : List aJ} {i : Nat} {t : aJ}, l[i]? = some t → t.size ≤ aS l
 | [], i, t, h => by simp at h
 | a :: r, 0, t, h => by simp at h; subst h; simp [aS]
 | a :: r, i + 1, t, h => by
  have := tY (l := r) (i := i) (t := t) (by simpa using h)
  simp [aS]; omega
theorem pN : ∀ l : List aJ, l.length ≤ aS l
 | [] => by simp
 | .mk k s args :: r => by have := pN r; simp [aS, aJ.size]; omega
theorem c7 (l m : List ae) : ai (l ++ m) = ai l + ai m := by
 induction l with
 | nil => simp [ai]
 | cons a r ih => simp [ai, ih]; omega
theorem eV : ∀ (n : Nat) (t : ae), t.size ≤ n → (bt t).1.size + ai (bt t).2 ≤ t.size := by
 intro n
 induction n with
 | zero => intro t h; obtain ⟨k, m, s, ls, args, rfl⟩ := ae.case t; simp [ae.size] at h
 | succ n ih =>
  intro t h
  match t with
  | .mk k m s ls [f, a] =>
   simp only [ae.size, ai] at h
   by_cases hk : k = 3
   ·have h1 := ih f (by omega)
    rw [bt, if_pos hk]
    simp only [c7, ai, ae.size]; omega
   ·rw [bt, if_neg hk]; simp [ai]
  | .mk k m s ls [] => simp [bt, ai]
  | .mk k m s ls [a] => simp [bt, ai]
  | .mk k m s ls (a :: b :: c :: r) => simp [bt, ai]
theorem cI (f : ae) (bs : List ae) : (bN f bs).size = f.size + ai bs + bs.length := by
 unfold bN
 induction bs generalizing f with
 | nil => simp [ai]
 | cons a r ih => rw [List.foldl_cons, ih]; simp only [ae.size, aS, ai, List.length_cons]; omega
end Go.Proofs.YtndbnldjidciiaaGreatDoor
namespace Go.Proofs.YtndbnldjidciiaaGreatDoor
open Go Go.Vd Go.RowKit
theorem DO {ps : List ByteArray} {s : ByteArray} (h : s ∈ ps) : ∃ i, ps.findIdx? (· = s) = some i ∧ i < ps.length := by
 induction ps with
 | nil => cases h
 | cons p r ih =>
  by_cases e : p = s
  ·exact ⟨0, by simp [List.findIdx?_cons, e], by simp⟩
  ·rcases List.mem_cons.1 h with h | h
   ·exact absurd h.symm e
   ·obtain ⟨i, h1, h2⟩ := ih h
    exact ⟨i + 1, by simp [List.findIdx?_cons, e, h1], by simp; omega⟩
theorem jz {ps qs : List ByteArray} {us : List aJ} (hl : ps.length ≤ us.length) (hu : ∀ u ∈ us, gQ qs u) : ∀ x : cB, tq x.bG → (∀ p, x.has p → p ∈ ps) → gQ qs (x.bG.subst ps us)
 | .zero, _, _ => ⟨.zero, rfl, ⟨by decide, by decide, fun e => absurd e (by decide), trivial⟩, fun p h => h.elim⟩
 | .succ a, hf, h => by
  obtain ⟨y, h1, h2, h3⟩ := jz hl hu a hf.2.2.2.1 h
  refine ⟨.succ y, ?_, ⟨by decide, by decide, fun e => absurd e (by decide), h2, trivial⟩, h3⟩
  show aJ.subst ps us (.mk 1 .empty [a.bG]) = .mk 1 .empty [y.bG]
  simp only [aJ.subst, eI, h1]; rfl
 | .max a b, hf, h => by
  obtain ⟨y, h1, h2, h3⟩ := jz hl hu a hf.2.2.2.1 fun p hp => h p (.inl hp)
  obtain ⟨z, g1, g2, g3⟩ := jz hl hu b hf.2.2.2.2.1 fun p hp => h p (.inr hp)
  refine ⟨.max y z, ?_, ⟨by decide, by decide, fun e => absurd e (by decide), h2, g2, trivial⟩, fun p hp => hp.elim (h3 p) (g3 p)⟩
  show aJ.subst ps us (.mk 2 .empty [a.bG, b.bG]) = .mk 2 .empty [y.bG, z.bG]
  simp only [aJ.subst, eI, h1, g1]; rfl
 | .imax a b, hf, h => by
  obtain ⟨y, h1, h2, h3⟩ := jz hl hu a hf.2.2.2.1 fun p hp => h p (.inl hp)
  obtain ⟨z, g1, g2, g3⟩ := jz hl hu b hf.2.2.2.2.1 fun p hp => h p (.inr hp)
  refine ⟨.imax y z, ?_, ⟨by decide, by decide, fun e => absurd e (by decide), h2, g2, trivial⟩, fun p hp => hp.elim (h3 p) (g3 p)⟩
  show aJ.subst ps us (.mk 3 .empty [a.bG, b.bG]) = .mk 3 .empty [y.bG, z.bG]
  simp only [aJ.subst, eI, h1, g1]; rfl
 | .param s, hf, h => by
  obtain ⟨i, h1, h2⟩ := DO (h s rfl)
  have hi : i < us.length := by omega
  show gQ qs (aJ.subst ps us (.mk 4 s []))
  simp only [aJ.subst, if_true, h1]
  rw [List.getD_eq_getElem?_getD, List.getElem?_eq_getElem hi]
  exact hu _ (List.getElem_mem hi)
theorem gQ.subst {ps qs : List ByteArray} {us : List aJ} {l : aJ} (hl : ps.length ≤ us.length) (hu : ∀ u ∈ us, gQ qs u) (h : gQ ps l) : gQ qs (l.subst ps us) := by
 obtain ⟨x, rfl, h2, h3⟩ := h
 exact jz hl hu x h2 h3
theorem yE (ps : List ByteArray) (us : List aJ) (r : List ae) : (eZ ps us r).isEmpty = r.isEmpty := by cases r <;> simp [eZ]
mutual
theorem Wt.Gs {sg : Sg} {ps qs : List ByteArray} {us : List aJ} (hl : ps.length ≤ us.length) (hu : ∀ u ∈ us, gQ qs u) : ∀ {t : ae} {c : Int}, Wt sg ps t c → Wt sg qs (jn ps us t) c
 | .mk k n s ls args, c, h => by
  rw [jn]
  refine ⟨fun l hm => ?_, fQ.Gs hl hu h.2.1, ?_⟩
  ·obtain ⟨x, hx, rfl⟩ := List.mem_map.1 hm
   exact (h.1 x hx).subst hl hu
  ·rw [q7]
   rcases h.2.2 with h | h | h | h | h
   ·exact .inl ⟨h.1, h.2.1, h.2.2.1, by rw [h.2.2.2.1]; rfl, h.2.2.2.2⟩
   ·exact .inr (.inl ⟨h.1, h.2.1, h.2.2.1, by rw [List.length_map]; exact h.2.2.2.1, h.2.2.2.2⟩)
   ·exact .inr (.inr (.inl ⟨h.1, h.2.1, by rw [List.length_map]; exact h.2.2.1, h.2.2.2⟩))
   ·exact .inr (.inr (.inr (.inl ⟨h.1, h.2.1, h.2.2.1, by rw [h.2.2.2.1]; rfl, h.2.2.2.2⟩)))
   ·exact .inr (.inr (.inr (.inr ⟨h.1, h.2.1, h.2.2.1, by rw [h.2.2.2.1]; rfl, h.2.2.2.2⟩)))
theorem fQ.Gs {sg : Sg} {ps qs : List ByteArray} {us : List aJ} (hl : ps.length ≤ us.length) (hu : ∀ u ∈ us, gQ qs u) : ∀ {l : List ae} {b : Bool} {c : Int}, fQ sg ps b l c → fQ sg qs b (eZ ps us l) c
 | [], b, c, _ => by simp [eZ, fQ]
 | t :: r, b, c, h => by
  rw [eZ, fQ, yE]
  exact ⟨Wt.Gs hl hu h.1, fQ.Gs hl hu h.2⟩
end
mutual
def jZ : ae → Int → Nat
 | .mk k n s ls args, v => if k = 0 ∧ n = v then 1 else iZ (decide (4 ≤ k)) args v
def iZ (b : Bool) : List ae → Int → Nat
 | [], _ => 0
 | t :: r, v => jZ t (if b && r.isEmpty then v + 1 else v) + iZ b r v
end
mutual
theorem re (m fr : Int) : ∀ (t : ae) (d : Int), (eL (eM m fr) t d).size = t.size
 | .mk k n s ls args, d => by
  by_cases hk : k = 0
  ·rw [eL, if_pos hk, eM]; split <;> rfl
  ·rw [eL, if_neg hk]; simp only [ae.size, tZ m fr args]
theorem tZ (m fr : Int) : ∀ (l : List ae) (b : Bool) (d : Int), ai (b0 (eM m fr) b l d) = ai l
 | [], b, d => by simp [b0]
 | t :: r, b, d => by simp only [b0, ai, re m fr t, tZ m fr r]
end
theorem iu (t : ae) (m fr : Int) : (fT t m fr).size = t.size := by rw [fk, re]
mutual
theorem wo (v : ae) : ∀ (t : ae) (d : Int), (eL (dD v) t d).size ≤ t.size + jZ t d * v.size
 | .mk k n s ls args, d => by
  by_cases hk : k = 0
  ·rw [eL, if_pos hk, dD, jZ]
   split
   ·rw [if_neg (by omega)]; simp only [ae.size]; omega
   ·split
    ·rw [if_pos ⟨hk, by omega⟩, iu]; simp only [ae.size]; omega
    ·rw [if_neg (by omega)]; simp only [ae.size]; omega
  ·rw [eL, if_neg hk, jZ, if_neg (fun h => hk h.1)]
   have := ua v args (decide (4 ≤ k)) d
   simp only [ae.size]; omega
theorem ua (v : ae) : ∀ (l : List ae) (b : Bool) (d : Int), ai (b0 (dD v) b l d) ≤ ai l + iZ b l d * v.size
 | [], b, d => by simp [b0, ai]
 | t :: r, b, d => by
  have h1 := wo v t (if b && r.isEmpty then d + 1 else d)
  have h2 := ua v r b d
  simp only [b0, ai, iZ, Nat.add_mul]; omega
end
structure JM where
 two : Nat → Nat → Nat
 lam : Nat → Nat → Nat
 LN : Nat → Nat → Nat → Nat
 leaf : Nat
 Lh : Nat
def ft (x : Nat) (ρ : Nat → Nat) : Nat → Nat
 | 0 => x
 | i + 1 => ρ i
def zE (al : JM) : ae → (Nat → Nat) → Nat
 | .mk k n s ls [a, b], ρ => if k = 0 then ρ n.toNat else if 4 ≤ k then al.lam (zE al a ρ) (zE al b (ft al.Lh ρ)) else al.two (zE al a ρ) (zE al b ρ)
 | .mk k n s ls [a, v, b], ρ => if k = 0 then ρ n.toNat else if 4 ≤ k then al.LN (zE al a ρ) (zE al v ρ) (zE al b (ft (zE al v ρ) ρ)) else al.leaf
 | .mk k n s ls _, ρ => if k = 0 then ρ n.toNat else al.leaf
def pO (m d : Nat) (ρ : Nat → Nat) (i : Nat) : Nat := if i < d then ρ i else ρ (i + m)
theorem ub (m d x : Nat) (ρ : Nat → Nat) : pO m (d + 1) (ft x ρ) = ft x (pO m d ρ) := by
 funext i
 cases i with
 | zero => simp [pO, ft]
 | succ i =>
  simp only [pO, ft, Nat.add_lt_add_iff_right]
  split
  ·rfl
  ·rw [show i + 1 + m = (i + m) + 1 by omega]
variable {B : Int}
theorem Gx (al : JM) (m : Nat) : ∀ (n : Nat) (t : ae) (d : Nat) (ρ : Nat → Nat), t.size ≤ n → iU B t → zE al (eL (eM m 0) t d) ρ = zE al t (pO m d ρ) := by
 intro n
 induction n with
 | zero => intro t d ρ h; obtain ⟨k, m, s, ls, args, rfl⟩ := ae.case t; simp [ae.size] at h
 | succ n ih =>
  intro t d ρ hn hs
  obtain ⟨k, v, s, ls, args, rfl⟩ := ae.case t
  by_cases hk : k = 0
  ·subst hk
   obtain ⟨h0, _, rfl, rfl, rfl⟩ := pP hs rfl
   rw [fg, eM]
   simp only [Int.zero_add]
   split
   ·simp only [zE, if_true, pO]
    rw [if_neg (by omega)]; congr 1; omega
   ·simp only [zE, if_true, pO]
    rw [if_pos (by omega)]
  ·rw [eL, if_neg hk]
   have h2 := hs.2.2
   simp only [ae.size] at hn
   rcases h2 with h2 | h2 | h2 | h2 | h2
   ·omega
   ·obtain ⟨_, _, _, _, ha⟩ := h2
    match args, ha with
    | [], _ => simp only [b0, zE, if_neg hk]
   ·obtain ⟨_, _, _, ha⟩ := h2
    match args, ha with
    | [], _ => simp only [b0, zE, if_neg hk]
   ·obtain ⟨hk3, _, _, _, ha⟩ := h2
    match args, ha with
    | [a, b], _ =>
     simp only [ai] at hn
     have h3 := hs.2.1
     simp only [b0, List.isEmpty_cons, List.isEmpty_nil, Bool.and_false, Bool.and_true, Bool.false_eq_true, if_false, decide_eq_true_eq]
     rw [zE, zE, if_neg hk, if_neg hk]
     by_cases h4 : 4 ≤ k
     ·rw [if_pos h4, if_pos h4, if_pos h4, ih a d ρ (by omega) h3.1, ← ub, show (d : Int) + 1 = ((d + 1 : Nat) : Int) by omega, ih b (d + 1) _ (by omega) h3.2.1]
     ·rw [if_neg h4, if_neg h4, if_neg h4, ih a d ρ (by omega) h3.1, ih b d ρ (by omega) h3.2.1]
   ·obtain ⟨hk3, _, _, _, ha⟩ := h2
    match args, ha with
    | [a, v, b], _ =>
     simp only [ai] at hn
     have h3 := hs.2.1
     simp only [b0, List.isEmpty_cons, List.isEmpty_nil, Bool.and_false, Bool.and_true, Bool.false_eq_true, if_false, decide_eq_true_eq]
     rw [zE, zE, if_neg hk, if_neg hk, if_pos (by omega), if_pos (by omega), if_pos (by omega), ih a d ρ (by omega) h3.1, ih v d ρ (by omega) h3.2.1, ← ub, show (d : Int) + 1 = ((d + 1 : Nat) : Int) by omega, ih b (d + 1) _ (by omega) h3.2.2.1]
variable {B' : Int}
theorem Gy (al : JM) (v : ae) (hv : iU B' v) : ∀ (n : Nat) (t : ae) (d : Nat) (ρ : Nat → Nat), t.size ≤ n → iU B t → zE al (eL (dD v) t d) ρ = zE al t (fun i => if i < d then ρ i else if i = d then zE al v (fun j => ρ (j + d)) else ρ (i - 1)) := by
 intro n
 induction n with
 | zero => intro t d ρ h; obtain ⟨k, m, s, ls, args, rfl⟩ := ae.case t; simp [ae.size] at h
 | succ n ih =>
  intro t d ρ hn hs
  obtain ⟨k, w, s, ls, args, rfl⟩ := ae.case t
  have hcons : ∀ x, (fun i => if i < d + 1 then ft x ρ i else if i = d + 1 then zE al v (fun j => ft x ρ (j + (d + 1))) else ft x ρ (i - 1)) = ft x (fun i => if i < d then ρ i else if i = d then zE al v (fun j => ρ (j + d)) else ρ (i - 1)) := by
   intro x
   funext i
   cases i with
   | zero => simp [ft]
   | succ i =>
    simp only [ft, Nat.add_lt_add_iff_right, Nat.add_right_cancel_iff]
    split
    ·rfl
    ·split
     ·rfl
     ·cases i with
      | zero => omega
      | succ i => simp [ft]
  by_cases hk : k = 0
  ·subst hk
   obtain ⟨h0, _, rfl, rfl, rfl⟩ := pP hs rfl
   rw [fg, dD]
   split
   ·simp only [zE, if_true]
    rw [if_pos (by omega)]
   ·split
    ·have hz : zE al (eL (eM (d : Int) 0) v 0) ρ = _ := Gx al d v.size v 0 ρ (Nat.le_refl _) hv
     simp only [zE, if_true]
     rw [if_neg (by omega), if_pos (by omega), fk, hz]
     congr 1
    ·simp only [zE, if_true]
     rw [if_neg (by omega), if_neg (by omega)]; congr 1; omega
  ·rw [eL, if_neg hk]
   have h2 := hs.2.2
   simp only [ae.size] at hn
   rcases h2 with h2 | h2 | h2 | h2 | h2
   ·omega
   ·obtain ⟨_, _, _, _, ha⟩ := h2
    match args, ha with
    | [], _ => simp only [b0, zE, if_neg hk]
   ·obtain ⟨_, _, _, ha⟩ := h2
    match args, ha with
    | [], _ => simp only [b0, zE, if_neg hk]
   ·obtain ⟨hk3, _, _, _, ha⟩ := h2
    match args, ha with
    | [a, b], _ =>
     simp only [ai] at hn
     have h3 := hs.2.1
     simp only [b0, List.isEmpty_cons, List.isEmpty_nil, Bool.and_false, Bool.and_true, Bool.false_eq_true, if_false, decide_eq_true_eq]
     rw [zE, zE, if_neg hk, if_neg hk]
     by_cases h4 : 4 ≤ k
     ·rw [if_pos h4, if_pos h4, if_pos h4, ih a d ρ (by omega) h3.1, ← hcons, show (d : Int) + 1 = ((d + 1 : Nat) : Int) by omega, ih b (d + 1) _ (by omega) h3.2.1]
     ·rw [if_neg h4, if_neg h4, if_neg h4, ih a d ρ (by omega) h3.1, ih b d ρ (by omega) h3.2.1]
   ·obtain ⟨hk3, _, _, _, ha⟩ := h2
    match args, ha with
    | [a, v', b], _ =>
     simp only [ai] at hn
     have h3 := hs.2.1
     simp only [b0, List.isEmpty_cons, List.isEmpty_nil, Bool.and_false, Bool.and_true, Bool.false_eq_true, if_false, decide_eq_true_eq]
     rw [zE, zE, if_neg hk, if_neg hk, if_pos (by omega), if_pos (by omega), if_pos (by omega), ih a d ρ (by omega) h3.1, ih v' d ρ (by omega) h3.2.1, ← hcons, show (d : Int) + 1 = ((d + 1 : Nat) : Int) by omega, ih b (d + 1) _ (by omega) h3.2.2.1]
theorem Ep (al : JM) {b v : ae} (hv : iU B' v) (hb : iU B b) (ρ : Nat → Nat) : zE al (dK b v) ρ = zE al b (ft (zE al v ρ) ρ) := by
 have := Gy al v hv b.size b 0 ρ (Nat.le_refl _) hb
 unfold dK
 have h2 : zE al (eL (dD v) b 0) ρ = _ := this
 rw [h2]
 congr 1
 funext i
 cases i with
 | zero => simp [ft]
 | succ i => simp [ft]
end Go.Proofs.YtndbnldjidciiaaGreatDoor
namespace Go.Vd
def dp.k : dp → Int | .mk k _ _ _ _ _ _ => k
def dp.nm : dp → ByteArray | .mk _ s _ _ _ _ _ => s
def dp.ps : dp → List ByteArray | .mk _ _ p _ _ _ _ => p
def dp.ty : dp → ae | .mk _ _ _ t _ _ _ => t
def dp.vl : dp → ae | .mk _ _ _ _ v _ _ => v
def dp.ar : dp → Int | .mk _ _ _ _ _ a _ => a
def dp.cs : dp → List (ByteArray × ae) | .mk _ _ _ _ _ _ c => c
end Go.Vd
namespace Go.Proofs.YtndbnldjidciiaaGreatDoor
open Go Go.Vd Go.RowKit
structure cq where
 d : dp
 rp : List ByteArray
 rt : ae
def cq.cells (e : cq) : List D := e.d.cells ++ (.sl 1 (strs e.rp) :: e.rt.cells)
def cq.dd (e : cq) : D := .agg e.cells
def nR (l : List cq) : List (List D) := l.map cq.cells
theorem oH (l : List cq) : (nR l).length = l.length := by simp [nR]
theorem Ab (l m : List cq) : nR (l ++ m) = nR l ++ nR m := by simp [nR]
theorem cq.case (x : cq) : ∃ k s ps k1 n1 s1 l1 a1 k2 n2 s2 l2 a2 a cs rp k3 n3 s3 l3 a3, x = ⟨.mk k s ps (.mk k1 n1 s1 l1 a1) (.mk k2 n2 s2 l2 a2) a cs, rp, .mk k3 n3 s3 l3 a3⟩ := by
 obtain ⟨⟨k, s, ps, ⟨k1, n1, s1, l1, a1⟩, ⟨k2, n2, s2, l2, a2⟩, a, cs⟩, rp, ⟨k3, n3, s3, l3, a3⟩⟩ := x
 exact ⟨_, _, _, _, _, _, _, _, _, _, _, _, _, _, _, _, _, _, _, _, _, rfl⟩
variable {l : List cq} {i : Nat}
theorem tD (h : i < l.length) : ∃ k s ps k1 n1 s1 l1 a1 k2 n2 s2 l2 a2 a cs rp k3 n3 s3 l3 a3, l[i]? = some ⟨.mk k s ps (.mk k1 n1 s1 l1 a1) (.mk k2 n2 s2 l2 a2) a cs, rp, .mk k3 n3 s3 l3 a3⟩ := by
 have : l[i]? = some l[i] := by simp [h]
 rw [this]
 obtain ⟨k, s, ps, k1, n1, s1, l1, a1, k2, n2, s2, l2, a2, a, cs, rp, k3, n3, s3, l3, a3, e⟩ := cq.case l[i]
 rw [e]
 exact ⟨_, _, _, _, _, _, _, _, _, _, _, _, _, _, _, _, _, _, _, _, _, rfl⟩
theorem nI {k : Int} {s : ByteArray} {ps : List ByteArray} {k1 n1 : Int} {s1 : ByteArray} {l1 : List aJ} {a1 : List ae} {k2 n2 : Int} {s2 : ByteArray} {l2 : List aJ} {a2 : List ae} {a : Int} {cs : List (ByteArray × ae)} {rp : List ByteArray} {k3 n3 : Int} {s3 : ByteArray} {l3 : List aJ} {a3 : List ae}
 (h : l[i]? = some ⟨.mk k s ps (.mk k1 n1 s1 l1 a1) (.mk k2 n2 s2 l2 a2) a cs, rp, .mk k3 n3 s3 l3 a3⟩) : (nR l)[((i : Nat) : Int).toNat]? = some [.v (.int .i64 k), .v (.string s), .sl 1 (strs ps), .v (.int .i64 k1), .v (.int .i64 n1), .v (.string s1), .sl 3 (bF l1), .sl 5 (ba a1), .v (.int .i64 k2), .v (.int .i64 n2), .v (.string s2), .sl 3 (bF l2), .sl 5 (ba a2), .v (.int .i64 a), .sl 6 (gV cs), .sl 1 (strs rp), .v (.int .i64 k3), .v (.int .i64 n3), .v (.string s3), .sl 3 (bF l3), .sl 5 (ba a3)] := by
 simp [nR, h, cq.cells, dp.Ak, ae.cells]
def HF : dp := .mk 0 .empty [] aI aI 0 []
def xq : cq := ⟨HF, [], aI⟩
def tk : ByteArray := ⟨#[46, 114, 101, 99]⟩
def dL (nm : ByteArray) : List (ByteArray × ae) → Option Nat
 | [] => none
 | c :: r => if c.1 = nm then some 0 else (dL nm r).map (· + 1)
def bB (nm : ByteArray) : List cq → Int × cq × Nat
 | [] => (0, xq, 0)
 | e :: r => if e.d.nm = nm then (e.d.k, e, 0) else
  match dL nm e.d.cs with
  | some i => (4, e, i)
  | none => if e.d.k = 3 ∧ e.d.nm ++ tk = nm then (5, e, 0) else bB nm r
theorem drop_cons {α : Type} {l : List α} {x : α} (h : l[i]? = some x) : l.drop i = x :: l.drop (i + 1) := by
 obtain ⟨hi, rfl⟩ := List.getElem?_eq_some_iff.1 h
 exact List.drop_eq_getElem_cons hi
theorem vg {nm : ByteArray} : ∀ {l : List (ByteArray × ae)} {i : Nat} {c : ByteArray × ae}, (∀ j x, j < i → l[j]? = some x → ¬ x.1 = nm) → l[i]? = some c → c.1 = nm → dL nm l = some i
 | [], i, c, _, h, _ => by simp at h
 | a :: r, 0, c, _, h, e => by simp at h; subst h; simp [dL, e]
 | a :: r, i + 1, c, h0, h, e => by
  have h1 := h0 0 a (by omega) rfl
  rw [dL, if_neg h1, vg (i := i) (fun j x hj hx => h0 (j + 1) x (by omega) (by simpa using hx)) (by simpa using h) e]; rfl
theorem tc {nm : ByteArray} : ∀ {l : List (ByteArray × ae)}, (∀ (j : Nat) x, l[j]? = some x → ¬ x.1 = nm) → dL nm l = none
 | [], _ => rfl
 | a :: r, h0 => by
  rw [dL, if_neg (h0 0 a rfl), tc fun j x hx => h0 (j + 1) x (by simpa using hx)]; rfl
theorem p5 {nm : ByteArray} : ∀ {l : List (ByteArray × ae)} {i : Nat}, dL nm l = some i → ∃ c, l[i]? = some c ∧ c.1 = nm
 | [], i, h => by cases h
 | a :: r, i, h => by
  rw [dL] at h
  split at h
  ·rename_i e
   cases h; exact ⟨a, rfl, e⟩
  ·obtain ⟨j, hj, rfl⟩ := Option.map_eq_some_iff.1 h
   obtain ⟨c, h1, h2⟩ := p5 hj
   exact ⟨c, by simpa using h1, h2⟩
def fZ (nm : ByteArray) (es : List cq) : Option (List ByteArray × ae) :=
 let f := bB nm es
 if f.1 = 0 then none else if f.1 = 4 then (f.2.1.d.cs[f.2.2]?).map fun c => (f.2.1.d.ps, c.2) else if f.1 = 5 then some (f.2.1.rp, f.2.1.rt) else some (f.2.1.d.ps, f.2.1.d.ty)
def eB (es : List cq) : Sg := fun nm => (fZ nm es).map fun t => t.1.length
theorem rB {nm : ByteArray} : ∀ {es : List cq}, (bB nm es).1 ≠ 0 → (bB nm es).2.1 ∈ es
 | [], h => absurd rfl h
 | e :: r, h => by
  rw [bB] at h ⊢
  split
  ·exact List.mem_cons_self
  ·rename_i h1
   rw [if_neg h1] at h
   split
   ·exact List.mem_cons_self
   ·rename_i h2
    rw [h2] at h
    simp only at h
    split
    ·exact List.mem_cons_self
    ·rename_i h3
     rw [if_neg h3] at h
     exact List.mem_cons_of_mem _ (rB h)
theorem nE {nm : ByteArray} : ∀ {es : List cq}, (∀ e ∈ es, e.d.k ≠ 4) → (bB nm es).1 = 4 → ∃ c, (bB nm es).2.1.d.cs[(bB nm es).2.2]? = some c ∧ c.1 = nm
 | [], _, h => by cases h
 | e :: r, hk, h => by
  rw [bB] at h ⊢
  split
  ·rename_i h1
   rw [if_pos h1] at h
   exact absurd h (hk e List.mem_cons_self)
  ·rename_i h1
   rw [if_neg h1] at h
   split
   ·rename_i i h2
    exact p5 h2
   ·rename_i h2
    rw [h2] at h
    simp only at h
    split
    ·rename_i h3
     rw [if_pos h3] at h; cases h
    ·rename_i h3
     rw [if_neg h3] at h
     exact nE (fun e he => hk e (List.mem_cons_of_mem _ he)) h
def bu : ae → Nat
 | .mk k _ _ _ [_, b] => if k = 5 then bu b + 1 else 0
 | _ => 0
end Go.Proofs.YtndbnldjidciiaaGreatDoor
namespace Go.Proofs.YtndbnldjidciiaaGreatDoor
open Go Go.Vd Go.RowKit
attribute [local irreducible] bl br de aj bI cY
variable {g gl : Nat → List D}
theorem uB {F : ae → Int → ae} {b : Bool} {d : Int} {l : List ae} {i : Nat} {t : ae} (h : (b0 F b l d)[i]? = some t) : ba ((b0 F b l d).take i) ++ [t.cells] = ba ((b0 F b l d).take (i + 1)) := by
 rw [List.take_add_one, h, er]; rfl
theorem kF (k m : Int) (s : ByteArray) (ls : List aJ) (args : List ae) (i : Int) (hb : args.length ≤ 1099511627776) : cD Tryz.prog gl 99 [(ae.mk k m s ls args).d, .v (.int .i64 i)] (· = .v (.bool (decide (4 ≤ k) && decide (i = (ba args).length - 1)))) := by
 have hal := bf args
 refine bD Tryz.func99 Tryz.ntmps99 ?_;refine gc 12 ?_
 refine' oa (yt := 14) (d := 8) 6 ?a1 ?b1 ?_
 case a1 =>
  intro hc hK
  refine go 4 ?_;refine gy ?_;refine o1 (nT ?_);refine go 1 ?_; exact hK [_, _, _, _, _, _] rfl rfl
 case b1 =>
  intro _ hK; refine go 6 ?_
  exact hK [_, _, _, _, _, _] rfl
 refine go 4 ?_;refine ez ?_
 rfl
theorem jr (k m : Int) (s : ByteArray) (ls : List aJ) (args bs : List ae) : cD Tryz.prog gl 67 [(ae.mk k m s ls args).d, .sl 5 (ba bs)] (· = (ae.mk k m s ls bs).d) := by
 refine bD Tryz.func67 Tryz.ntmps67 ?_;refine gc 22 ?_;refine ez ?_
 rfl
variable {B : Int}
theorem gi {n0 : Int} (hB : B ≤ 1125899906842624) (h0 : 0 ≤ n0 ∧ n0 ≤ 1099511627776) : ∀ (n : Nat) (k m : Int) (s : ByteArray) (ls : List aJ) (args : List ae) (fr : Int), (ae.mk k m s ls args).size ≤ n → iU B (.mk k m s ls args) → 0 ≤ fr → fr + (ae.mk k m s ls args).size ≤ 1099511627776 →
 cD Tryz.prog gl 55 [(ae.mk k m s ls args).d, .v (.int .i64 n0), .v (.int .i64 fr)] (· = (eL (eM n0 0) (.mk k m s ls args) fr).d) := by
 intro n
 induction n with
 | zero => intro k m s ls args d h; simp [ae.size] at h
 | succ n ih =>
  intro k m s ls args fr hsz hg hd0 hd1
  have hsz2 := hsz
  simp only [ae.size] at hsz2 hd1
  have hal := bf args
  have hsa := bA args
  have hml := iz (eM n0 0) (decide (4 ≤ k)) fr args
  refine bD Tryz.func55 Tryz.ntmps55 ?_;refine gc 14 ?_;refine cj (fun h1 => ?_) (fun h1 => ?_)
  ·refine kc 2 [6, 3, 1, 2] 0 ?_; obtain rfl := h1
   have hgv := pP hg rfl
   obtain ⟨hm0, hm1, rfl, rfl, rfl⟩ := hgv; refine gc 7 ?_;refine cJ (fun h2 => ?_) (fun h2 => ?_)
   ·refine kc 2 [6, 3] 8 ?_;refine ed ((ae.mk 0 m .empty [] []).d) ?_
    rw [fg, eM, if_neg (by omega)]
   refine kc 0 [6, 3, 1] 5 ?_;refine o1 (cw ?_);refine go 7 ?_;refine ed ((ae.mk 0 (m + n0) .empty [] []).d) ?_
   rw [fg, eM, if_pos (by omega)]
  refine kc 2 [6, 3, 1, 2] 12 ?_;refine bq 39 5 rfl ?_;refine lp (ι := Nat) (fun i => [(8, int i), (7, .own 2 5 (ba ((b0 (eM n0 0) (decide (4 ≤ k)) args fr).take i)))]) (fun i => [.cells [.d (.v (.int .i64 k)), .d (.v (.int .i64 m)), .d (.v (.string s)), .d (.sl 3 (bF ls)), .d (.sl 5 (ba args))] 39, .cells [.d (.v (.int .i64 0)), .d (.v (.int .i64 0)), .d (.v (.string .empty)), .d (.v (.slice none 0 0)), .d (.v (.slice none 0 0))] 39, .row 39 5]) [6, 3, 1, 2] (fun i => i ≤ args.length) (fun i => args.length - i) (0) ([0, 1, 2]) rfl ?I2 ?M2 ?H2
  case I2 =>
   exact Nat.zero_le _
  case M2 =>
   refine mo ?_ (aH (eh rfl (by (rw [List.take_zero]; exact Fit.nil rfl)) (aH (aH (aH (aH dF))))))
   repeat (first | exact cW | refine bh ?_ | refine p6 ?_)
  case H2 =>
   rintro i hinv
   try dsimp only at hinv
   refine kc 0 [8, 7, 6, 3, 1, 2] 10 ?_;refine cJ (fun h7 => ?_) (fun h7 => ?_)
   ·refine kc 6 [7, 6, 3] 0 ?_; obtain rfl : i = args.length := (by omega)
    rw [List.take_of_length_le (by omega)]
    have hws := jr (gl := gl) k m s ls args (b0 (eM n0 0) (decide (4 ≤ k)) args fr)
    refine gc 3 ?_;refine oc (cv D9 rfl rfl (hws) (bd (bd .nil)) ?_);refine go 4 ?_;refine ed ((ae.mk k m s ls (b0 (eM n0 0) (decide (4 ≤ k)) args fr)).d) ?_
    rw [eL, if_neg h1]
   refine kc 5 [8, 7, 6, 3, 1, 2] 0 ?_
   obtain ⟨k2, m2, s2, l2, a2, hget⟩ := bQ (show i < args.length by omega)
   have hg1 := bC hget
   have hg2 := rn (eM n0 0) (decide (4 ≤ k)) fr hget
   have hgg := uc hg.2.1 hget
   obtain ⟨k3, m3, s3, l3, a3, hY⟩ := ae.case (eL (eM n0 0) (.mk k2 m2 s2 l2 a2) (if decide (4 ≤ k) = true ∧ i + 1 = args.length then fr + 1 else fr)); refine gc 10 ?_;refine oc (cv Hq rfl rfl (kF k m s ls args i (by omega)) (bd (an .nil)) ?_);refine ko 2 [33, 9, 8, 7, 6, 3, 1, 2] 0 ?_;refine xc (ι := Unit) (fun _ => [(9, int (if decide (4 ≤ k) = true ∧ i + 1 = args.length then fr + 1 else fr))]) [8, 7, 6, 3, 1, 2] (fun _ => True) rfl ?A3 ?B3
   case A3 =>
    refine cJ (fun h10 => ?_) (fun h10 => ?_)
    ·refine gc 1 ?_;refine bi (()) rfl ?_ ?_
     ·trivial
     ·refine mo ?_ (eh rfl (by exact Fit.of_eq (by first | (rw [if_pos (by simp only [decide_eq_true_eq]; omega)]; rfl) | (rw [if_neg (by simp only [decide_eq_true_eq]; omega)]; rfl))) (aH (aH (aH (aH (aH (aH dF)))))))
      repeat (first | exact cW | refine bh ?_ | refine cu ?_)
    refine gc 2 ?_;refine o1 (cw ?_);refine go 2 ?_;refine bi (()) rfl ?_ ?_
    ·trivial
    ·refine mo ?_ (eh rfl (by exact Fit.of_eq (by first | (rw [if_pos (by simp only [decide_eq_true_eq]; omega)]; rfl) | (rw [if_neg (by simp only [decide_eq_true_eq]; omega)]; rfl))) (aH (aH (aH (aH (aH (aH dF)))))))
     repeat (first | exact cW | refine bh ?_ | refine cu ?_)
   case B3 =>
    rintro _ hcut
    try dsimp only at hcut
    refine kp [9, 8, 7, 6, 3, 1, 2] ?_
    have hihx := ih k2 m2 s2 l2 a2 (if decide (4 ≤ k) = true ∧ i + 1 = args.length then fr + 1 else fr) (by omega) hgg (by split <;> omega) (by split <;> omega)
    rw [hY] at hihx hg2
    have hnx : ba ((b0 (eM n0 0) (decide (4 ≤ k)) args fr).take i) ++ [[.v (.int .i64 k3), .v (.int .i64 m3), .v (.string s3), .sl 3 (bF l3), .sl 5 (ba a3)]] = ba ((b0 (eM n0 0) (decide (4 ≤ k)) args fr).take (i + 1)) := uB hg2
    have htl := bf ((b0 (eM n0 0) (decide (4 ≤ k)) args fr).take i)
    have htk := List.length_take (i := i) (l := b0 (eM n0 0) (decide (4 ≤ k)) args fr)
    refine gc 5 ?_;refine o1 (bV bE bK ?_ (he := by exact (bY hget)));refine go 3 ?_;refine oc (cv Am rfl rfl (hihx) (bd (an (an .nil))) ?_);refine oc (gR fA [.tmp 44] bM ?_);refine oc (nU fA ?_);refine ko 4 [7, 8, 6, 3, 1, 2] 2 ?_;refine o1 (cw ?_);refine go 2 ?_
    rw [hnx]
    refine bk (i + 1) rfl ?_ [0, 1, 2] mz
    exact ⟨by omega, by omega⟩
theorem vN (hB : B ≤ 1125899906842624) (kv nv : Int) (sv : ByteArray) (lv : List aJ) (av : List ae) (hgv' : iU B (.mk kv nv sv lv av)) (hsv : (ae.mk kv nv sv lv av).size ≤ 1099511627776) : ∀ (n : Nat) (k m : Int) (s : ByteArray) (ls : List aJ) (args : List ae) (fr : Int), (ae.mk k m s ls args).size ≤ n → iU B (.mk k m s ls args) → 0 ≤ fr → fr + (ae.mk k m s ls args).size ≤ 1099511627776 →
 cD Tryz.prog gl 121 [(ae.mk k m s ls args).d, (ae.mk kv nv sv lv av).d, .v (.int .i64 fr)] (· = (eL (dD (.mk kv nv sv lv av)) (.mk k m s ls args) fr).d) := by
 intro n
 induction n with
 | zero => intro k m s ls args d h; simp [ae.size] at h
 | succ n ih =>
  intro k m s ls args fr hsz hg hd0 hd1
  have hsz2 := hsz
  simp only [ae.size] at hsz2 hd1
  have hal := bf args
  have hsa := bA args
  have hml := iz (dD (.mk kv nv sv lv av)) (decide (4 ≤ k)) fr args
  refine bD Tryz.func121 Tryz.ntmps121 ?_;refine gc 15 ?_;refine cj (fun h1 => ?_) (fun h1 => ?_)
  ·refine kc 2 [6, 4, 3, 2] 0 ?_; obtain rfl := h1
   have hgv := pP hg rfl
   obtain ⟨hm0, hm1, rfl, rfl, rfl⟩ := hgv
   have hli := gi (gl := gl) (n0 := fr) hB ⟨hd0, by omega⟩ _ kv nv sv lv av 0 (Nat.le_refl _) hgv' (Int.le_refl _) (by omega)
   rw [← fk] at hli
   obtain ⟨k1, m1, s1, l1, a1, hX⟩ := ae.case (fT (.mk kv nv sv lv av) fr 0)
   rw [hX] at hli
   refine gc 7 ?_;refine cj (fun h2 => ?_) (fun h2 => ?_)
   ·refine kc 0 [6, 4, 2] 4 ?_;refine oc (cv Am rfl rfl (hli) (bd (an (an .nil))) ?_);refine go 6 ?_;refine ed ((ae.mk k1 m1 s1 l1 a1).d) ?_
    rw [fg, dD, if_neg (by omega), if_pos (by omega), hX]
   refine kc 3 [6, 3, 2] 8 ?_;refine cJ (fun h4 => ?_) (fun h4 => ?_)
   ·refine kc 2 [6, 3] 8 ?_;refine ed ((ae.mk 0 m .empty [] []).d) ?_
    rw [fg, dD, if_pos (by omega)]
   refine kc 0 [6, 3] 4 ?_;refine o1 (nT ?_);refine go 7 ?_;refine ed ((ae.mk 0 (m - 1) .empty [] []).d) ?_
   rw [fg, dD, if_neg (by omega), if_neg (by omega)]
  refine kc 2 [6, 4, 3, 2] 12 ?_;refine bq 39 5 rfl ?_;refine lp (ι := Nat) (fun i => [(8, int i), (7, .own 3 5 (ba ((b0 (dD (.mk kv nv sv lv av)) (decide (4 ≤ k)) args fr).take i)))]) (fun i => [.cells [.d (.v (.int .i64 k)), .d (.v (.int .i64 m)), .d (.v (.string s)), .d (.sl 3 (bF ls)), .d (.sl 5 (ba args))] 39, .cells [.d (.v (.int .i64 kv)), .d (.v (.int .i64 nv)), .d (.v (.string sv)), .d (.sl 3 (bF lv)), .d (.sl 5 (ba av))] 39, .cells [.d (.v (.int .i64 0)), .d (.v (.int .i64 0)), .d (.v (.string .empty)), .d (.v (.slice none 0 0)), .d (.v (.slice none 0 0))] 39, .row 39 5]) [6, 4, 3, 2] (fun i => i ≤ args.length) (fun i => args.length - i) (0) ([0, 1, 2, 3]) rfl ?I4 ?M4 ?H4
  case I4 =>
   exact Nat.zero_le _
  case M4 =>
   refine mo ?_ (aH (eh rfl (by (rw [List.take_zero]; exact Fit.nil rfl)) (aH (aH (aH (aH dF))))))
   repeat (first | exact cW | refine bh ?_ | refine p6 ?_)
  case H4 =>
   rintro i hinv
   try dsimp only at hinv
   refine kc 0 [8, 7, 6, 4, 3, 2] 10 ?_;refine cJ (fun h9 => ?_) (fun h9 => ?_)
   ·refine kc 6 [7, 6, 3] 0 ?_; obtain rfl : i = args.length := (by omega)
    rw [List.take_of_length_le (by omega)]
    have hws := jr (gl := gl) k m s ls args (b0 (dD (.mk kv nv sv lv av)) (decide (4 ≤ k)) args fr)
    refine gc 3 ?_;refine oc (cv D9 rfl rfl (hws) (bd (bd .nil)) ?_);refine go 4 ?_;refine ed ((ae.mk k m s ls (b0 (dD (.mk kv nv sv lv av)) (decide (4 ≤ k)) args fr)).d) ?_
    rw [eL, if_neg h1]
   refine kc 5 [8, 7, 6, 4, 3, 2] 0 ?_
   obtain ⟨k2, m2, s2, l2, a2, hget⟩ := bQ (show i < args.length by omega)
   have hg1 := bC hget
   have hg2 := rn (dD (.mk kv nv sv lv av)) (decide (4 ≤ k)) fr hget
   have hgg := uc hg.2.1 hget
   obtain ⟨k3, m3, s3, l3, a3, hY⟩ := ae.case (eL (dD (.mk kv nv sv lv av)) (.mk k2 m2 s2 l2 a2) (if decide (4 ≤ k) = true ∧ i + 1 = args.length then fr + 1 else fr)); refine gc 10 ?_;refine oc (cv Hq rfl rfl (kF k m s ls args i (by omega)) (bd (an .nil)) ?_);refine ko 2 [39, 9, 8, 7, 6, 4, 3, 2] 0 ?_;refine xc (ι := Unit) (fun _ => [(9, int (if decide (4 ≤ k) = true ∧ i + 1 = args.length then fr + 1 else fr))]) [8, 7, 6, 4, 3, 2] (fun _ => True) rfl ?A5 ?B5
   case A5 =>
    refine cJ (fun h12 => ?_) (fun h12 => ?_)
    ·refine gc 1 ?_;refine bi (()) rfl ?_ ?_
     ·trivial
     ·refine mo ?_ (eh rfl (by exact Fit.of_eq (by first | (rw [if_pos (by simp only [decide_eq_true_eq]; omega)]; rfl) | (rw [if_neg (by simp only [decide_eq_true_eq]; omega)]; rfl))) (aH (aH (aH (aH (aH (aH dF)))))))
      repeat (first | exact cW | refine bh ?_ | refine cu ?_)
    refine gc 2 ?_;refine o1 (cw ?_);refine go 2 ?_;refine bi (()) rfl ?_ ?_
    ·trivial
    ·refine mo ?_ (eh rfl (by exact Fit.of_eq (by first | (rw [if_pos (by simp only [decide_eq_true_eq]; omega)]; rfl) | (rw [if_neg (by simp only [decide_eq_true_eq]; omega)]; rfl))) (aH (aH (aH (aH (aH (aH dF)))))))
     repeat (first | exact cW | refine bh ?_ | refine cu ?_)
   case B5 =>
    rintro _ hcut
    try dsimp only at hcut
    refine kp [9, 8, 7, 6, 4, 3, 2] ?_
    have hihx := ih k2 m2 s2 l2 a2 (if decide (4 ≤ k) = true ∧ i + 1 = args.length then fr + 1 else fr) (by omega) hgg (by split <;> omega) (by split <;> omega)
    rw [hY] at hihx hg2
    have hnx : ba ((b0 (dD (.mk kv nv sv lv av)) (decide (4 ≤ k)) args fr).take i) ++ [[.v (.int .i64 k3), .v (.int .i64 m3), .v (.string s3), .sl 3 (bF l3), .sl 5 (ba a3)]] = ba ((b0 (dD (.mk kv nv sv lv av)) (decide (4 ≤ k)) args fr).take (i + 1)) := uB hg2
    have htl := bf ((b0 (dD (.mk kv nv sv lv av)) (decide (4 ≤ k)) args fr).take i)
    have htk := List.length_take (i := i) (l := b0 (dD (.mk kv nv sv lv av)) (decide (4 ≤ k)) args fr)
    refine gz [0, 1, 2, 3] mixed ?_;refine A1 4 rfl (bV bE bK ⟨_, rfl, ?_⟩ (he := by exact (bY hget)));refine ga [5, 6, 7] ?_;refine A2 8 rfl (cv Ig rfl rfl (hihx) (bd (bd (an .nil))) ?_);refine A2 9 rfl (gR fA [.tmp 50] bM ?_);refine A2 10 rfl (nU fA ?_);refine ga [11] ?_;refine aQ ?_;refine ke 2 [7, 8, 6, 4, 3, 2] 2 ?_;refine o1 (cw ?_);refine go 2 ?_
    rw [hnx]
    refine bk (i + 1) rfl ?_ [0, 1, 2, 3] mz
    exact ⟨by omega, by omega⟩
theorem oz (hB : B ≤ 1125899906842624) (kv nv : Int) (sv : ByteArray) (lv : List aJ) (av : List ae) (hgv : iU B (.mk kv nv sv lv av)) (hsv : (ae.mk kv nv sv lv av).size ≤ 1099511627776) (k m : Int) (s : ByteArray) (ls : List aJ) (args : List ae) (hg : iU B (.mk k m s ls args)) (hsz : (ae.mk k m s ls args).size ≤ 1099511627776) :
 cD Tryz.prog gl 82 [(ae.mk k m s ls args).d, (ae.mk kv nv sv lv av).d] (· = (dK (.mk k m s ls args) (.mk kv nv sv lv av)).d) := by
 have hc := vN (gl := gl) hB kv nv sv lv av hgv hsv _ k m s ls args 0 (Nat.le_refl _) hg (Int.le_refl _) (by omega)
 rw [dK]
 obtain ⟨k1, m1, s1, l1, a1, hX⟩ := ae.case (eL (dD (.mk kv nv sv lv av)) (.mk k m s ls args) 0)
 rw [hX] at hc ⊢
 refine bD Tryz.func82 Tryz.ntmps82 ?_;refine gc 11 ?_;refine oc (cv Ig rfl rfl (hc) (bd (bd (an .nil))) ?_);refine go 4 ?_;refine ez ?_
 rfl
end Go.Proofs.YtndbnldjidciiaaGreatDoor
namespace Go.Proofs.YtndbnldjidciiaaGreatDoor
open Go Go.Vd Go.RowKit
attribute [local irreducible] bl br de aj bI cY
variable {g gl : Nat → List D}
theorem o4 (n : Int) : cD Tryz.prog gl 83 [.v (.int .i64 n)] (· = (ae.mk 0 n .empty [] []).d) := by
 refine bD Tryz.func83 Tryz.ntmps83 ?_;refine gc 13 ?_;refine ed ((ae.mk 0 n .empty [] []).d) ?_
 rfl
theorem iE (k : Int) (s : ByteArray) (args : List aJ) : cD Tryz.prog gl 57 [(aJ.mk k s args).d] (· = (ae.mk 1 0 .empty [.mk k s args] []).d) := by
 refine bD Tryz.func57 Tryz.ntmps57 ?_;refine gc 9 ?_;refine oc (gR jD [.tmp 3] dB ?_);refine go 5 ?_;refine ed ((ae.mk 1 0 .empty [.mk k s args] []).d) ?_
 rfl
theorem qz (k m : Int) (s : ByteArray) (ls : List aJ) (args : List ae) (k2 m2 : Int) (s2 : ByteArray) (ls2 : List aJ) (args2 : List ae) : cD Tryz.prog gl 62 [(ae.mk k m s ls args).d, (ae.mk k2 m2 s2 ls2 args2).d] (· = (ae.mk 5 0 .empty [] [.mk k m s ls args, .mk k2 m2 s2 ls2 args2]).d) := by
 refine bD Tryz.func62 Tryz.ntmps62 ?_;refine gc 11 ?_;refine oc (gR fA [.tmp 5, .tmp 6] bM ?_);refine go 5 ?_;refine ed ((ae.mk 5 0 .empty [] [.mk k m s ls args, .mk k2 m2 s2 ls2 args2]).d) ?_
 rfl
theorem DF (k m : Int) (s : ByteArray) (ls : List aJ) (args : List ae) (k2 m2 : Int) (s2 : ByteArray) (ls2 : List aJ) (args2 : List ae) : cD Tryz.prog gl 151 [(ae.mk k m s ls args).d, (ae.mk k2 m2 s2 ls2 args2).d] (· = (ae.mk 4 0 .empty [] [.mk k m s ls args, .mk k2 m2 s2 ls2 args2]).d) := by
 refine bD Tryz.func151 Tryz.ntmps151 ?_;refine gc 11 ?_;refine oc (gR fA [.tmp 5, .tmp 6] bM ?_);refine go 5 ?_;refine ed ((ae.mk 4 0 .empty [] [.mk k m s ls args, .mk k2 m2 s2 ls2 args2]).d) ?_
 rfl
theorem cR (k m : Int) (s : ByteArray) (ls : List aJ) (args : List ae) (k2 m2 : Int) (s2 : ByteArray) (ls2 : List aJ) (args2 : List ae) : cD Tryz.prog gl 66 [(ae.mk k m s ls args).d, (ae.mk k2 m2 s2 ls2 args2).d] (· = (ae.mk 3 0 .empty [] [.mk k m s ls args, .mk k2 m2 s2 ls2 args2]).d) := by
 refine bD Tryz.func66 Tryz.ntmps66 ?_;refine gc 11 ?_;refine oc (gR fA [.tmp 5, .tmp 6] bM ?_);refine go 5 ?_;refine ed ((ae.mk 3 0 .empty [] [.mk k m s ls args, .mk k2 m2 s2 ls2 args2]).d) ?_
 rfl
theorem wi (l : List ByteArray) (i : Nat) : (strs l).take ((i : Nat) : Int).toNat = strs (l.take i) := by simp [strs, List.map_take]
theorem uw {l : List ByteArray} {i : Nat} (hi : i < l.length) (h : (l.take i).Nodup) (hm : tl l[i] (l.take i) = false) : (l.take (i + 1)).Nodup := by
 rw [List.take_add_one, List.getElem?_eq_getElem hi, List.nodup_append]
 refine ⟨h, by simp, fun x hx y hy e => ?_⟩
 simp at hy; subst hy e
 rw [gP.2 hx] at hm; cases hm
theorem tM (l : List ByteArray) (hb : l.length ≤ 1099511627776) : cD Tryz.prog gl 161 [c6 l] fun d => ∃ b : Bool, d = .v (.bool b) ∧ (b = false → l.length ≤ 6 ∧ l.Nodup) := by
 have hlen := bU l
 refine bD Tryz.func161 Tryz.ntmps161 ?_;refine kc 12 [3, 0] 0 ?_;refine lP (ι := Nat) (fun i => [(3, int i)]) [0] (fun i => i ≤ l.length ∧ (l.take i).Nodup) (fun i => l.length - i) (0) rfl ?I1 ?M1 ?H1
 case I1 =>
  exact ⟨Nat.zero_le _, by simp⟩
 case M1 =>
  exact mz
 case H1 =>
  rintro i hinv
  try dsimp only at hinv
  refine kc 0 [3, 0] 9 ?_;refine cJ (fun h2 => ?_) (fun h2 => ?_)
  ·refine kc 5 [0] 9 ?_;refine ez ?_
   have h9 := hinv.2; rw [List.take_of_length_le (by omega)] at h9; exact ⟨_, rfl, fun h => ⟨by simp only [decide_eq_false_iff_not] at h; omega, h9⟩⟩
  refine kc 5 [3, 0] 0 ?_
  have hst := wi l i
  refine gz [0, 1] mixed ?_;refine A1 2 rfl (bV jW lF ⟨_, rfl, ?_⟩ (he := by exact (fX (by omega))));refine ga [3, 4, 5] ?_;refine A1 6 rfl (gT jW lF rfl rfl rfl rfl rfl rfl (by omega) (hst) ⟨_, rfl, ?_⟩);refine A2 7 rfl (cv xm rfl rfl (iJ (l[i]'(by omega)) (l.take i) (by rw [List.length_take]; omega)) (an (an .nil)) ?_);refine ga [8] ?_;refine aQ ?_;refine ke 1 [4, 3, 0] 5 ?_;refine cj (fun h5 => ?_) (fun h5 => ?_)
  ·refine kc 0 [] 11 ?_;refine ez ?_
   exact ⟨true, rfl, fun h => by cases h⟩
  refine gc 5 ?_;refine o1 (cw ?_);refine go 2 ?_;refine bi (i + 1) rfl ?_ mz
  exact ⟨⟨by omega, uw (by omega) hinv.2 h5⟩, by omega⟩
end Go.Proofs.YtndbnldjidciiaaGreatDoor
namespace Go.Vd
open Go Go.RowKit
theorem cB.eX : ∀ (l : cB) {ah : List ByteArray}, ah.Nodup → (l.params ah).Nodup
 | .zero, _, h => h
 | .succ a, _, h => a.eX h
 | .max a b, _, h => b.eX (a.eX h)
 | .imax a b, _, h => b.eX (a.eX h)
 | .param s, ah, h => by
  simp only [cB.params]
  split
  ·exact h
  ·rename_i h2
   rw [List.nodup_append]
   refine ⟨h, by simp, fun x hx y hy e => ?_⟩
   simp at hy; subst hy e
   exact h2 (gP.2 hx)
theorem cB.iv : ∀ (l : cB) {ah : List ByteArray} {p : ByteArray}, p ∈ l.params ah → p ∈ ah ∨ l.has p
 | .zero, _, _, h => .inl h
 | .succ a, _, _, h => a.iv h
 | .max a b, _, _, h => (b.iv h).elim (fun h => (a.iv h).imp (fun h => h) .inl) (fun h => .inr (.inr h))
 | .imax a b, _, _, h => (b.iv h).elim (fun h => (a.iv h).imp (fun h => h) .inl) (fun h => .inr (.inr h))
 | .param s, ah, p, h => by
  simp only [cB.params] at h
  split at h
  ·exact .inl h
  ·rcases List.mem_append.1 h with h | h
   ·exact .inl h
   ·simp at h; exact .inr h
end Go.Vd
namespace Go.Proofs.YtndbnldjidciiaaGreatDoor
open Go Go.Vd Go.RowKit
attribute [local irreducible] bl br de aj bI cY
variable {g gl : Nat → List D}
variable {B : Int}
theorem EH {k n : Int} {s : ByteArray} {ls : List aJ} {args : List ae} (h : iU B (.mk k n s ls args)) (hk : k = 3 ∨ k = 4 ∨ k = 5) : ∃ k1 n1 s1 l1 a1 k2 n2 s2 l2 a2, args = [.mk k1 n1 s1 l1 a1, .mk k2 n2 s2 l2 a2] ∧ iU B (.mk k1 n1 s1 l1 a1) ∧ iU B (.mk k2 n2 s2 l2 a2) := by
 rcases h.2.2 with h2 | h2 | h2 | h2 | h2
 ·omega
 ·omega
 ·omega
 ·obtain ⟨_, hn, hs, hl, ha⟩ := h2
  match args, ha with
  | [⟨k1, n1, s1, l1, a1⟩, ⟨k2, n2, s2, l2, a2⟩], _ => exact ⟨_, _, _, _, _, _, _, _, _, _, rfl, h.2.1.1, h.2.1.2.1⟩
 ·omega
theorem dX : ∀ (n : Nat) (t : ae), t.size ≤ n → bu t < t.size + 1 := by
 intro n
 induction n with
 | zero => intro t h; obtain ⟨k, m, s, ls, args, rfl⟩ := ae.case t; simp [ae.size] at h
 | succ n ih =>
  intro t h
  match t with
  | .mk k m s ls [a, b] =>
   rw [bu]
   simp only [ae.size, ai] at h ⊢
   have := ih b (by omega)
   split <;> omega
  | .mk k m s ls [] => simp [bu]
  | .mk k m s ls [a] => simp [bu]
  | .mk k m s ls (a :: b :: c :: r) => simp [bu]
theorem gJ (k m : Int) (s : ByteArray) (ls : List aJ) (args : List ae) (hs : iU B (.mk k m s ls args)) (hz : (ae.mk k m s ls args).size ≤ 1099511627776) : cD Tryz.prog gl 122 [(ae.mk k m s ls args).d] (· = .v (.int .i64 (bu (.mk k m s ls args)))) := by
 have hp := dX _ (.mk k m s ls args) (Nat.le_refl _)
 generalize hr : bu (.mk k m s ls args) = r at hp ⊢
 have hr2 := hr
 refine bD Tryz.func122 Tryz.ntmps122 ?_;refine kc 13 [3, 1] 0 ?_;refine lp (ι := Nat × Int × Int × ByteArray × List aJ × List ae) (fun ⟨i, k', m', s', ls', args'⟩ => [(3, int i)]) (fun ⟨i, k', m', s', ls', args'⟩ => [.cells [.d (.v (.int .i64 k')), .d (.v (.int .i64 m')), .d (.v (.string s')), .d (.sl 3 (bF ls')), .d (.sl 5 (ba args'))] 39]) [1] (fun ⟨i, k', m', s', ls', args'⟩ => r = i + bu (.mk k' m' s' ls' args') ∧ iU B (.mk k' m' s' ls' args')) (fun ⟨i, k', m', s', ls', args'⟩ => (ae.mk k' m' s' ls' args').size) ((0, k, m, s, ls, args)) ([0]) rfl ?I1 ?M1 ?H1
 case I1 =>
  exact ⟨by rw [Nat.zero_add]; exact hr.symm, hs⟩
 case M1 =>
  exact mz
 case H1 =>
  rintro ⟨i, k', m', s', ls', args'⟩ hinv
  try dsimp only at hinv
  refine kc 0 [3, 1] 8 ?_;refine cJ (fun h2 => ?_) (fun h2 => ?_)
  ·refine kc 5 [3] 7 ?_;refine ez ?_
   have hp1 := hinv.1; have : bu (.mk k' m' s' ls' args') = 0 := (by match args' with | [a, b] => (rw [bu, if_neg h2]) | [] => rfl | [a] => rfl | a :: b :: c :: r => rfl); rw [this] at hp1; rw [hp1]; rfl
  refine gc 4 ?_
  obtain ⟨k1, m1, s1, l1, a1, k2, m2, s2, l2, a2, rfl, hs1, hs2⟩ := EH hinv.2 (.inr (.inr h2))
  have hp1 := hinv.1
  rw [bu, if_pos h2] at hp1
  refine gc 2 ?_;refine o1 (cw ?_);refine ko 3 [3, 1] 3 ?_;refine o1 (bV bE bK ?_ (he := by exact (rfl)));refine go 4 ?_;refine bk (i + 1, k2, m2, s2, l2, a2) rfl ?_ [0] mz
  exact ⟨⟨by rw [hinv.1, bu, if_pos h2]; omega, hs2⟩, by simp only [ae.size, ai]; omega⟩
def eU : Nat → ae → ae
 | 0, t => t
 | n + 1, .mk k m s ls [a, b] => eU n b
 | n + 1, t => t
theorem qK (n : Nat) (k m : Int) (s : ByteArray) (ls : List aJ) (args : List ae) (hs : iU B (.mk k m s ls args)) (hn : n ≤ bu (.mk k m s ls args)) (hz : (ae.mk k m s ls args).size ≤ 1099511627776) : cD Tryz.prog gl 162 [(ae.mk k m s ls args).d, .v (.int .i64 n)] (· = (eU n (.mk k m s ls args)).d) := by
 have hp := dX _ (.mk k m s ls args) (Nat.le_refl _)
 obtain ⟨kR, mR, sR, lR, aR, hR⟩ := ae.case (eU n (.mk k m s ls args))
 rw [hR]
 refine bD Tryz.func162 Tryz.ntmps162 ?_;refine kc 13 [5, 4, 2, 1] 0 ?_;refine lp (ι := Nat × Int × Int × ByteArray × List aJ × List ae) (fun ⟨i, k', m', s', ls', args'⟩ => [(5, int i)]) (fun ⟨i, k', m', s', ls', args'⟩ => [.cells [.d (.v (.int .i64 k')), .d (.v (.int .i64 m')), .d (.v (.string s')), .d (.sl 3 (bF ls')), .d (.sl 5 (ba args'))] 39, .cells [.d (.v (.int .i64 0)), .d (.v (.int .i64 0)), .d (.v (.string .empty)), .d (.v (.slice none 0 0)), .d (.v (.slice none 0 0))] 39]) [4, 2, 1] (fun ⟨i, k', m', s', ls', args'⟩ => i ≤ n ∧ n - i ≤ bu (.mk k' m' s' ls' args') ∧ eU (n - i) (.mk k' m' s' ls' args') = .mk kR mR sR lR aR ∧ iU B (.mk k' m' s' ls' args')) (fun ⟨i, k', m', s', ls', args'⟩ => n - i) ((0, k, m, s, ls, args)) ([0, 1]) rfl ?I2 ?M2 ?H2
 case I2 =>
  exact ⟨Nat.zero_le _, hn, hR, hs⟩
 case M2 =>
  exact mz
 case H2 =>
  rintro ⟨i, k', m', s', ls', args'⟩ hinv
  try dsimp only at hinv
  refine kc 0 [5, 4, 2, 1] 8 ?_;refine cJ (fun h2 => ?_) (fun h2 => ?_)
  ·refine kc 6 [4, 2] 0 ?_
   have h9 := hinv.2.2.1
   rw [show n - i = 0 by omega] at h9
   simp only [eU, ae.mk.injEq] at h9
   obtain ⟨rfl, rfl, rfl, rfl, rfl⟩ := h9; refine gc 6 ?_;refine ez ?_
   rfl
  refine gc 4 ?_
  have hk5 : k' = 5 := Classical.byContradiction fun h => by
   have : bu (.mk k' m' s' ls' args') = 0 := (by match args' with | [a, b] => (rw [bu, if_neg h]) | [] => rfl | [a] => rfl | a :: b :: c :: r => rfl)
   omega
  obtain ⟨k1, m1, s1, l1, a1, k2, m2, s2, l2, a2, rfl, hs1, hs2⟩ := EH hinv.2.2.2 (.inr (.inr hk5))
  have hE := hinv.2.2.1
  have hp1 := hinv.2.1
  rw [bu, if_pos hk5] at hp1
  refine gc 3 ?_;refine o1 (bV bE bK ?_ (he := by exact (rfl)));refine ko 5 [5, 4, 2, 1] 2 ?_;refine o1 (cw ?_);refine go 2 ?_;refine bk (i + 1, k2, m2, s2, l2, a2) rfl ?_ [0, 1] mz
  exact ⟨⟨by omega, by omega, by rw [← hE, show n - i = (n - (i + 1)) + 1 by omega]; rfl, hs2⟩, show n - (i + 1) < n - i by omega⟩
theorem iO (ctx : List ae) (k m : Int) (s : ByteArray) (ls : List aJ) (args : List ae) (hb : ctx.length ≤ 1099511627776) : cD Tryz.prog gl 61 [.sl 5 (ba ctx), (ae.mk k m s ls args).d] (· = .sl 5 (ba (ctx ++ [.mk k m s ls args]))) := by
 have hlen := bf ctx
 refine bD Tryz.func61 Tryz.ntmps61 ?_;refine gc 15 ?_;refine oc (T := fun _ => False) (gL fA rfl rfl rfl rfl rfl rfl (by simp only [List.length_cons, List.length_nil, Nat.reduceAdd]; rfl) rfl rfl (by decide) (by first | decide | (simp only [maxLen, List.length_cons, List.length_nil, List.length_append, List.length_map]; omega) | omega) rfl rfl rfl ?_);refine ko 3 [5, 3] 4 ?_;refine oc (gR fA [.tmp 10] bM ?_);refine oc (nU fA ?_);refine go 4 ?_;refine ez ?_
 rw [er]; rfl
theorem pA (x : cB) (ps : List ByteArray) (hb : x.size ≤ 1099511627776) (hp : ps.length ≤ 1099511627776) : cD Tryz.prog gl 56 [x.bG.d, c6 ps] fun d => ∃ b : Bool, d = .v (.bool b) ∧ (b = true → ∀ p, x.has p → p ∈ ps) := by
 have hsz := x.dq
 have hpl := x.dz []
 have hplen := x.bG.pU []
 obtain ⟨k, s, args, hX⟩ := aJ.case x.bG
 rw [hX] at hsz hpl hplen
 rw [hX]
 have hq := oh (gl := gl) _ k s args [] (Nat.le_refl _) (by simp; omega)
 rw [hpl] at hq hplen
 simp only [List.length_nil, Nat.zero_add] at hplen
 have hsl := bU (x.params [])
 refine bD Tryz.func56 Tryz.ntmps56 ?_;refine gc 7 ?_;refine bq 9 1 rfl ?_;refine gc 2 ?_;refine oc (ck vm rfl rfl (hq) [1] rfl (p6 .nil) (bd (.cons (.nil rfl) .nil)) ?_);refine ko 4 [5, 1] 6 ?_;refine lP (ι := Nat) (fun i => [(6, int i)]) [5, 1] (fun i => i ≤ (x.params []).length ∧ ∀ p ∈ (x.params []).take i, p ∈ ps) (fun i => (x.params []).length - i) (0) rfl ?I3 ?M3 ?H3
 case I3 =>
  exact ⟨Nat.zero_le _, by simp⟩
 case M3 =>
  exact mz
 case H3 =>
  rintro i hinv
  try dsimp only at hinv
  refine kc 0 [6, 5, 1] 9 ?_;refine cJ (fun h3 => ?_) (fun h3 => ?_)
  ·refine kc 5 [] 6 ?_;refine ez ?_
   have h9 := hinv.2; rw [List.take_of_length_le (by omega)] at h9; exact ⟨true, rfl, fun _ p hp => h9 p (x.iF hp)⟩
  refine kc 4 [6, 5, 1] 4 ?_;refine o1 (wU jW lF ?_ (he := by exact (fX (by omega))));refine go 2 ?_;refine oc (cv xm rfl rfl (iJ ((x.params [])[i]'(by omega)) ps (by omega)) (an (an .nil)) ?_);refine ko 3 [7, 6, 5, 1] 6 ?_;refine cj (fun h6 => ?_) (fun h6 => ?_)
  ·refine kc 0 [] 11 ?_;refine ez ?_
   exact ⟨false, rfl, fun h => by cases h⟩
  refine gc 5 ?_;refine o1 (cw ?_);refine go 2 ?_;refine bi (i + 1) rfl ?_ mz
  ·refine ⟨⟨by omega, fun p hp => ?_⟩, by omega⟩
   rw [List.take_add_one, List.getElem?_eq_getElem (by omega)] at hp
   rcases List.mem_append.1 hp with hp | hp
   ·exact hinv.2 p hp
   ·simp at hp; subst hp; exact gP.1 h6
end Go.Proofs.YtndbnldjidciiaaGreatDoor
namespace Go.Proofs.YtndbnldjidciiaaGreatDoor
open Go Go.Vd Go.RowKit
attribute [local irreducible] bl br de aj bI cY
variable {g gl : Nat → List D}
def aP (es : List cq) (w : Bool) : Ob := .cells [.own 1 21 (nR es), .d (.v (.bool w))] 47
def tO (k m : Int) (s : ByteArray) (ls : List aJ) (args : List ae) : Ob := .cells [.d (.v (.int .i64 k)), .d (.v (.int .i64 m)), .d (.v (.string s)), .d (.sl 3 (bF ls)), .d (.sl 5 (ba args))] 39
def zO : Ob := .cells [.d (.v (.int .i64 0)), .d (.v (.int .i64 0)), .d (.v (.string .empty)), .d (.v (.slice none 0 0)), .d (.v (.slice none 0 0))] 39
def tR : Ob := .row 39 5
def aN : Ob := .row 63 21
def KU (es : List cq) : Prop := es.length ≤ 1099511627776 ∧ ∀ e ∈ es, e.d.cs.length ≤ 1099511627776 ∧ e.d.nm.size ≤ 1099511627776
variable {nm : ByteArray} {es : List cq} {i : Nat} {e : cq}
theorem DP (hg : es[i]? = some e) (h : e.d.nm = nm) : bB nm (es.drop i) = (e.d.k, e, 0) := by
 rw [drop_cons hg, bB, if_pos h]
theorem FG {j : Nat} (hg : es[i]? = some e) (h : ¬ e.d.nm = nm) (hi : dL nm e.d.cs = some j) : bB nm (es.drop i) = (4, e, j) := by
 rw [drop_cons hg, bB, if_neg h, hi]
theorem BB (hg : es[i]? = some e) (h : ¬ e.d.nm = nm) (hi : dL nm e.d.cs = none) (hr : e.d.k = 3 ∧ e.d.nm ++ tk = nm) : bB nm (es.drop i) = (5, e, 0) := by
 rw [drop_cons hg, bB, if_neg h, hi]; exact if_pos hr
theorem BC (hg : es[i]? = some e) (h : ¬ e.d.nm = nm) (hi : dL nm e.d.cs = none) (hr : ¬ (e.d.k = 3 ∧ e.d.nm ++ tk = nm)) : bB nm (es.drop i) = bB nm (es.drop (i + 1)) := by
 rw [drop_cons hg, bB, if_neg h, hi]; exact if_neg hr
theorem find_spec (es : List cq) (w : Bool) (nm : ByteArray) (hE : KU es) :
 ey Tryz.prog gl 47 [aP es w, aN] [.bZ 0 0, .d (.v (.string nm))] fun out ob' => out = .ret (.d (.cb [.v (.int .i64 (bB nm es).1), (bB nm es).2.1.dd, .v (.int .i64 (bB nm es).2.2)])) ∧ ob' = [aP es w, aN] := by
 have hlen := oH es
 have hb := hE.1
 rcases hF : bB nm es with ⟨kf, ⟨⟨kd, sd, pd, ⟨k1, n1, s1, l1, a1⟩, ⟨k2, n2, s2, l2, a2⟩, ad, cd'⟩, rpd, ⟨k3, n3, s3, l3, a3⟩⟩, jf⟩
 refine bS Tryz.func47 Tryz.ntmps47 2 ?_;refine kc 14 [7, 5, 0, 1] 0 ?_;refine lp (ι := Nat) (fun i => [(7, int i)]) (fun i => [aP es w, aN, .cells [.d (.v (.int .i64 0)), .d (.v (.string .empty)), .d (.v (.slice none 0 0)), .d (.v (.int .i64 0)), .d (.v (.int .i64 0)), .d (.v (.string .empty)), .d (.v (.slice none 0 0)), .d (.v (.slice none 0 0)), .d (.v (.int .i64 0)), .d (.v (.int .i64 0)), .d (.v (.string .empty)), .d (.v (.slice none 0 0)), .d (.v (.slice none 0 0)), .d (.v (.int .i64 0)), .d (.v (.slice none 0 0)), .d (.v (.slice none 0 0)), .d (.v (.int .i64 0)), .d (.v (.int .i64 0)), .d (.v (.string .empty)), .d (.v (.slice none 0 0)), .d (.v (.slice none 0 0))] 63]) [5, 0, 1] (fun i => i ≤ es.length ∧ bB nm es = bB nm (es.drop i)) (fun i => es.length - i) (0) ([0, 1, 2]) rfl ?I2 ?M2 ?H2
 case I2 =>
  exact ⟨Nat.zero_le _, rfl⟩
 case M2 =>
  exact mz
 case H2 =>
  rintro i hinv
  try dsimp only at hinv
  refine kc 0 [7, 5, 0, 1] 12 ?_;refine cJ (fun h2 => ?_) (fun h2 => ?_)
  ·refine kc 6 [5] 0 ?_
   rw [hinv.2, List.drop_of_length_le (by omega)] at hF
   simp only [bB, xq, HF, aI, Prod.mk.injEq, cq.mk.injEq, dp.mk.injEq, ae.mk.injEq, dp.k] at hF
   obtain ⟨rfl, ⟨⟨rfl, rfl, rfl, ⟨rfl, rfl, rfl, rfl, rfl⟩, ⟨rfl, rfl, rfl, rfl, rfl⟩, rfl, rfl⟩, rfl, rfl, rfl, rfl, rfl, rfl⟩, rfl⟩ := hF; refine gc 8 ?_;refine eo (.cb [.v (.int .i64 0), xq.dd, .v (.int .i64 0)]) [0, 1] [aP es w, aN] ?_
   ·exact ⟨rfl, rfl⟩
  refine kc 5 [7, 5, 0, 1] 0 ?_
  obtain ⟨ek, en, ep, ek1, en1, es1, el1, ea1, ek2, en2, es2, el2, ea2, ea, ec, erp, ek3, en3, es3, el3, ea3, hget⟩ := tD (show i < es.length by omega)
  have hcl := gd ec
  have hcb : ec.length ≤ 1099511627776 ∧ en.size ≤ 1099511627776 := hE.2 _ (List.mem_of_getElem? hget)
  refine gc 6 ?_;refine o1 (wU vA xv ?_ (he := by exact (nI hget)));refine ko 7 [8, 7, 5, 0, 1] 8 ?_;refine cj (fun h5 => ?_) (fun h5 => ?_)
  ·refine kc 1 [8, 7, 5, 0] 0 ?_
   rw [hinv.2, DP hget h5] at hF
   simp only [Prod.mk.injEq, cq.mk.injEq, dp.mk.injEq, ae.mk.injEq, dp.k] at hF
   obtain ⟨rfl, ⟨⟨rfl, rfl, rfl, ⟨rfl, rfl, rfl, rfl, rfl⟩, ⟨rfl, rfl, rfl, rfl, rfl⟩, rfl, rfl⟩, rfl, rfl, rfl, rfl, rfl, rfl⟩, rfl⟩ := hF; refine gz [0, 1, 2, 3, 4, 5, 6] mixed ?_;refine A1 7 rfl (wU vA xv ⟨_, rfl, ?_⟩ (he := by exact (nI hget)));refine ga [8, 9] ?_;refine A2 10 rfl (eD AD ?_);refine ga [11] ?_;refine aQ ?_;refine ge 8 ?_;refine qI [0, 1] [aP es w, aN] ?_
   ·exact ⟨rfl, rfl⟩
  refine kc 4 [8, 7, 5, 0, 1] 0 ?_
  have houter := hinv
  refine gc 5 ?_;refine lP (ι := Nat) (fun j => [(9, int j)]) [8, 7, 5, 0, 1] (fun j => j ≤ ec.length ∧ ∀ q x, q < j → ec[q]? = some x → ¬ x.1 = nm) (fun j => ec.length - j) (0) rfl ?I3 ?M3 ?H3
  case I3 =>
   exact ⟨Nat.zero_le _, fun q x h => absurd h (Nat.not_lt_zero _)⟩
  case M3 =>
   exact mz
  case H3 =>
   rintro j hinv
   try dsimp only at hinv
   refine kc 0 [9, 8, 7, 5, 0, 1] 10 ?_;refine cj (fun h8 => ?_) (fun h8 => ?_)
   ·refine kc 5 [9, 8, 7, 5, 0, 1] 0 ?_; obtain ⟨cn, ck, cm, cs, cl, ca, hgc⟩ := kn (show j < ec.length by omega); refine gc 4 ?_;refine o1 (bV pG qc ?_ (he := by exact (gW hgc)));refine go 6 ?_;refine cJ (fun h10 => ?_) (fun h10 => ?_)
    ·refine kc 3 [9, 8, 7, 5, 0, 1] 2 ?_;refine o1 (cw ?_);refine go 2 ?_;refine bi (j + 1) rfl ?_ mz
     ·refine ⟨⟨by omega, fun q x hq hx => ?_⟩, by omega⟩
      rcases Nat.lt_or_ge q j with h | h
      ·exact hinv.2 q x h hx
      ·obtain rfl : q = j := by omega
       rw [hgc] at hx; cases hx; exact h10
    refine kc 1 [9, 7, 5, 0] 0 ?_
    have hix : dL nm ec = some j := vg hinv.2 hgc h10
    rw [houter.2, FG hget h5 hix] at hF
    simp only [Prod.mk.injEq, cq.mk.injEq, dp.mk.injEq, ae.mk.injEq, dp.k] at hF
    obtain ⟨rfl, ⟨⟨rfl, rfl, rfl, ⟨rfl, rfl, rfl, rfl, rfl⟩, ⟨rfl, rfl, rfl, rfl, rfl⟩, rfl, rfl⟩, rfl, rfl, rfl, rfl, rfl, rfl⟩, rfl⟩ := hF; refine gz [0, 1, 2, 3, 4] mixed ?_;refine A1 5 rfl (wU vA xv ⟨_, rfl, ?_⟩ (he := by exact (nI hget)));refine ga [6, 7, 8] ?_;refine A2 9 rfl (eD AD ?_);refine ga [10] ?_;refine aQ ?_;refine ge 12 ?_;refine qI [0, 1] [aP es w, aN] ?_
    ·exact ⟨rfl, rfl⟩
   refine kc 6 [8, 7, 5, 0, 1] 0 ?_
   have hix : dL nm ec = none := tc fun q x hx => hinv.2 q x (by have := (List.getElem?_eq_some_iff.1 hx).1; omega) hx
   replace hinv := houter
   refine gc 5 ?_
   refine' oa (yt := 71) (d := 66) 5 ?a1 ?b1 ?_
   case a1 =>
    intro hc hK
    refine go 2 ?_;refine gy ?_;refine o1 (pY ?_ (hb := by (try simp only [ByteArray.size_append, ni, List.size_toArray, List.length_cons, List.length_nil]); omega));refine go 2 ?_; exact hK [_, _, _, _, _] rfl rfl
   case b1 =>
    intro _ hK; refine go 5 ?_; exact hK [_, _, _, _, _] rfl
   refine go 2 ?_;refine cJ (fun h12 => ?_) (fun h12 => ?_)
   ·refine kc 3 [7, 5, 0, 1] 2 ?_;refine o1 (cw ?_);refine go 2 ?_;refine bk (i + 1) rfl ?_ [0, 1, 2] mz
    exact ⟨⟨by omega, by rw [hinv.2]; exact BC hget h5 hix (by rintro ⟨h, h'⟩; rcases h12 with h2 | h2; exact h2 h; exact h2 h')⟩, by omega⟩
   refine kc 1 [7, 5, 0] 0 ?_
   rw [hinv.2, BB hget h5 hix h12] at hF
   simp only [Prod.mk.injEq, cq.mk.injEq, dp.mk.injEq, ae.mk.injEq, dp.k] at hF
   obtain ⟨rfl, ⟨⟨rfl, rfl, rfl, ⟨rfl, rfl, rfl, rfl, rfl⟩, ⟨rfl, rfl, rfl, rfl, rfl⟩, rfl, rfl⟩, rfl, rfl, rfl, rfl, rfl, rfl⟩, rfl⟩ := hF; refine gz [0, 1, 2, 3, 4] mixed ?_;refine A1 5 rfl (wU vA xv ⟨_, rfl, ?_⟩ (he := by exact (nI hget)));refine ga [6, 7] ?_;refine A2 8 rfl (eD AD ?_);refine ga [9] ?_;refine aQ ?_;refine ge 7 ?_;refine qI [0, 1] [aP es w, aN] ?_
   ·exact ⟨rfl, rfl⟩
end Go.Proofs.YtndbnldjidciiaaGreatDoor
namespace Go.Proofs.YtndbnldjidciiaaGreatDoor
open Go Go.Vd Go.RowKit
attribute [local irreducible] bl br de aj bI cY
variable {g gl : Nat → List D}
theorem fC : ∀ {ls : List aJ} {i : Nat} {l : aJ}, ls[i]? = some l → aS (ls.take (i + 1)) = aS (ls.take i) + l.size
 | [], i, l, h => by simp at h
 | a :: r, 0, l, h => by simp at h; subst h; simp [aS]
 | a :: r, i + 1, l, h => by
  have := fC (ls := r) (i := i) (l := l) (by simpa using h)
  simp only [List.take_succ_cons, aS, this]; omega
theorem fB : ∀ (ls : List aJ) (i : Nat), aS (ls.take i) ≤ aS ls
 | [], i => by simp
 | a :: r, 0 => by simp [aS]
 | a :: r, i + 1 => by have := fB r i; simp only [List.take_succ_cons, aS]; omega
theorem j0 : ∀ {ls : List ae} {i : Nat} {l : ae}, ls[i]? = some l → ai (ls.take (i + 1)) = ai (ls.take i) + l.size
 | [], i, l, h => by simp at h
 | a :: r, 0, l, h => by simp at h; subst h; simp [ai]
 | a :: r, i + 1, l, h => by
  have := j0 (ls := r) (i := i) (l := l) (by simpa using h)
  simp only [List.take_succ_cons, ai, this]; omega
theorem jF : ∀ (ls : List ae) (i : Nat), ai (ls.take i) ≤ ai ls
 | [], i => by simp
 | a :: r, 0 => by simp [ai]
 | a :: r, i + 1 => by have := jF r i; simp only [List.take_succ_cons, ai]; omega
theorem dN : ∀ {l : List aJ} {i : Nat} {t : aJ}, l[i]? = some t → t.size ≤ aS l
 | [], i, t, h => by simp at h
 | a :: r, 0, t, h => by simp at h; subst h; simp [aS]
 | a :: r, i + 1, t, h => by
  have := dN (l := r) (i := i) (t := t) (by simpa using h)
  simp [aS]; omega
theorem jE : ∀ l : List aJ, l.length ≤ aS l
 | [] => by simp
 | .mk k s args :: r => by have := jE r; simp [aS, aJ.size]; omega
theorem nP : ∀ (n : Nat) (k : Int) (s : ByteArray) (args : List aJ) (most : Int), (aJ.mk k s args).size ≤ n → (aJ.mk k s args).size ≤ 1152921504606846976 → 0 ≤ most → most ≤ 1099511627776 →
 cD Tryz.prog gl 103 [(aJ.mk k s args).d, .v (.int .i64 most)] fun d => ∃ r : Int, d = .v (.int .i64 r) ∧ 1 ≤ r ∧ r ≤ (aJ.mk k s args).size ∧ (r ≤ most → r = (aJ.mk k s args).size) := by
 intro n
 induction n with
 | zero => intro k s args most h; simp [aJ.size] at h
 | succ n ih =>
  intro k s args most hsz hb hm0 hm1
  simp only [aJ.size] at hsz hb
  have hal := bR args
  have hsl := jE args
  refine bD Tryz.func103 Tryz.ntmps103 ?_;refine kc 18 [6, 5, 2, 1] 0 ?_;refine lP (ι := Nat × Int) (fun ⟨i, c⟩ => [(6, int i), (5, int c)]) [2, 1] (fun ⟨i, c⟩ => i ≤ args.length ∧ 1 ≤ c ∧ c ≤ 1 + aS (args.take i) ∧ (c ≤ most → c = 1 + aS (args.take i))) (fun ⟨i, c⟩ => args.length - i) ((0, 1)) rfl ?I6 ?M6 ?H6
  case I6 =>
   exact ⟨Nat.zero_le _, by omega, by simp [aS], fun _ => by simp [aS]⟩
  case M6 =>
   exact mz
  case H6 =>
   rintro ⟨i, c⟩ hinv
   try dsimp only at hinv
   refine kc 0 [6, 5, 2, 1] 9 ?_
   refine' oa (yt := 16) (d := 13) 3 ?a1 ?b1 ?_
   case a1 =>
    intro hc hK
    refine go 3 ?_; exact hK [_, _, _] rfl rfl
   case b1 =>
    intro _ hK; refine go 3 ?_; exact hK [_, _, _] rfl
   refine go 2 ?_;refine cJ (fun h3 => ?_) (fun h3 => ?_)
   ·refine kc 5 [5] 2 ?_
    have hg2 := fB args i
    have hend : c ≤ most → i = args.length := (fun h => by omega)
    refine go 5 ?_;refine ez ?_
    exact ⟨c, rfl, hinv.2.1, by simp only [aJ.size]; omega, fun h => by rw [hinv.2.2.2 h, hend h, List.take_length]; simp only [aJ.size]; omega⟩
   refine kc 5 [6, 5, 2, 1] 0 ?_
   obtain ⟨k', s', a', hget⟩ := cU (show i < args.length by omega)
   have hg1 := dN hget
   have hg2 := fB args i
   refine gc 4 ?_;refine o1 (bV ee ei ?_ (he := by exact (cZ hget)));refine go 3 ?_;refine o1 (nT ?_);refine oc (T := fun _ => False) (bo Ao rfl rfl rfl rfl (ih k' s' a' (most - c) (by omega) (by omega) (by omega) (by omega)) (bd (an .nil)) (fun d hd => ?_)); obtain ⟨r, rfl, hr1, hr2, hr3⟩ := hd; refine ko 3 [7, 6, 5, 2, 1] 3 ?_;refine o1 (cw ?_);refine ko 4 [5, 6, 2, 1] 2 ?_;refine o1 (cw ?_);refine go 2 ?_;refine bi (i + 1, c + r) rfl ?_ mz
   exact ⟨⟨by omega, by omega, by rw [fC hget]; omega, fun h => by rw [fC hget]; omega⟩, show args.length - (i + 1) < args.length - i by omega⟩
theorem jL : ∀ (n : Nat) (k m : Int) (s : ByteArray) (ls : List aJ) (args : List ae) (most : Int), (ae.mk k m s ls args).size ≤ n → (ae.mk k m s ls args).size ≤ 1152921504606846976 → 0 ≤ most → most ≤ 1099511627776 →
 cD Tryz.prog gl 102 [(ae.mk k m s ls args).d, .v (.int .i64 most)] fun d => ∃ r : Int, d = .v (.int .i64 r) ∧ 1 ≤ r ∧ r ≤ (ae.mk k m s ls args).size ∧ (r ≤ most → r = (ae.mk k m s ls args).size) := by
 intro n
 induction n with
 | zero => intro k m s ls args most h; simp [ae.size] at h
 | succ n ih =>
  intro k m s ls args most hsz hb hm0 hm1
  simp only [ae.size] at hsz hb
  have hal := bf args
  have hll := bR ls
  have hsl := jE ls
  have hsa := bA args
  refine bD Tryz.func102 Tryz.ntmps102 ?_;refine kc 18 [6, 5, 2, 1] 0 ?_;refine lP (ι := Nat × Int) (fun ⟨i, c⟩ => [(6, int i), (5, int c)]) [2, 1] (fun ⟨i, c⟩ => i ≤ ls.length ∧ 1 ≤ c ∧ c ≤ 1 + aS (ls.take i) ∧ (c ≤ most → c = 1 + aS (ls.take i))) (fun ⟨i, c⟩ => ls.length - i) ((0, 1)) rfl ?I7 ?M7 ?H7
  case I7 =>
   exact ⟨Nat.zero_le _, by omega, by simp [aS], fun _ => by simp [aS]⟩
  case M7 =>
   exact mz
  case H7 =>
   rintro ⟨i, c⟩ hinv
   try dsimp only at hinv
   refine kc 0 [6, 5, 2, 1] 9 ?_
   refine' oa (yt := 18) (d := 15) 3 ?a2 ?b2 ?_
   case a2 =>
    intro hc hK
    refine go 3 ?_; exact hK [_, _, _] rfl rfl
   case b2 =>
    intro _ hK; refine go 3 ?_; exact hK [_, _, _] rfl
   refine go 2 ?_;refine cj (fun h3 => ?_) (fun h3 => ?_)
   ·refine kc 5 [6, 5, 2, 1] 0 ?_; obtain ⟨k', s', a', hget⟩ := cU (show i < ls.length by omega)
    have hg1 := dN hget
    have hg2 := fB ls i
    refine gc 4 ?_;refine o1 (bV ee ei ?_ (he := by exact (cZ hget)));refine go 3 ?_;refine o1 (nT ?_);refine oc (T := fun _ => False) (bo Ao rfl rfl rfl rfl (nP _ k' s' a' (most - c) (Nat.le_refl _) (by omega) (by omega) (by omega)) (bd (an .nil)) (fun d hd => ?_)); obtain ⟨r, rfl, hr1, hr2, hr3⟩ := hd
    refine ko 3 [7, 6, 5, 2, 1] 3 ?_;refine o1 (cw ?_);refine ko 4 [5, 6, 2, 1] 2 ?_;refine o1 (cw ?_);refine go 2 ?_;refine bi (i + 1, c + r) rfl ?_ mz
    exact ⟨⟨by omega, by omega, by rw [fC hget]; omega, fun h => by rw [fC hget]; omega⟩, show ls.length - (i + 1) < ls.length - i by omega⟩
   refine kc 7 [5, 2, 1] 0 ?_
   have hg3 := fB ls i
   have hc2 : c ≤ 1 + aS ls := (by omega)
   have hc3 : c ≤ most → c = 1 + aS ls := (fun h => by
    have h4 : i = ls.length := by omega
    rw [hinv.2.2.2 h, h4, List.take_length])
   have hc1 := hinv.2.1
   refine gc 5 ?_;refine lP (ι := Nat × Int) (fun ⟨j, e⟩ => [(8, int j), (5, int e)]) [2, 1] (fun ⟨j, e⟩ => j ≤ args.length ∧ 1 ≤ e ∧ e ≤ 1 + aS ls + ai (args.take j) ∧ (e ≤ most → e = 1 + aS ls + ai (args.take j))) (fun ⟨j, e⟩ => args.length - j) ((0, c)) rfl ?I8 ?M8 ?H8
   case I8 =>
    exact ⟨Nat.zero_le _, hc1, by simp [ai]; omega, fun h => by simp [ai]; exact hc3 h⟩
   case M8 =>
    exact mz
   case H8 =>
    rintro ⟨j, e⟩ hinv
    try dsimp only at hinv
    refine kc 0 [8, 5, 2, 1] 9 ?_
    refine' oa (yt := 42) (d := 39) 3 ?a3 ?b3 ?_
    case a3 =>
     intro hc hK
     refine go 3 ?_; exact hK [_, _, _] rfl rfl
    case b3 =>
     intro _ hK; refine go 3 ?_; exact hK [_, _, _] rfl
    refine go 2 ?_;refine cJ (fun h8 => ?_) (fun h8 => ?_)
    ·refine kc 5 [5] 2 ?_
     have hg2 := jF args j
     have hend : e ≤ most → j = args.length := (fun h => by omega)
     refine go 5 ?_;refine ez ?_
     exact ⟨e, rfl, hinv.2.1, by simp only [ae.size]; omega, fun h => by rw [hinv.2.2.2 h, hend h, List.take_length]; simp only [ae.size]; omega⟩
    refine kc 5 [8, 5, 2, 1] 0 ?_
    obtain ⟨k2, m2, s2, l2, a2, hget⟩ := bQ (show j < args.length by omega)
    have hg1 := bC hget
    have hg2 := jF args j
    refine gc 4 ?_;refine o1 (bV bE bK ?_ (he := by exact (bY hget)));refine go 3 ?_;refine o1 (nT ?_);refine oc (T := fun _ => False) (bo tf rfl rfl rfl rfl (ih k2 m2 s2 l2 a2 (most - e) (by omega) (by omega) (by omega) (by omega)) (bd (an .nil)) (fun d hd => ?_)); obtain ⟨r, rfl, hr1, hr2, hr3⟩ := hd; refine ko 3 [9, 8, 5, 2, 1] 3 ?_;refine o1 (cw ?_);refine ko 4 [5, 8, 2, 1] 2 ?_;refine o1 (cw ?_);refine go 2 ?_;refine bi ((j + 1, e + r)) rfl ?_ ?_
    ·exact ⟨⟨by omega, by omega, by rw [j0 hget]; omega, fun h => by rw [j0 hget]; omega⟩, show args.length - (j + 1) < args.length - j by omega⟩
    ·exact mz
end Go.Proofs.YtndbnldjidciiaaGreatDoor
namespace Go.Proofs.YtndbnldjidciiaaGreatDoor
open Go Go.Vd Go.RowKit
attribute [local irreducible] bl br de aj bI cY
variable {g gl : Nat → List D}
mutual
theorem qU : ∀ (t : ae) (v : Int), jZ t v ≤ t.size
 | .mk k n s ls args, v => by
  have := pF args (decide (4 ≤ k)) v
  rw [jZ]; simp only [ae.size]; split <;> omega
theorem pF : ∀ (l : List ae) (b : Bool) (v : Int), iZ b l v ≤ ai l
 | [], b, v => by simp [iZ]
 | t :: r, b, v => by
  have h1 := qU t (if b && r.isEmpty then v + 1 else v)
  have h2 := pF r b v
  simp only [iZ, ai]; omega
end
variable {l : List ae} {i : Nat} {x : ae}
theorem tL {b : Bool} {v : Int} (h : l[i]? = some x) : iZ b (l.drop i) v = jZ x (if b = true ∧ i + 1 = l.length then v + 1 else v) + iZ b (l.drop (i + 1)) v := by
 obtain ⟨hi, rfl⟩ := List.getElem?_eq_some_iff.1 h
 rw [List.drop_eq_getElem_cons hi, iZ]
 have e : (b && (l.drop (i + 1)).isEmpty) = true ↔ (b = true ∧ i + 1 = l.length) := by
  rw [Bool.and_eq_true, List.isEmpty_iff, List.drop_eq_nil_iff]
  constructor
  ·rintro ⟨h1, h2⟩; exact ⟨h1, by omega⟩
  ·rintro ⟨h1, h2⟩; exact ⟨h1, by omega⟩
 by_cases hc : b = true ∧ i + 1 = l.length
 ·rw [if_pos (e.2 hc), if_pos hc]
 ·rw [if_neg (fun h => hc (e.1 h)), if_neg hc]
variable {B : Int}
theorem Bk : ∀ (n : Nat) (k m : Int) (s : ByteArray) (ls : List aJ) (args : List ae) (v : Int), (ae.mk k m s ls args).size ≤ n → (ae.mk k m s ls args).size ≤ 1099511627776 → 0 ≤ v → v + (ae.mk k m s ls args).size ≤ 2199023255552 → iU B (.mk k m s ls args) →
 cD Tryz.prog gl 132 [(ae.mk k m s ls args).d, .v (.int .i64 v)] (· = .v (.int .i64 (jZ (.mk k m s ls args) v))) := by
 intro n
 induction n with
 | zero => intro k m s ls args v h; simp [ae.size] at h
 | succ n ih =>
  intro k m s ls args v hsz hb hv0 hv1 hs
  have hus := qU (.mk k m s ls args) v
  simp only [ae.size] at hsz hb hv1 hus
  have hal := bf args
  have hsa := bA args
  have hss := pF args (decide (4 ≤ k)) v
  generalize hr : jZ (.mk k m s ls args) v = r at hus ⊢
  rw [jZ] at hr
  refine bD Tryz.func132 Tryz.ntmps132 ?_;refine gc 13 ?_
  refine' oa (yt := 16) (d := 12) 4 ?a1 ?b1 ?_
  case a1 =>
   intro hc hK
   refine go 4 ?_
   exact hK [_, _, _, _] rfl rfl
  case b1 =>
   intro _ hK; refine go 4 ?_; exact hK [_, _, _, _] rfl
  refine go 2 ?_;refine cj (fun h1 => ?_) (fun h1 => ?_)
  ·refine kc 0 [] 7 ?_;refine ez ?_
   (rw [if_pos (by omega)] at hr; rw [← hr]; rfl)
  refine kc 3 [2, 1] 0 ?_
  rw [if_neg (by omega)] at hr
  refine gc 11 ?_;refine lP (ι := Nat × Nat) (fun ⟨i, c⟩ => [(6, int i), (5, int c)]) [2, 1] (fun ⟨i, c⟩ => i ≤ args.length ∧ c + iZ (decide (4 ≤ k)) (args.drop i) v = r) (fun ⟨i, c⟩ => args.length - i) ((0, 0)) rfl ?I2 ?M2 ?H2
  case I2 =>
   exact ⟨Nat.zero_le _, by simpa using hr⟩
  case M2 =>
   exact mz
  case H2 =>
   rintro ⟨i, c⟩ hinv
   try dsimp only at hinv
   refine kc 0 [6, 5, 2, 1] 10 ?_;refine cJ (fun h5 => ?_) (fun h5 => ?_)
   ·refine kc 5 [5] 7 ?_;refine ez ?_
    have h9 := hinv.2; rw [List.drop_of_length_le (by omega)] at h9; simp only [iZ, Nat.add_zero] at h9; rw [← h9]
   refine kc 5 [6, 5, 2, 1] 0 ?_
   obtain ⟨k2, m2, s2, l2, a2, hget⟩ := bQ (show i < args.length by omega)
   have hg1 := bC hget
   have hg3 := tL (b := decide (4 ≤ k)) (v := v) hget
   have hgg := uc hs.2.1 hget
   refine gc 10 ?_;refine oc (cv Hq rfl rfl (kF k m s ls args i (by omega)) (bd (an .nil)) ?_);refine ko 2 [28, 7, 6, 5, 2, 1] 0 ?_;refine xc (ι := Unit) (fun _ => [(7, int (if decide (4 ≤ k) = true ∧ i + 1 = args.length then v + 1 else v))]) [6, 5, 2, 1] (fun _ => True) rfl ?A3 ?B3
   case A3 =>
    refine cJ (fun h8 => ?_) (fun h8 => ?_)
    ·refine gc 1 ?_;refine bi (()) rfl ?_ ?_
     ·trivial
     ·refine mo ?_ (eh rfl (by exact Fit.of_eq (by first | (rw [if_pos (by simp only [decide_eq_true_eq]; omega)]; rfl) | (rw [if_neg (by simp only [decide_eq_true_eq]; omega)]; rfl))) (aH (aH (aH (aH dF)))))
      repeat (first | exact cW | refine bh ?_)
    refine gc 2 ?_;refine o1 (cw ?_);refine go 2 ?_;refine bi (()) rfl ?_ ?_
    ·trivial
    ·refine mo ?_ (eh rfl (by exact Fit.of_eq (by first | (rw [if_pos (by simp only [decide_eq_true_eq]; omega)]; rfl) | (rw [if_neg (by simp only [decide_eq_true_eq]; omega)]; rfl))) (aH (aH (aH (aH dF)))))
     repeat (first | exact cW | refine bh ?_)
   case B3 =>
    rintro _ hcut
    try dsimp only at hcut
    refine kc 0 [7, 6, 5, 2, 1] 1 ?_
    have hihx := ih k2 m2 s2 l2 a2 (if decide (4 ≤ k) = true ∧ i + 1 = args.length then v + 1 else v) (by omega) (by omega) (by split <;> omega) (by split <;> omega) hgg
    have hle : c + jZ (.mk k2 m2 s2 l2 a2) (if decide (4 ≤ k) = true ∧ i + 1 = args.length then v + 1 else v) ≤ r := (by have := hinv.2; omega)
    refine gc 4 ?_;refine o1 (bV bE bK ?_ (he := by exact (bY hget)));refine go 2 ?_;refine oc (cv H0 rfl rfl (hihx) (bd (an .nil)) ?_);refine ko 3 [8, 6, 5, 2, 1] 3 ?_;refine o1 (cw ?_);refine ko 4 [5, 6, 2, 1] 2 ?_;refine o1 (cw ?_);refine go 2 ?_;refine bi (i + 1, c + jZ (.mk k2 m2 s2 l2 a2) (if decide (4 ≤ k) = true ∧ i + 1 = args.length then v + 1 else v)) rfl ?_ mz
    exact ⟨⟨by omega, by rw [← hinv.2, tL hget]; omega⟩, show args.length - (i + 1) < args.length - i by omega⟩
theorem Bm {B' : Int} (k m : Int) (s : ByteArray) (ls : List aJ) (args : List ae) (k2 m2 : Int) (s2 : ByteArray) (ls2 : List aJ) (args2 : List ae) (hs1 : (ae.mk k m s ls args).size ≤ 1099511627776) (hs2 : (ae.mk k2 m2 s2 ls2 args2).size ≤ 1099511627776) (h1 : iU B (.mk k m s ls args)) :
 cD Tryz.prog gl 106 [(ae.mk k m s ls args).d, (ae.mk k2 m2 s2 ls2 args2).d] fun d => ∃ b : Bool, d = .v (.bool b) ∧ (b = false → (ae.mk k m s ls args).size + jZ (.mk k m s ls args) 0 * (ae.mk k2 m2 s2 ls2 args2).size ≤ 20000) := by
 have hus := qU (.mk k m s ls args) 0
 refine bD Tryz.func106 Tryz.ntmps106 ?_;refine gc 10 ?_;refine oc (T := fun _ => False) (bo tf rfl rfl rfl rfl (jL _ k m s ls args 20000 (Nat.le_refl _) (by omega) (by omega) (by omega)) (bd (an .nil)) (fun d hd => ?_)); obtain ⟨r, rfl, hr1, hr2, hr3⟩ := hd; refine ko 4 [5, 3, 2] 6 ?_;refine cj (fun h2 => ?_) (fun h2 => ?_)
 ·refine kc 0 [] 7 ?_;refine ez ?_; exact ⟨true, rfl, fun h => by cases h⟩
 refine gc 5 ?_;refine oc (cv H0 rfl rfl (Bk _ k m s ls args 0 (Nat.le_refl _) hs1 (by omega) (by omega) h1) (bd (an .nil)) ?_);refine ko 3 [6, 5, 3] 3 ?_;refine oc (T := fun _ => False) (bo tf rfl rfl rfl rfl (jL _ k2 m2 s2 ls2 args2 20000 (Nat.le_refl _) (by omega) (by omega) (by omega)) (bd (an .nil)) (fun d hd => ?_)); obtain ⟨q, rfl, hq1, hq2, hq3⟩ := hd
 refine go 4 ?_
 generalize jZ (.mk k m s ls args) 0 = u at hus ⊢
 have hmul : 0 ≤ (u : Int) * q := Int.mul_nonneg (by omega) (by omega)
 have hmul2 : (u : Int) * q ≤ 20000 * 1099511627776 := Int.mul_le_mul (by omega) (by omega) (by omega) (by omega)
 refine gc 4 ?_;refine o1 (uZ rfl rfl rfl (by omega) ?_);refine o1 (cw ?_);refine go 5 ?_;refine ez ?_;refine ⟨_, rfl, fun h => ?_⟩
 simp only [decide_eq_false_iff_not, Int.not_lt] at h
 have hr := hr3 (by omega)
 rcases Nat.eq_zero_or_pos u with h0 | h0
 ·subst h0; omega
 ·have h5 : 1 * q ≤ (u : Int) * q := Int.mul_le_mul_of_nonneg_right (by omega) (by omega)
  have hq := hq3 (by omega)
  rw [hq] at h
  have h6 : ((u * (ae.mk k2 m2 s2 ls2 args2).size : Nat) : Int) = (u : Int) * ((ae.mk k2 m2 s2 ls2 args2).size : Nat) := Int.natCast_mul _ _
  omega
mutual
def iB : aJ → Nat
 | .mk k s args => if k = 4 then 1 else ew args
def ew : List aJ → Nat
 | [] => 0
 | l :: r => iB l + ew r
end
mutual
def fv : ae → Nat
 | .mk k n s ls args => ew ls + fp args
def fp : List ae → Nat
 | [] => 0
 | t :: r => fv t + fp r
end
mutual
theorem sI : ∀ l : aJ, iB l ≤ l.size
 | .mk k s args => by have := nA args; rw [iB]; simp only [aJ.size]; split <;> omega
theorem nA : ∀ l : List aJ, ew l ≤ aS l
 | [] => by simp [ew]
 | a :: r => by have := sI a; have := nA r; simp only [ew, aS]; omega
end
mutual
theorem nW : ∀ t : ae, fv t ≤ t.size
 | .mk k n s ls args => by have := nA ls; have := qa args; simp only [fv, ae.size]; omega
theorem qa : ∀ l : List ae, fp l ≤ ai l
 | [] => by simp [fp]
 | a :: r => by have := nW a; have := qa r; simp only [fp, ai]; omega
end
mutual
theorem uD (ps : List ByteArray) (us : List aJ) (M : Nat) (hu : ∀ l ∈ us, l.size ≤ M) : ∀ l : aJ, (l.subst ps us).size ≤ l.size + iB l * M
 | .mk k s args => by
  have h := sJ ps us M hu args
  simp only [aJ.subst, iB, aJ.size]
  split
  ·split
   ·rename_i i hi
    rw [List.getD_eq_getElem?_getD]
    cases hg : us[i]? with
    | none => simp [aJ.size]
    | some x => simp only [Option.getD_some]; have := hu x (List.mem_of_getElem? hg); omega
   ·simp only [aJ.size]; omega
  ·simp only [aJ.size]; omega
theorem sJ (ps : List ByteArray) (us : List aJ) (M : Nat) (hu : ∀ l ∈ us, l.size ≤ M) : ∀ l : List aJ, aS (eI ps us l) ≤ aS l + ew l * M
 | [] => by simp [eI, aS]
 | a :: r => by
  have h1 := uD ps us M hu a
  have h2 := sJ ps us M hu r
  simp only [eI, aS, ew, Nat.add_mul]; omega
end
theorem uE (ps : List ByteArray) (us : List aJ) (M : Nat) (hu : ∀ l ∈ us, l.size ≤ M) : ∀ l : List aJ, aS (l.map fun x => x.subst ps us) ≤ aS l + ew l * M
 | [] => by simp [aS]
 | a :: r => by
  have h1 := uD ps us M hu a
  have h2 := uE ps us M hu r
  simp only [List.map_cons, aS, ew, Nat.add_mul]; omega
mutual
theorem tP (ps : List ByteArray) (us : List aJ) (M : Nat) (hu : ∀ l ∈ us, l.size ≤ M) : ∀ t : ae, (jn ps us t).size ≤ t.size + fv t * M
 | .mk k n s l args => by
  have h1 := uE ps us M hu l
  have h2 := rR ps us M hu args
  simp only [jn, ae.size, fv, Nat.add_mul]; omega
theorem rR (ps : List ByteArray) (us : List aJ) (M : Nat) (hu : ∀ l ∈ us, l.size ≤ M) : ∀ l : List ae, ai (eZ ps us l) ≤ ai l + fp l * M
 | [] => by simp [eZ, ai]
 | t :: r => by
  have h1 := tP ps us M hu t
  have h2 := rR ps us M hu r
  simp only [eZ, ai, fp, Nat.add_mul]; omega
end
theorem jo {l : List aJ} {x : aJ} (h : l[i]? = some x) : ew (l.drop i) = iB x + ew (l.drop (i + 1)) := by
 obtain ⟨hi, rfl⟩ := List.getElem?_eq_some_iff.1 h
 rw [List.drop_eq_getElem_cons hi, ew]
theorem qb (h : l[i]? = some x) : fp (l.drop i) = fv x + fp (l.drop (i + 1)) := by
 obtain ⟨hi, rfl⟩ := List.getElem?_eq_some_iff.1 h
 rw [List.drop_eq_getElem_cons hi, fp]
theorem tm : ∀ (n : Nat) (k : Int) (s : ByteArray) (args : List aJ), (aJ.mk k s args).size ≤ n → (aJ.mk k s args).size ≤ 1099511627776 →
 cD Tryz.prog gl 130 [(aJ.mk k s args).d] (· = .v (.int .i64 (iB (.mk k s args)))) := by
 intro n
 induction n with
 | zero => intro k s args h; simp [aJ.size] at h
 | succ n ih =>
  intro k s args hsz hb
  have hus := sI (.mk k s args)
  simp only [aJ.size] at hsz hb hus
  have hal := bR args
  have hsl := jE args
  generalize hr : iB (.mk k s args) = r at hus ⊢
  rw [iB] at hr
  refine bD Tryz.func130 Tryz.ntmps130 ?_;refine gc 14 ?_;refine cj (fun h1 => ?_) (fun h1 => ?_)
  ·refine kc 0 [] 7 ?_;refine ez ?_
   (rw [if_pos (by omega)] at hr; subst hr; first | rfl | skip)
  refine kc 3 [1] 0 ?_
  rw [if_neg (by omega)] at hr
  refine gc 11 ?_;refine lP (ι := Nat × Nat) (fun ⟨i, c⟩ => [(4, int i), (3, int c)]) [1] (fun ⟨i, c⟩ => i ≤ args.length ∧ c + ew (args.drop i) = r) (fun ⟨i, c⟩ => args.length - i) ((0, 0)) rfl ?I4 ?M4 ?H4
  case I4 =>
   exact ⟨Nat.zero_le _, by simpa using hr⟩
  case M4 =>
   exact mz
  case H4 =>
   rintro ⟨i, c⟩ hinv
   try dsimp only at hinv
   refine kc 0 [4, 3, 1] 10 ?_;refine cJ (fun h5 => ?_) (fun h5 => ?_)
   ·refine kc 5 [3] 7 ?_;refine ez ?_
    have h9 := hinv.2; rw [List.drop_of_length_le (by omega)] at h9; simp only [ew, Nat.add_zero] at h9; rw [← h9]
   refine kc 5 [4, 3, 1] 0 ?_
   obtain ⟨k2, s2, a2, hget⟩ := cU (show i < args.length by omega)
   have hg1 := dN hget
   have hg3 := jo hget
   have hle : c + iB (.mk k2 s2 a2) ≤ r := (by have := hinv.2; omega)
   refine gc 4 ?_;refine o1 (bV ee ei ?_ (he := by exact (cZ hget)));refine go 1 ?_;refine oc (cv Ib rfl rfl (ih k2 s2 a2 (by omega) (by omega)) (bd .nil) ?_);refine ko 3 [5, 4, 3, 1] 3 ?_;refine o1 (cw ?_);refine ko 4 [3, 4, 1] 2 ?_;refine o1 (cw ?_);refine go 2 ?_;refine bi (i + 1, c + iB (.mk k2 s2 a2)) rfl ?_ mz
   exact ⟨⟨by omega, by rw [← hinv.2, jo hget]; omega⟩, show args.length - (i + 1) < args.length - i by omega⟩
theorem uN : ∀ (n : Nat) (k m : Int) (s : ByteArray) (ls : List aJ) (args : List ae), (ae.mk k m s ls args).size ≤ n → (ae.mk k m s ls args).size ≤ 1099511627776 →
 cD Tryz.prog gl 104 [(ae.mk k m s ls args).d] (· = .v (.int .i64 (fv (.mk k m s ls args)))) := by
 intro n
 induction n with
 | zero => intro k m s ls args h; simp [ae.size] at h
 | succ n ih =>
  intro k m s ls args hsz hb
  have hus := nW (.mk k m s ls args)
  simp only [ae.size] at hsz hb hus
  have hal := bf args
  have hsa := bA args
  have hll := bR ls
  have hsl := jE ls
  generalize hr : fv (.mk k m s ls args) = r at hus ⊢
  rw [fv] at hr
  refine bD Tryz.func104 Tryz.ntmps104 ?_;refine kc 18 [4, 3, 1] 0 ?_;refine lP (ι := Nat × Nat) (fun ⟨i, c⟩ => [(4, int i), (3, int c)]) [1] (fun ⟨i, c⟩ => i ≤ ls.length ∧ c + ew (ls.drop i) + fp args = r) (fun ⟨i, c⟩ => ls.length - i) ((0, 0)) rfl ?I5 ?M5 ?H5
  case I5 =>
   exact ⟨Nat.zero_le _, by simpa using hr⟩
  case M5 =>
   exact mz
  case H5 =>
   rintro ⟨i, c⟩ hinv
   try dsimp only at hinv
   refine kc 0 [4, 3, 1] 10 ?_;refine cj (fun h3 => ?_) (fun h3 => ?_)
   ·refine kc 5 [4, 3, 1] 0 ?_; obtain ⟨k2, s2, a2, hget⟩ := cU (show i < ls.length by omega)
    have hg1 := dN hget
    have hg3 := jo hget
    have hle : c + iB (.mk k2 s2 a2) ≤ r := (by have := hinv.2; omega)
    refine gc 4 ?_;refine o1 (bV ee ei ?_ (he := by exact (cZ hget)));refine go 1 ?_;refine oc (cv Ib rfl rfl (tm _ k2 s2 a2 (Nat.le_refl _) (by omega)) (bd .nil) ?_);refine ko 3 [5, 4, 3, 1] 3 ?_;refine o1 (cw ?_);refine ko 4 [3, 4, 1] 2 ?_;refine o1 (cw ?_);refine go 2 ?_;refine bi (i + 1, c + iB (.mk k2 s2 a2)) rfl ?_ mz
    exact ⟨⟨by omega, by rw [← hinv.2, jo hget]; omega⟩, show ls.length - (i + 1) < ls.length - i by omega⟩
   refine kc 7 [3, 1] 0 ?_
   have hc1 : c + fp args = r := (by have h9 := hinv.2; rw [List.drop_of_length_le (by omega)] at h9; simpa [ew] using h9)
   refine gc 5 ?_;refine lP (ι := Nat × Nat) (fun ⟨j, e⟩ => [(6, int j), (3, int e)]) [1] (fun ⟨j, e⟩ => j ≤ args.length ∧ e + fp (args.drop j) = r) (fun ⟨j, e⟩ => args.length - j) ((0, c)) rfl ?I6 ?M6 ?H6
   case I6 =>
    exact ⟨Nat.zero_le _, by simpa using hc1⟩
   case M6 =>
    exact mz
   case H6 =>
    rintro ⟨j, e⟩ hinv
    try dsimp only at hinv
    refine kc 0 [6, 3, 1] 10 ?_;refine cJ (fun h8 => ?_) (fun h8 => ?_)
    ·refine kc 5 [3] 7 ?_;refine ez ?_
     have h9 := hinv.2; rw [List.drop_of_length_le (by omega)] at h9; simp only [fp, Nat.add_zero] at h9; rw [← h9]
    refine kc 5 [6, 3, 1] 0 ?_
    obtain ⟨k2, m2, s2, l2, a2, hget⟩ := bQ (show j < args.length by omega)
    have hg1 := bC hget
    have hg3 := qb hget
    have hle : e + fv (.mk k2 m2 s2 l2 a2) ≤ r := (by have := hinv.2; omega)
    refine gc 4 ?_;refine o1 (bV bE bK ?_ (he := by exact (bY hget)));refine go 1 ?_;refine oc (cv Ij rfl rfl (ih k2 m2 s2 l2 a2 (by omega) (by omega)) (bd .nil) ?_);refine ko 3 [7, 6, 3, 1] 3 ?_;refine o1 (cw ?_);refine ko 4 [3, 6, 1] 2 ?_;refine o1 (cw ?_);refine go 2 ?_;refine bi (j + 1, e + fv (.mk k2 m2 s2 l2 a2)) rfl ?_ mz
    exact ⟨⟨by omega, by rw [← hinv.2, qb hget]; omega⟩, show args.length - (j + 1) < args.length - j by omega⟩
end Go.Proofs.YtndbnldjidciiaaGreatDoor
namespace Go.Proofs.YtndbnldjidciiaaGreatDoor
open Go Go.Vd Go.RowKit
attribute [local irreducible] bl br de aj bI
variable {gl : Nat → List D}
theorem tG (ps : List ByteArray) (ns : List Int) (hl : ps.length ≤ ns.length) (hl2 : ps.length ≤ 281474976710656) (hB : ∀ n ∈ ns, -4398046511104 ≤ n ∧ n ≤ 4398046511104) : ∀ x : cB, x.size ≤ 1099511627776 →
 cD Tryz.prog gl 144 [x.bG.d, c6 ps, HP ns] (· = .v (.int .i64 (x.dw (hZ ps ns)))) := by
 have hlp := bU ps
 have hln := eP ns
 have hbd : ∀ x : cB, -4398046511104 ≤ x.dw (hZ ps ns) ∧ x.dw (hZ ps ns) ≤ 4398046511104 + x.size := fun x => x.fu (by omega) fun s => pT (by omega) hB
 intro x
 induction x with
 | zero =>
  intro hsz
  refine bD Tryz.func144 Tryz.ntmps144 ?_;refine gc 20 ?_;refine ct ?_;refine kc 0 [] 8 ?_;refine ez ?_
  rfl
 | succ a ih =>
  intro hsz
  simp only [cB.size] at hsz
  have h9 := hbd a
  refine bD Tryz.func144 Tryz.ntmps144 ?_;refine gc 20 ?_;refine cf ?_;refine kc 0 [11, 3, 1, 2] 6 ?_;refine ct ?_;refine gc 4 ?_;refine o1 (bV ee ei ?_ (he := by exact (rfl)));refine o1 (Gt dB ?_ (hlen := by exact (aJ.eR _)));refine go 2 ?_;refine oc (cv kz rfl rfl (ih (by omega)) (an (an (an .nil))) ?_);refine o1 (cw ?_);refine go 6 ?_;refine ez ?_
  rfl
 | param s =>
  intro hsz
  refine bD Tryz.func144 Tryz.ntmps144 ?_;refine gc 20 ?_;refine cf ?_;refine kc 0 [11, 3, 1, 2] 6 ?_;refine cf ?_;refine gc 6 ?_;refine ct ?_;refine kc 1 [3, 1, 2] 6 ?_;refine lP (ι := Nat) (fun i => [(7, int i)]) [3, 1, 2] (fun i => i ≤ ps.length ∧ s ∉ ps.take i) (fun i => ps.length - i) (0) rfl ?I1 ?M1 ?H1
  case I1 =>
   exact ⟨Nat.zero_le _, by simp⟩
  case M1 =>
   exact mz
  case H1 =>
   rintro i hinv
   try dsimp only at hinv
   refine kc 0 [7, 3, 1, 2] 9 ?_;refine cJ (fun h8 => ?_) (fun h8 => ?_)
   ·refine kc 5 [] 8 ?_;refine ez ?_
    have h := hinv.2
    rw [List.take_of_length_le (by omega)] at h
    simp only [cB.dw, wG h]
   refine kc 5 [7, 3, 1, 2] 0 ?_;refine gz [0, 1] mixed ?_;refine A1 2 rfl (bV jW lF ⟨_, rfl, ?_⟩ (he := by exact (fX (by omega))));refine ga [3, 4, 5, 6] ?_;refine aQ ?_;refine ge 1 ?_;refine cJ (fun h10 => ?_) (fun h10 => ?_)
   ·refine kc 3 [7, 3, 1, 2] 2 ?_;refine o1 (cw ?_);refine go 2 ?_;refine bi (i + 1) rfl ?_ mz
    exact ⟨⟨by omega, gN (by omega) hinv.2 h10⟩, by omega⟩
   refine kc 0 [7, 2] 4 ?_
   have hin : i < ns.length := by omega
   refine o1 (bV iQ jh ?_ (he := by exact (oD (by omega))));refine go 12 ?_;refine ez ?_; obtain ⟨n, hn1, hn2⟩ := Ct hl hinv.2 (show ps[i]? = some s by rw [List.getElem?_eq_getElem (by omega), h10])
   rw [List.getElem?_eq_getElem hin] at hn1
   simp only [cB.dw, hn2]
   cases hn1; rfl
 | max a b iha ihb =>
  intro hsz
  simp only [cB.size] at hsz
  have h9 := hbd a
  have h10 := hbd b
  refine bD Tryz.func144 Tryz.ntmps144 ?_;refine gc 20 ?_;refine cf ?_;refine kc 0 [11, 3, 1, 2] 6 ?_;refine cf ?_;refine gc 6 ?_;refine cf ?_;refine kc 3 [3, 1, 2] 4 ?_;refine o1 (bV ee ei ?_ (he := by exact (rfl)));refine o1 (Gt dB ?_ (hlen := by exact (aJ.eR _)));refine go 2 ?_;refine oc (cv kz rfl rfl (iha (by omega)) (an (an (an .nil))) ?_);refine ko 3 [8, 3, 1, 2] 4 ?_;refine o1 (bV ee ei ?_ (he := by exact (rfl)));refine o1 (Gt dB ?_ (hlen := by exact (aJ.eR _)));refine go 2 ?_;refine oc (cv kz rfl rfl (ihb (by omega)) (an (an (an .nil))) ?_);refine ko 4 [9, 8, 3] 6 ?_;refine j1 60 false rfl (by decide) ?_;refine ln ?_ (hbw := by exact rfl);refine ln ?_ (hbw := by exact rfl);refine o1 (qG ?_);refine go 2 ?_;refine cf ?_;refine kc 3 [9, 8] 7 ?_;refine cj (fun h17 => ?_) (fun h17 => ?_)
  ·refine kc 0 [9] 8 ?_;refine ez ?_
   rw [show (cB.max a b).dw (hZ ps ns) = b.dw (hZ ps ns) by simp only [cB.dw]; omega]
  refine kc 2 [8] 7 ?_;refine ez ?_
  rw [show (cB.max a b).dw (hZ ps ns) = a.dw (hZ ps ns) by simp only [cB.dw]; omega]
 | imax a b iha ihb =>
  intro hsz
  simp only [cB.size] at hsz
  have h9 := hbd a
  have h10 := hbd b
  refine bD Tryz.func144 Tryz.ntmps144 ?_;refine gc 20 ?_;refine cf ?_;refine kc 0 [11, 3, 1, 2] 6 ?_;refine cf ?_;refine gc 6 ?_;refine cf ?_;refine kc 3 [3, 1, 2] 4 ?_;refine o1 (bV ee ei ?_ (he := by exact (rfl)));refine o1 (Gt dB ?_ (hlen := by exact (aJ.eR _)));refine go 2 ?_;refine oc (cv kz rfl rfl (iha (by omega)) (an (an (an .nil))) ?_);refine ko 3 [8, 3, 1, 2] 4 ?_;refine o1 (bV ee ei ?_ (he := by exact (rfl)));refine o1 (Gt dB ?_ (hlen := by exact (aJ.eR _)));refine go 2 ?_;refine oc (cv kz rfl rfl (ihb (by omega)) (an (an (an .nil))) ?_);refine ko 4 [9, 8, 3] 6 ?_;refine j1 60 true rfl (by decide) ?_;refine ml ?_ (hbw := by exact rfl);refine go 1 ?_;refine ml ?_ (hbw := by exact rfl);refine go 1 ?_;refine o1 (u5 ?_);refine go 2 ?_;refine cj (fun h15 => ?_) (fun h15 => ?_)
  ·refine kc 0 [] 7 ?_;refine ez ?_
   rw [show (cB.imax a b).dw (hZ ps ns) = 0 by simp only [cB.dw, h15, if_true]]
  refine kc 3 [9, 8] 7 ?_;refine cj (fun h17 => ?_) (fun h17 => ?_)
  ·refine kc 0 [9] 8 ?_;refine ez ?_
   rw [show (cB.imax a b).dw (hZ ps ns) = b.dw (hZ ps ns) by simp only [cB.dw, h15, if_false]; omega]
  refine kc 2 [8] 7 ?_;refine ez ?_
  rw [show (cB.imax a b).dw (hZ ps ns) = a.dw (hZ ps ns) by simp only [cB.dw, h15, if_false]; omega]
end Go.Proofs.YtndbnldjidciiaaGreatDoor
namespace Go.Proofs.YtndbnldjidciiaaGreatDoor
open Go Go.Vd Go.RowKit
attribute [local irreducible] bl br de aj bI
variable {gl : Nat → List D}
theorem tg (ps : List ByteArray) (ls : List aJ) (hl : ps.length ≤ ls.length) (hl2 : ps.length ≤ 281474976710656) : ∀ (n : Nat) (k : Int) (s : ByteArray) (args : List aJ), (aJ.mk k s args).size ≤ n → (aJ.mk k s args).size ≤ 1099511627776 →
 cD Tryz.prog gl 131 [(aJ.mk k s args).d, c6 ps, .sl 3 (bF ls)] (· = ((aJ.mk k s args).subst ps ls).d) := by
 have hlp := bU ps
 have hll := bR ls
 intro n
 induction n with
 | zero => intro k s args h; simp [aJ.size] at h
 | succ n ih =>
  intro k s args hn hb
  have hsz : aS args ≤ n := by simp [aJ.size] at hn; omega
  have hlen := bR args
  have hlb := iA args
  simp only [aJ.size] at hb
  refine bD Tryz.func131 Tryz.ntmps131 ?_;refine gc 14 ?_;refine cj (fun h1 => ?_) (fun h1 => ?_)
  ·refine kc 1 [6, 3, 1, 2] 6 ?_;refine lP (ι := Nat) (fun i => [(7, int i)]) [6, 3, 1, 2] (fun i => i ≤ ps.length ∧ s ∉ ps.take i) (fun i => ps.length - i) (0) rfl ?I1 ?M1 ?H1
   case I1 =>
    exact ⟨Nat.zero_le _, by simp⟩
   case M1 =>
    exact mz
   case H1 =>
    rintro i hinv
    try dsimp only at hinv
    refine kc 0 [7, 6, 3, 1, 2] 9 ?_;refine cJ (fun h3 => ?_) (fun h3 => ?_)
    ·refine kc 5 [6, 3] 8 ?_;refine ez ?_
     have hk : k = 4 := by omega
     have h := hinv.2
     rw [List.take_of_length_le (by omega)] at h
     simp only [aJ.subst, if_pos hk, yg h]
     rfl
    refine kc 5 [7, 6, 3, 1, 2] 0 ?_;refine gz [0, 1] mixed ?_;refine A1 2 rfl (bV jW lF ⟨_, rfl, ?_⟩ (he := by exact (fX (by omega))));refine ga [3, 4, 5, 6] ?_;refine aQ ?_;refine ge 1 ?_;refine cJ (fun h5 => ?_) (fun h5 => ?_)
    ·refine kc 3 [7, 6, 3, 1, 2] 2 ?_;refine o1 (cw ?_);refine go 2 ?_;refine bi (i + 1) rfl ?_ mz
     exact ⟨⟨by omega, gN (by omega) hinv.2 h5⟩, by omega⟩
    refine kc 0 [7, 6, 2] 4 ?_; obtain ⟨k', s', a', hget⟩ := cU (show i < ls.length by omega)
    refine o1 (bV ee ei ?_ (he := by exact (cZ hget)));refine go 11 ?_;refine ez ?_
    have hk : k = 4 := by omega
    have hf := yf (show i < ps.length by omega) hinv.2 h5
    simp only [aJ.subst, if_pos hk, hf, List.getD_eq_getElem?_getD, hget, Option.getD_some]
    rfl
  refine kc 14 [8, 6, 3, 1, 2] 6 ?_;refine bq 121 3 rfl ?_;refine lp (ι := Nat) (fun i => [(9, int i)]) (fun i => [.cells [.d (.v (.int .i64 k)), .d (.v (.string s)), .d (.sl 3 (bF args))] 121, .cells [.d (.v (.int .i64 0)), .d (.v (.string .empty)), .d (.v (.slice none 0 0))] 121, .cells [.d (.v (.int .i64 k)), .d (.v (.string s)), .own 3 3 (bF (eI ps ls (args.take i)))] 121, .row 121 3]) [8, 6, 3, 1, 2] (fun i => i ≤ args.length) (fun i => args.length - i) (0) ([0, 1, 2, 3]) rfl ?I2 ?M2 ?H2
  case I2 =>
   exact Nat.zero_le _
  case M2 =>
   refine mo ?_ (aH (aH (aH (aH (aH (aH dF))))))
   repeat (first | exact cW | exact zX | refine bh ?_ | refine p6 ?_ | refine BU ?_ ?_ | refine an ?_ | refine .cons (.nil rfl) ?_)
  case H2 =>
   rintro i hinv
   try dsimp only at hinv
   refine kc 0 [9, 8, 6, 3, 1, 2] 10 ?_;refine cJ (fun h10 => ?_) (fun h10 => ?_)
   ·refine kc 5 [8, 6] 7 ?_;refine ez ?_
    have hk : ¬ k = 4 := by omega
    simp only [aJ.subst, if_neg hk]
    rw [List.take_of_length_le (by omega)]
    rfl
   refine kc 4 [9, 8, 6, 3, 1, 2] 0 ?_
   obtain ⟨k', s', a', hget⟩ := cU (show i < args.length by omega); obtain ⟨k2, s2, a2, hs2⟩ := aJ.case ((aJ.mk k' s' a').subst ps ls)
   have hsz' := iT hget
   have hlast : bF (eI ps ls (args.take i)) ++ [[.v (.int .i64 k2), .v (.string s2), .sl 3 (bF a2)]] = bF (eI ps ls (args.take (i + 1))) := by
    rw [yD hget, qy, hs2]; rfl
   have hll2 := bR (eI ps ls (args.take i))
   have hll3 := tV ps ls (args.take i)
   simp only [List.length_take] at hll3
   refine gz [0, 1, 2, 3, 4] mixed ?_;refine A1 5 rfl (bV ee ei ⟨_, rfl, ?_⟩ (he := by exact (cZ hget)));refine ga [6, 7, 8] ?_;refine A2 (T := fun _ => False) 9 rfl (bo Ia rfl rfl rfl rfl (ih k' s' a' (by omega) (by omega)) (bd (an (an .nil))) (fun d hd => ?_))
   rw [hs2] at hd; obtain rfl := hd
   refine A2 10 rfl (gR jD [.tmp 52] dB ?_);refine A2 11 rfl (nU jD ?_);refine ga [12] ?_;refine A2 13 rfl (eD yz ?_);refine aQ ?_;refine ke 2 [9, 8, 6, 3, 1, 2] 2 ?_;refine o1 (cw ?_);refine go 2 ?_
   rw [hlast]
   refine bk (i + 1) rfl ?_ [0, 1, 2, 3] mz
   exact ⟨by omega, by omega⟩
end Go.Proofs.YtndbnldjidciiaaGreatDoor
namespace Go.Proofs.YtndbnldjidciiaaGreatDoor
open Go Go.Vd Go.RowKit
attribute [local irreducible] bl br de aj bI cY
variable {g gl : Nat → List D}
theorem xE (ps : List ByteArray) (us : List aJ) (hl : ps.length ≤ us.length) (hl2 : ps.length ≤ 281474976710656) : ∀ (n : Nat) (k m : Int) (s : ByteArray) (ls : List aJ) (args : List ae), (ae.mk k m s ls args).size ≤ n → (ae.mk k m s ls args).size ≤ 1099511627776 →
 cD Tryz.prog gl 105 [(ae.mk k m s ls args).d, c6 ps, .sl 3 (bF us)] (· = (jn ps us (.mk k m s ls args)).d) := by
 intro n
 induction n with
 | zero => intro k m s ls args h; simp [ae.size] at h
 | succ n ih =>
  intro k m s ls args hsz hb
  simp only [ae.size] at hsz hb
  have hal := bf args
  have hsa := bA args
  have hll := bR ls
  have hsl := pN ls
  have hpl := bU ps
  have hml := q7 (ps := ps) (us := us) args
  refine bD Tryz.func105 Tryz.ntmps105 ?_;refine kc 20 [7, 6, 3, 1, 2] 6 ?_;refine bq 121 3 rfl ?_;refine lp (ι := Nat) (fun i => [(8, int i)]) (fun i => [.cells [.d (.v (.int .i64 k)), .d (.v (.int .i64 m)), .d (.v (.string s)), .d (.sl 3 (bF ls)), .d (.sl 5 (ba args))] 39, .cells [.d (.v (.int .i64 0)), .d (.v (.int .i64 0)), .d (.v (.string .empty)), .d (.v (.slice none 0 0)), .d (.v (.slice none 0 0))] 39, .cells [.d (.v (.int .i64 k)), .d (.v (.int .i64 m)), .d (.v (.string s)), .own 3 3 (bF ((ls.map fun x => x.subst ps us).take i)), .d (.v (.slice none 0 0))] 39, .row 121 3]) [7, 6, 3, 1, 2] (fun i => i ≤ ls.length) (fun i => ls.length - i) (0) ([0, 1, 2, 3]) rfl ?I1 ?M1 ?H1
  case I1 =>
   exact Nat.zero_le _
  case M1 =>
   refine mo ?_ (aH (aH (aH (aH (aH (aH dF))))))
   repeat (first | exact cW | exact zX | refine bh ?_ | refine p6 ?_ | refine BU ?_ ?_ | refine an ?_ | refine .cons (.nil rfl) ?_)
  case H1 =>
   rintro i hinv
   try dsimp only at hinv
   refine kc 0 [8, 7, 6, 3, 1, 2] 10 ?_;refine cj (fun h3 => ?_) (fun h3 => ?_)
   ·refine kc 4 [8, 7, 6, 3, 1, 2] 0 ?_; obtain ⟨k2, s2, a2, hget⟩ := cU (show i < ls.length by omega)
    have hg1 := tY hget
    obtain ⟨k3, s3, a3, hY⟩ := aJ.case ((aJ.mk k2 s2 a2).subst ps us)
    have hsu := tg (gl := gl) ps us hl hl2 _ k2 s2 a2 (Nat.le_refl _) (by omega)
    rw [hY] at hsu
    have hgm : (ls.map fun x => x.subst ps us)[i]? = some (.mk k3 s3 a3) := (by rw [List.getElem?_map, hget, Option.map_some, hY])
    have hnx : bF ((ls.map fun x => x.subst ps us).take i) ++ [[.v (.int .i64 k3), .v (.string s3), .sl 3 (bF a3)]] = bF ((ls.map fun x => x.subst ps us).take (i + 1)) := Bh hgm
    have htl := bR ((ls.map fun x => x.subst ps us).take i)
    have htk := List.length_take (i := i) (l := ls.map fun x => x.subst ps us)
    refine gz [0, 1, 2, 3, 4] mixed ?_;refine A1 5 rfl (bV ee ei ⟨_, rfl, ?_⟩ (he := by exact (cZ hget)));refine ga [6, 7, 8] ?_;refine A2 9 rfl (cv Ia rfl rfl (hsu) (bd (an (an .nil))) ?_);refine A2 10 rfl (gR jD [.tmp 33] dB ?_);refine A2 11 rfl (nU jD ?_);refine ga [12] ?_;refine A2 13 rfl (eD yz ?_);refine aQ ?_;refine ke 2 [8, 7, 6, 3, 1, 2] 2 ?_;refine o1 (cw ?_);refine go 2 ?_
    rw [hnx]
    refine bk (i + 1) rfl ?_ [0, 1, 2, 3] mz
    exact ⟨by omega, by omega⟩
   refine kc 7 [7, 6, 3, 1, 2] 0 ?_; obtain rfl : i = ls.length := (by omega)
   rw [List.take_of_length_le (by rw [List.length_map]; omega)]
   refine gc 5 ?_;refine bq 39 5 rfl ?_;refine lp (ι := Nat) (fun j => [(9, int j)]) (fun j => [.cells [.d (.v (.int .i64 k)), .d (.v (.int .i64 m)), .d (.v (.string s)), .d (.sl 3 (bF ls)), .d (.sl 5 (ba args))] 39, .cells [.d (.v (.int .i64 0)), .d (.v (.int .i64 0)), .d (.v (.string .empty)), .d (.v (.slice none 0 0)), .d (.v (.slice none 0 0))] 39, .cells [.d (.v (.int .i64 k)), .d (.v (.int .i64 m)), .d (.v (.string s)), .own 3 3 (bF (ls.map fun x => x.subst ps us)), .own 4 5 (ba ((eZ ps us args).take j))] 39, .row 121 3, .row 39 5]) [7, 6, 3, 1, 2] (fun j => j ≤ args.length) (fun j => args.length - j) (0) ([0, 1, 2, 3, 4]) rfl ?I2 ?M2 ?H2
   case I2 =>
    exact Nat.zero_le _
   case M2 =>
    refine mo ?_ (aH (aH (aH (aH (aH (aH dF))))))
    repeat (first | exact cW | exact zX | refine bh ?_ | refine cu ?_ | refine p6 ?_ | refine BU ?_ ?_ | refine an ?_ | refine .cons (.nil rfl) ?_)
   case H2 =>
    rintro j hinv
    try dsimp only at hinv
    refine kc 0 [9, 7, 6, 3, 1, 2] 10 ?_;refine cJ (fun h7 => ?_) (fun h7 => ?_)
    ·refine kc 6 [7, 6] 0 ?_; obtain rfl : j = args.length := (by omega)
     rw [List.take_of_length_le (by omega)]
     refine gc 6 ?_;refine ed ((ae.mk k m s (ls.map fun x => x.subst ps us) (eZ ps us args)).d) ?_
     rw [jn]
    refine kc 4 [9, 7, 6, 3, 1, 2] 0 ?_
    obtain ⟨k2, m2, s2, l2, a2, hget⟩ := bQ (show j < args.length by omega)
    have hg1 := bC hget
    obtain ⟨k3, m3, s3, l3, a3, hY⟩ := ae.case (jn ps us (.mk k2 m2 s2 l2 a2))
    have hsu := ih k2 m2 s2 l2 a2 (by omega) (by omega)
    have hgm := wh (ps := ps) (us := us) hget
    rw [hY] at hsu hgm
    have hnx : ba ((eZ ps us args).take j) ++ [[.v (.int .i64 k3), .v (.int .i64 m3), .v (.string s3), .sl 3 (bF l3), .sl 5 (ba a3)]] = ba ((eZ ps us args).take (j + 1)) := Az hgm
    have htl := bf ((eZ ps us args).take j)
    have htk := List.length_take (i := j) (l := eZ ps us args)
    refine gz [0, 1, 2, 3, 4] mixed ?_;refine A1 5 rfl (bV bE bK ⟨_, rfl, ?_⟩ (he := by exact (bY hget)));refine ga [6, 7, 8] ?_;refine A2 9 rfl (cv Ii rfl rfl (hsu) (bd (an (an .nil))) ?_);refine A2 10 rfl (gR fA [.tmp 53] bM ?_);refine A2 11 rfl (nU fA ?_);refine ga [12] ?_;refine A2 13 rfl (eD EC ?_);refine aQ ?_;refine ke 2 [9, 7, 6, 3, 1, 2] 2 ?_;refine o1 (cw ?_);refine go 2 ?_
    rw [hnx]
    refine bk (j + 1) rfl ?_ [0, 1, 2, 3, 4] mz
    exact ⟨by omega, by omega⟩
end Go.Proofs.YtndbnldjidciiaaGreatDoor
namespace Go.Proofs.YtndbnldjidciiaaGreatDoor
open Go Go.Vd Go.RowKit
attribute [local irreducible] bl br de aj bI cY
variable {g gl : Nat → List D}
def gZ (d m : Int) (t : Bool) (p : Int) : Ob := .cells [.d (.v (.int .i64 d)), .d (.v (.int .i64 m)), .d (.v (.bool t)), .d (.v (.int .i64 p))] 87
theorem Dg (d m : Int) (t : Bool) (p : Int) (hd : 0 ≤ d ∧ d ≤ 1099511627776) :
 ey Tryz.prog gl 84 [gZ d m t p] [.bZ 0 0] fun out ob' => (m ≤ d ∧ out = .ret (.d (.v (.bool false))) ∧ ob' = [gZ d m true p]) ∨ (d < m ∧ out = .ret (.d (.v (.bool true))) ∧ ob' = [gZ (d + 1) m t p]) := by
 refine bS Tryz.func84 Tryz.ntmps84 1 ?_;refine gc 7 ?_;refine gz [0, 1, 2, 3, 4, 5, 6, 7, 8] mixed ?_;refine aQ ?_;refine ge 1 ?_;refine cj (fun h1 => ?_) (fun h1 => ?_)
 ·refine kc 8 [] 7 ?_;refine eo (.v (.bool false)) [0] [gZ d m true p] ?_
  ·exact .inl ⟨by omega, rfl, rfl⟩
 refine kc 2 [0] 6 ?_;refine o1 (cw ?_);refine ko 5 [] 6 ?_;refine eo (.v (.bool true)) [0] [gZ (d + 1) m t p] ?_
 ·exact .inr ⟨by omega, rfl, rfl⟩
theorem uO (es : List cq) (w : Bool) (nm : ByteArray) (hE : KU es) :
 ey Tryz.prog gl 160 [aP es w, aN] [.bZ 0 0, .d (.v (.string nm))] fun out ob' => out = .ret (.d (.v (.bool (!decide ((bB nm es).1 = 0))))) ∧ ob' = [aP es w, aN] := by
 have hq := find_spec (gl := gl) es w nm hE
 rcases hF : bB nm es with ⟨kf, ⟨⟨kd, sd, pd, ⟨k1, n1, s1, l1, a1⟩, ⟨k2, n2, s2, l2, a2⟩, ad, cd'⟩, rpd, ⟨k3, n3, s3, l3, a3⟩⟩, jf⟩
 rw [hF] at hq
 refine bS Tryz.func160 Tryz.ntmps160 2 ?_;refine gc 9 ?_;refine oc (ck Hy rfl rfl (hq) [0, 1] rfl (bh (cu .nil)) (an (an .nil)) ?_);refine ko 10 [5] 8 ?_;refine qI [0, 1] [aP es w, aN] ?_
 ·exact ⟨rfl, rfl⟩
def JS : Option (List ByteArray × ae) → D
 | none => .cb [c6 [], aI.d, .v (.bool false)]
 | some x => .cb [c6 x.1, x.2.d, .v (.bool true)]
variable {nm : ByteArray} {es : List cq} {k : Int} {e : cq} {j : Nat}
theorem Ey (h : bB nm es = (k, e, j)) (hk : k = 0) : fZ nm es = none := by
 unfold fZ; rw [h]; exact if_pos hk
theorem Ew (h : bB nm es = (k, e, j)) (hk : k = 4) {c : ByteArray × ae} (hc : e.d.cs[j]? = some c) : fZ nm es = some (e.d.ps, c.2) := by
 unfold fZ; rw [h]; subst hk
 show (if (4 : Int) = 0 then none else if (4 : Int) = 4 then (e.d.cs[j]?).map (fun c => (e.d.ps, c.2)) else _) = _
 rw [if_neg (by decide), if_pos rfl, hc]; rfl
theorem Ev (h : bB nm es = (k, e, j)) (hk : k = 5) : fZ nm es = some (e.rp, e.rt) := by
 unfold fZ; rw [h]; subst hk; rfl
theorem Eu (h : bB nm es = (k, e, j)) (h0 : ¬ k = 0) (h4 : ¬ k = 4) (h5 : ¬ k = 5) : fZ nm es = some (e.d.ps, e.d.ty) := by
 unfold fZ; rw [h]
 show (if k = 0 then none else if k = 4 then _ else if k = 5 then _ else _) = _
 rw [if_neg h0, if_neg h4, if_neg h5]
theorem rP (es : List cq) (w : Bool) (nm : ByteArray) (hE : KU es) (hk : ∀ e ∈ es, e.d.k ≠ 4) :
 ey Tryz.prog gl 25 [aP es w, aN] [.bZ 0 0, .d (.v (.string nm))] fun out ob' => out = .ret (.d (JS (fZ nm es))) ∧ ob' = [aP es w, aN] := by
 have hq := find_spec (gl := gl) es w nm hE
 have hc := nE (nm := nm) hk
 rcases hF : bB nm es with ⟨kf, ⟨⟨kd, sd, pd, ⟨k1, n1, s1, l1, a1⟩, ⟨k2, n2, s2, l2, a2⟩, ad, cd'⟩, rpd, ⟨k3, n3, s3, l3, a3⟩⟩, jf⟩
 rw [hF] at hq hc
 simp only [dp.cs] at hc
 have hcl := gd cd'
 refine bS Tryz.func25 Tryz.ntmps25 2 ?_;refine gc 11 ?_;refine oc (ck Hy rfl rfl (hq) [0, 1] rfl (bh (cu .nil)) (an (an .nil)) ?_);refine ko 11 [9, 7, 8, 5] 12 ?_;refine cj (fun h3 => ?_) (fun h3 => ?_)
 ·refine kc 0 [5] 11 ?_;refine eo (JS none) [0, 1] [aP es w, aN] ?_
  ·rw [Ey hF (by omega)]; exact ⟨rfl, rfl⟩
 refine gc 6 ?_;refine cj (fun h5 => ?_) (fun h5 => ?_)
 ·refine kc 1 [9, 8, 5] 0 ?_; obtain ⟨⟨cn, ⟨ck, cm, cs, cl, ca⟩⟩, hc1, hc2⟩ := hc (by omega)
  have hc3 := (List.getElem?_eq_some_iff.1 hc1).1
  refine gz [0, 1, 2, 3, 4, 5, 6] mixed ?_;refine A1 7 rfl (bV pG qc ⟨_, rfl, ?_⟩ (he := by exact (gW hc1)));refine ga [8, 9, 10] ?_;refine A2 11 rfl (eD bM ?_);refine ga [12] ?_;refine aQ ?_;refine ge 4 ?_;refine eo (JS (some (pd, .mk ck cm cs cl ca))) [0, 1] [aP es w, aN] ?_
  ·rw [Ew hF (by omega) hc1]; exact ⟨rfl, rfl⟩
 refine kc 0 [17, 8, 5] 6 ?_;refine cj (fun h7 => ?_) (fun h7 => ?_)
 ·refine gc 1 ?_;refine gz [0, 1, 2, 3, 4] mixed ?_;refine A2 5 rfl (eD bM ?_);refine ga [6] ?_;refine aQ ?_;refine ge 4 ?_;refine eo (JS (some (rpd, .mk k3 n3 s3 l3 a3))) [0, 1] [aP es w, aN] ?_
  ·rw [Ev hF (by omega)]; exact ⟨rfl, rfl⟩
 refine gc 4 ?_;refine gz [0, 1, 2, 3, 4, 5, 6] mixed ?_;refine A2 7 rfl (eD bM ?_);refine ga [8] ?_;refine aQ ?_;refine ge 2 ?_;refine eo (JS (some (pd, .mk k1 n1 s1 l1 a1))) [0, 1] [aP es w, aN] ?_
 ·rw [Eu hF (by omega) (by omega) (by omega)]; exact ⟨rfl, rfl⟩
def ib : ae := .mk 1 0 .empty [.mk 0 .empty []] []
theorem mH (es : List cq) (w : Bool) {B B' : Int} (hB : B ≤ 1125899906842624) (hB' : B' ≤ 1125899906842624) (k m : Int) (s : ByteArray) (ls : List aJ) (args : List ae) (k2 m2 : Int) (s2 : ByteArray) (ls2 : List aJ) (args2 : List ae) (hs1 : (ae.mk k m s ls args).size ≤ 1099511627776) (hs2 : (ae.mk k2 m2 s2 ls2 args2).size ≤ 1099511627776) (hsh1 : iU B (.mk k m s ls args)) (hsh2 : iU B' (.mk k2 m2 s2 ls2 args2)) :
 ey Tryz.prog gl 64 [aP es w, aN] [.bZ 0 0, .d (ae.mk k m s ls args).d, .d (ae.mk k2 m2 s2 ls2 args2).d] fun out ob' => ∃ (u : ae) (w' : Bool), out = .ret (.d u.d) ∧ ob' = [aP es w', aN] ∧
  ((w' = false ∧ w = false ∧ u = dK (.mk k m s ls args) (.mk k2 m2 s2 ls2 args2) ∧ u.size ≤ 20000) ∨ (w' = true ∧ u = ib)) := by
 have hsub := oz (gl := gl) (B := max B B') (by omega) k2 m2 s2 ls2 args2 (jG (by omega) hsh2) hs2 k m s ls args (jG (by omega) hsh1) hs1
 have hsz := wo (.mk k2 m2 s2 ls2 args2) (.mk k m s ls args) 0
 have hX := ae.case (dK (.mk k m s ls args) (.mk k2 m2 s2 ls2 args2))
 unfold dK at hX hsub
 obtain ⟨k3, m3, s3, l3, a3, hX⟩ := hX
 rw [hX] at hsub hsz
 refine bS Tryz.func64 Tryz.ntmps64 2 ?_;refine gc 11 ?_;refine oc (T := fun _ => False) (bo Ih rfl rfl rfl rfl (Bm (B := B) (B' := B') k m s ls args k2 m2 s2 ls2 args2 hs1 hs2 hsh1) (bd (bd .nil)) (fun d hd => ?_)); obtain ⟨bm, rfl, hbm⟩ := hd; refine ko 4 [7, 6, 5, 4, 0] 4 ?_
 refine' oo (yt := 16) (d := 12) 4 ?a1 ?b1 ?_
 case a1 =>
  intro hc hK
  refine go 4 ?_
  exact hK [_, _, _, _] rfl rfl
 case b1 =>
  intro _ hK; refine go 4 ?_; exact hK [_, _, _, _] rfl
 refine go 2 ?_;refine cJ (fun h2 => ?_) (fun h2 => ?_)
 ·refine kc 3 [6, 5, 4] 0 ?_; obtain ⟨h5, rfl⟩ := h2; refine gc 3 ?_;refine oc (cv Jt rfl rfl (hsub) (bd (bd .nil)) ?_);refine go 4 ?_;refine eo ((ae.mk k3 m3 s3 l3 a3).d) [0, 1] [aP es false, aN] ?_
  ·exact ⟨.mk k3 m3 s3 l3 a3, false, rfl, rfl, .inl ⟨rfl, rfl, by unfold dK; rw [hX], by have := hbm h5; omega⟩⟩
 refine kc 8 [6] 3 ?_;refine oc (gR jD [.tmp 21] dB ?_);refine go 6 ?_;refine eo (ib.d) [0, 1] [aP es true, aN] ?_
 ·exact ⟨ib, true, rfl, rfl, .inr ⟨rfl, rfl⟩⟩
end Go.Proofs.YtndbnldjidciiaaGreatDoor
namespace Go.Proofs.YtndbnldjidciiaaGreatDoor
open Go Go.Vd Go.RowKit
attribute [local irreducible] bl br de aj bI cY
variable {g gl : Nat → List D}
structure vx (sg : Sg) (e : cq) : Prop where
 k : e.d.k = 1 ∨ e.d.k = 2 ∨ e.d.k = 3
 ps : e.d.ps.length ≤ 6
 nm : e.d.nm.size ≤ 1000000
 ty : Wt sg e.d.ps e.d.ty 0 ∧ e.d.ty.size ≤ 800001
 vl : e.d.k = 2 → Wt sg e.d.ps e.d.vl 0 ∧ e.d.vl.size ≤ 800001
 cl : e.d.cs.length ≤ 1000000
 ar : e.d.k = 3 → 0 ≤ e.d.ar ∧ e.d.ar ≤ bu e.d.ty
 cs : ∀ c ∈ e.d.cs, Wt sg e.d.ps c.2 0 ∧ c.2.size ≤ 800001 ∧ e.d.ar ≤ bu c.2
 rp : e.rp.length ≤ 7
 rt : e.d.k = 3 → Wt sg e.rp e.rt 0 ∧ e.rt.size ≤ 1099511627776
structure cP (es : List cq) : Prop where
 len : es.length ≤ 1000000
 nd : (es.map fun e => e.d.nm).Nodup
 vU : ∀ e ∈ es, vx (eB es) e
variable {es : List cq}
theorem cP.b (h : cP es) : KU es := ⟨by have := h.len; omega, fun e he => ⟨by have := (h.vU e he).cl; omega, by have := (h.vU e he).nm; omega⟩⟩
theorem cP.k4 (h : cP es) : ∀ e ∈ es, e.d.k ≠ 4 := fun e he hk => by rcases (h.vU e he).k with h | h | h <;> omega
theorem cP.sg (h : cP es) {s : ByteArray} {n : Nat} (hs : eB es s = some n) : n ≤ 7 := by
 unfold eB at hs
 obtain ⟨t, ht, rfl⟩ := Option.map_eq_some_iff.1 hs
 unfold fZ at ht
 simp only at ht
 split at ht
 ·cases ht
 ·rename_i h0
  have hm := rB h0
  have he := h.vU _ hm
  have h6 := he.ps
  have h7 := he.rp
  split at ht
  ·obtain ⟨c, _, rfl⟩ := Option.map_eq_some_iff.1 ht
   simp only; omega
  ·split at ht
   ·cases ht; simp only; omega
   ·cases ht; simp only; omega
theorem tJ {sg : Sg} {ps : List ByteArray} {c : Int} : Wt sg ps ib c := Wt.sort ⟨.zero, rfl, ⟨by decide, by decide, fun e => absurd e (by decide), trivial⟩, fun p h => h.elim⟩
theorem pa (es : List cq) (w : Bool) (ps : List ByteArray) (us : List aJ) (hl : ps.length ≤ us.length) (hu : us.length ≤ 1000000) (hus : ∀ u ∈ us, u.size ≤ 1099511627776) (k m : Int) (s : ByteArray) (ls : List aJ) (args : List ae) (hs1 : (ae.mk k m s ls args).size ≤ 1099511627776) :
 ey Tryz.prog gl 58 [aP es w, aN] [.bZ 0 0, .d (ae.mk k m s ls args).d, .d (c6 ps), .d (.sl 3 (bF us))] fun out ob' => ∃ (u : ae) (w' : Bool), out = .ret (.d u.d) ∧ ob' = [aP es w', aN] ∧
  ((w' = false ∧ w = false ∧ u = jn ps us (.mk k m s ls args) ∧ u.size ≤ 20000) ∨ (w' = true ∧ u = ib)) := by
 have hlv := xE (gl := gl) ps us hl (by omega) _ k m s ls args (Nat.le_refl _) hs1
 have htu := uN (gl := gl) _ k m s ls args (Nat.le_refl _) hs1
 have htz := nW (.mk k m s ls args)
 have hul := bR us
 have hsz := fun M h => tP ps us M h (.mk k m s ls args)
 obtain ⟨k3, m3, s3, l3, a3, hX⟩ := ae.case (jn ps us (.mk k m s ls args))
 rw [hX] at hlv hsz
 refine bS Tryz.func58 Tryz.ntmps58 2 ?_;refine gc 9 ?_;refine oc (T := fun _ => False) (bo tf rfl rfl rfl rfl (jL _ k m s ls args 20000 (Nat.le_refl _) (by omega) (by omega) (by omega)) (bd (an .nil)) (fun d hd => ?_)); obtain ⟨r, rfl, hr1, hr2, hr3⟩ := hd; refine ko 15 [11, 10, 9, 8, 5, 0, 2, 3] 0 ?_;refine lP (ι := Nat × Int) (fun ⟨i, q⟩ => [(11, int i), (10, int q)]) [9, 8, 5, 0, 2, 3] (fun ⟨i, q⟩ => i ≤ us.length ∧ 0 ≤ q ∧ q ≤ 1099511627776 ∧ (q ≤ 20000 → ∀ u ∈ us.take i, (u.size : Int) ≤ q)) (fun ⟨i, q⟩ => us.length - i) ((0, 0)) rfl ?I2 ?M2 ?H2
 case I2 =>
  exact ⟨Nat.zero_le _, by omega, by omega, fun _ u hu => by simp at hu⟩
 case M2 =>
  exact mz
 case H2 =>
  rintro ⟨i, q⟩ hinv
  try dsimp only at hinv
  refine kc 0 [11, 10, 9, 8, 5, 0, 2, 3] 9 ?_;refine cj (fun h4 => ?_) (fun h4 => ?_)
  ·refine kc 5 [11, 10, 9, 8, 5, 0, 2, 3] 0 ?_; obtain ⟨k2, s2, a2, hget⟩ := cU (show i < us.length by omega)
   have hgs := hus _ (List.mem_of_getElem? hget)
   refine gc 3 ?_;refine o1 (bV ee ei ?_ (he := by exact (cZ hget)));refine go 1 ?_;refine oc (T := fun _ => False) (bo Ao rfl rfl rfl rfl (nP _ k2 s2 a2 20000 (Nat.le_refl _) (by omega) (by omega) (by omega)) (bd (an .nil)) (fun d hd => ?_)); obtain ⟨z, rfl, hz1, hz2, hz3⟩ := hd; refine ko 3 [12, 11, 10, 9, 8, 5, 0, 2, 3] 3 ?_;refine o1 (Kd ?_);refine ko 4 [10, 11, 9, 8, 5, 0, 2, 3] 2 ?_;refine o1 (cw ?_);refine go 2 ?_;refine bi (i + 1, max q z) rfl ?_ mz
   ·refine ⟨⟨by omega, by omega, by omega, fun h u hm => ?_⟩, show us.length - (i + 1) < us.length - i by omega⟩
    rw [List.take_add_one, hget] at hm
    rcases List.mem_append.1 hm with hm | hm
    ·have := hinv.2.2.2 (by omega) u hm; omega
    ·simp only [Option.toList_some, List.mem_singleton] at hm; subst hm
     have := hz3 (by omega); omega
  refine kc 6 [10, 9, 8, 5, 0, 2, 3] 0 ?_
  have hq := hinv.2.2.2
  rw [List.take_of_length_le (by omega)] at hq
  refine kc 11 [31, 13, 10, 9, 8, 5, 0, 2, 3] 0 ?_;refine xc (ι := Unit) (fun _ => [(13, int (if r ≤ 20000 then (fv (.mk k m s ls args) : Int) else 0))]) [10, 9, 8, 5, 0, 2, 3] (fun _ => True) rfl ?A3 ?B3
  case A3 =>
   refine cJ (fun h9 => ?_) (fun h9 => ?_)
   ·refine gc 1 ?_;refine bi (()) rfl ?_ ?_
    ·trivial
    ·refine mo ?_ (eh rfl (by exact Fit.of_eq (by first | (rw [if_pos (by omega)]; rfl) | (rw [if_neg (by omega)]; rfl))) (aH (aH (aH (aH (aH (aH (aH dF))))))))
     repeat (first | exact cW | refine bh ?_ | refine cu ?_)
   refine gc 2 ?_;refine oc (cv Ij rfl rfl (htu) (bd .nil) ?_);refine go 2 ?_;refine bi (()) rfl ?_ ?_
   ·trivial
   ·refine mo ?_ (eh rfl (by exact Fit.of_eq (by first | (rw [if_pos (by omega)]; rfl) | (rw [if_neg (by omega)]; rfl))) (aH (aH (aH (aH (aH (aH (aH dF))))))))
    repeat (first | exact cW | refine bh ?_ | refine cu ?_)
  case B3 =>
   rintro _ hcut
   try dsimp only at hcut
   refine kc 0 [13, 10, 9, 8, 5, 0, 2, 3] 2 ?_
   have hub : 0 ≤ (if r ≤ 20000 then (fv (.mk k m s ls args) : Int) else 0) ∧ (if r ≤ 20000 then (fv (.mk k m s ls args) : Int) else 0) ≤ 20000 := (by split <;> omega)
   generalize hU : (if r ≤ 20000 then (fv (.mk k m s ls args) : Int) else 0) = U at hub ⊢
   have hmul : 0 ≤ U * q := Int.mul_nonneg (by omega) (by omega)
   have hmul2 : U * q ≤ 20000 * 1099511627776 := Int.mul_le_mul (by omega) (by omega) (by omega) (by omega)
   refine gc 6 ?_
   refine' oo (yt := 44) (d := 38) 6 ?a1 ?b1 ?_
   case a1 =>
    intro hc hK
    refine go 3 ?_;refine gy ?_;refine o1 (uZ rfl rfl rfl (by omega) ?_);refine gy ?_;refine o1 (cw ?_);refine go 1 ?_; exact hK [_, _, _, _, _, _] rfl rfl
   case b1 =>
    intro _ hK; refine go 6 ?_
    exact hK [_, _, _, _, _, _] rfl
   refine go 2 ?_;refine cj (fun h11 => ?_) (fun h11 => ?_)
   ·refine kc 8 [8] 3 ?_;refine oc (gR jD [.tmp 49] dB ?_);refine go 6 ?_;refine eo (ib.d) [0, 1] [aP es true, aN] ?_
    ·exact ⟨ib, true, rfl, rfl, .inr ⟨rfl, rfl⟩⟩
   refine kc 3 [8, 5, 2, 3] 0 ?_; obtain ⟨rfl, h9⟩ := h11
   have hrr := hr3 (by omega)
   rw [if_pos (by omega)] at hU
   have hfin : (ae.mk k3 m3 s3 l3 a3).size ≤ 20000 := (by
    rcases Int.lt_or_le 20000 q with h5 | h5
    ·have hU0 : U = 0 := Classical.byContradiction fun h6 => by
      have h7 : 1 * q ≤ U * q := Int.mul_le_mul_of_nonneg_right (by omega) (by omega)
      omega
     have h8 := hsz 1099511627776 hus
     rw [show fv (.mk k m s ls args) = 0 by omega, Nat.zero_mul] at h8
     omega
    ·have h8 := hsz q.toNat (fun u hu => by have := hq h5 u hu; omega)
     have h10 : ((fv (.mk k m s ls args) * q.toNat : Nat) : Int) = U * q := by
      rw [Int.natCast_mul, hU, Int.toNat_of_nonneg (by omega)]
     omega)
   refine gc 4 ?_;refine oc (cv Ii rfl rfl (hlv) (bd (an (an .nil))) ?_);refine go 4 ?_;refine eo ((ae.mk k3 m3 s3 l3 a3).d) [0, 1] [aP es false, aN] ?_
   ·exact ⟨.mk k3 m3 s3 l3 a3, false, rfl, rfl, .inl ⟨rfl, rfl, hX.symm, hfin⟩⟩
end Go.Proofs.YtndbnldjidciiaaGreatDoor
namespace Go.Proofs.YtndbnldjidciiaaGreatDoor
open Go Go.Vd Go.RowKit
attribute [local irreducible] bl br de aj bI cY
variable {g gl : Nat → List D}
def ph (name : ByteArray) : ae → Int → Bool
 | .mk k _ s _ _, _ => decide (k = 2) && decide (s = name)
mutual
theorem xX {nm : ByteArray} : ∀ (t : ae) (d e : Int), ic (ph nm) t d = ic (ph nm) t e
 | .mk k m s ls args, d, e => by
  simp only [ic, ph]
  rw [zH args _ d e]
theorem zH {nm : ByteArray} : ∀ (l : List ae) (b : Bool) (d e : Int), kP (ph nm) b l d = kP (ph nm) b l e
 | [], b, d, e => rfl
 | t :: r, b, d, e => by
  simp only [kP]
  rw [xX t _ (if (b && r.isEmpty) = true then e + 1 else e), zH r b d e]
end
theorem jw (nm : ByteArray) : ∀ (n : Nat) (k m : Int) (s : ByteArray) (ls : List aJ) (args : List ae), (ae.mk k m s ls args).size ≤ n → (ae.mk k m s ls args).size ≤ 1099511627776 →
 cD Tryz.prog gl 150 [(ae.mk k m s ls args).d, .v (.string nm)] (· = .v (.bool (ic (ph nm) (.mk k m s ls args) 0))) := by
 intro n
 induction n with
 | zero => intro k m s ls args h; simp [ae.size] at h
 | succ n ih =>
  intro k m s ls args hsz hb
  have hsz2 := hsz
  simp only [ae.size] at hsz2 hb
  have hal := bf args
  have hsa := bA args
  refine bD Tryz.func150 Tryz.ntmps150 ?_;refine gc 13 ?_
  refine' oa (yt := 14) (d := 10) 4 ?a1 ?b1 ?_
  case a1 =>
   intro hc hK
   refine go 4 ?_
   exact hK [_, _, _, _] rfl rfl
  case b1 =>
   intro _ hK; refine go 4 ?_; exact hK [_, _, _, _] rfl
  refine go 2 ?_;refine cj (fun h1 => ?_) (fun h1 => ?_)
  ·refine kc 0 [] 7 ?_;refine ez ?_
   (simp only [ic, ph]; rw [decide_eq_true h1.1, decide_eq_true h1.2]; rfl)
  refine kc 3 [2, 1] 6 ?_;refine lP (ι := Nat) (fun i => [(5, int i)]) [2, 1] (fun i => i ≤ args.length ∧ ∀ (j : Nat) t, j < i → args[j]? = some t → ic (ph nm) t 0 = false) (fun i => args.length - i) (0) rfl ?I2 ?M2 ?H2
  case I2 =>
   exact ⟨Nat.zero_le _, fun j t h => absurd h (Nat.not_lt_zero _)⟩
  case M2 =>
   exact mz
  case H2 =>
   rintro i hinv
   try dsimp only at hinv
   refine kc 0 [5, 2, 1] 10 ?_;refine cJ (fun h4 => ?_) (fun h4 => ?_)
   ·refine kc 5 [] 6 ?_;refine ez ?_
    rw [ic, qe (fun j t ht => (xX _ _ 0).trans (hinv.2 j t (by have := (List.getElem?_eq_some_iff.1 ht).1; omega) ht)), Bool.or_false, ph, show (decide (k = 2) && decide (s = nm)) = false from (by simp only [Bool.and_eq_false_iff, decide_eq_false_iff_not]; first | exact h1 | (by_cases h : k = 2; exact .inr (h1 h); exact .inl h))]
   refine kc 5 [5, 2, 1] 0 ?_
   obtain ⟨k2, m2, s2, l2, a2, hget⟩ := bQ (show i < args.length by omega)
   have hg1 := bC hget
   refine gc 4 ?_;refine o1 (bV bE bK ?_ (he := by exact (bY hget)));refine go 2 ?_;refine oc (cv vj rfl rfl (ih k2 m2 s2 l2 a2 (by omega) (by omega)) (bd (an .nil)) ?_);refine ko 3 [6, 5, 2, 1] 5 ?_;refine cj (fun h7 => ?_) (fun h7 => ?_)
   ·refine kc 0 [] 11 ?_;refine ez ?_
    rw [ic, rW hget ((xX _ _ 0).trans h7), Bool.or_true]
   refine gc 5 ?_;refine o1 (cw ?_);refine go 2 ?_;refine bi (i + 1) rfl ?_ mz
   ·exact ⟨⟨by omega, fun j t hj ht => by
    rcases Nat.lt_or_ge j i with h | h
    ·exact hinv.2 j t h ht
    ·obtain rfl : j = i := by omega
     rw [hget] at ht; cases ht
     exact h7⟩, by omega⟩
theorem ET {acc : List ae} {j : Nat} {t : ae} (h : acc[acc.length - 1 - j]? = some t) (hj : j < acc.length) : ba (acc.reverse.take j) ++ [t.cells] = ba (acc.reverse.take (j + 1)) := by
 have h2 : acc.reverse[j]? = some t := by rw [List.getElem?_reverse hj]; exact h
 rw [List.take_add_one, h2, er]; rfl
theorem et (k m : Int) (s : ByteArray) (ls : List aJ) (args : List ae) (hok : tX (.mk k m s ls args)) (hsz : (ae.mk k m s ls args).size ≤ 1099511627776) :
 cD Tryz.prog gl 65 [(ae.mk k m s ls args).d] (· = .cb [(bt (.mk k m s ls args)).1.d, .sl 5 (ba (bt (.mk k m s ls args)).2)]) := by
 refine bD Tryz.func65 Tryz.ntmps65 ?_;refine kc 14 [4, 2, 1] 0 ?_;refine bq 39 5 rfl ?_;refine lp (ι := (Int × Int × ByteArray × List aJ × List ae) × List ae) (fun ⟨⟨k1, m1, s1, l1, a1⟩, acc⟩ => [(4, .own 2 5 (ba acc))]) (fun ⟨⟨k1, m1, s1, l1, a1⟩, acc⟩ => [.cells [.d (.v (.int .i64 k1)), .d (.v (.int .i64 m1)), .d (.v (.string s1)), .d (.sl 3 (bF l1)), .d (.sl 5 (ba a1))] 39, .cells [.d (.v (.int .i64 0)), .d (.v (.int .i64 0)), .d (.v (.string .empty)), .d (.v (.slice none 0 0)), .d (.v (.slice none 0 0))] 39, .row 39 5]) [2, 1] (fun ⟨⟨k1, m1, s1, l1, a1⟩, acc⟩ => tX (.mk k1 m1 s1 l1 a1) ∧ bt (.mk k m s ls args) = ((bt (.mk k1 m1 s1 l1 a1)).1, (bt (.mk k1 m1 s1 l1 a1)).2 ++ acc.reverse) ∧ (ae.mk k1 m1 s1 l1 a1).size + acc.length ≤ (ae.mk k m s ls args).size) (fun ⟨⟨k1, m1, s1, l1, a1⟩, acc⟩ => (ae.mk k1 m1 s1 l1 a1).size) ((⟨k, m, s, ls, args⟩, [])) ([0, 1, 2]) rfl ?I3 ?M3 ?H3
 case I3 =>
  exact ⟨hok, by simp, by simp⟩
 case M3 =>
  refine mo ?_ (eh rfl (by (show Fit _ _ (SV.own 2 5 []); exact Fit.nil rfl)) (aH (aH dF)))
  repeat (first | exact cW | refine bh ?_ | refine p6 ?_)
 case H3 =>
  rintro ⟨⟨k1, m1, s1, l1, a1⟩, acc⟩ hinv
  try dsimp only at hinv
  refine kc 0 [4, 2, 1] 8 ?_;refine cj (fun h2 => ?_) (fun h2 => ?_)
  ·refine gc 4 ?_; obtain rfl := h2; obtain ⟨k2, m2, s2, l2, a2, k3, m3, s3, l3, a3, rfl, hok2⟩ := EF hinv.1 rfl
   have hal := bf acc
   have hal2 := hinv.2.2
   have hlast : ba acc ++ [[.v (.int .i64 k3), .v (.int .i64 m3), .v (.string s3), .sl 3 (bF l3), .sl 5 (ba a3)]] = ba (acc ++ [.mk k3 m3 s3 l3 a3]) := (er acc [.mk k3 m3 s3 l3 a3]).symm
   refine gc 4 ?_;refine o1 (bV bE bK ?_ (he := by exact (rfl)));refine go 1 ?_;refine oc (gR fA [.tmp 14] bM ?_);refine oc (nU fA ?_);refine ko 3 [4, 2, 1] 3 ?_;refine o1 (bV bE bK ?_ (he := by exact (rfl)));refine go 4 ?_
   rw [hlast]
   refine bk (⟨k2, m2, s2, l2, a2⟩, acc ++ [.mk k3 m3 s3 l3 a3]) rfl ?_ [0, 1, 2] mz
   exact ⟨⟨hok2, by rw [hinv.2.1, wj]; simp, by have := hinv.2.2; simp only [ae.size, ai, List.length_append, List.length_cons, List.length_nil] at this ⊢; omega⟩, by simp only [ae.size, ai]; omega⟩
  refine gc 6 ?_
  have hal := bf acc
  have hal2 := hinv.2.2
  have hsp := hinv.2.1
  refine gc 9 ?_;refine o1 (nT ?_);refine ko 4 [6, 5, 4, 2, 1] 0 ?_;refine bq 39 5 rfl ?_;refine lp (ι := Nat) (fun j => [(6, int ((ba acc).length - 1 - j)), (5, .own 3 5 (ba (acc.reverse.take j)))]) (fun j => [.cells [.d (.v (.int .i64 k1)), .d (.v (.int .i64 m1)), .d (.v (.string s1)), .d (.sl 3 (bF l1)), .d (.sl 5 (ba a1))] 39, .cells [.d (.v (.int .i64 0)), .d (.v (.int .i64 0)), .d (.v (.string .empty)), .d (.v (.slice none 0 0)), .d (.v (.slice none 0 0))] 39, .row 39 5, .row 39 5]) [4, 2, 1] (fun j => j ≤ acc.length) (fun j => acc.length - j) (0) ([0, 1, 2, 3]) rfl ?I4 ?M4 ?H4
  case I4 =>
   exact Nat.zero_le _
  case M4 =>
   refine mo ?_ (eh rfl (by exact Fit.of_eq (by rw [show ((0 : Nat) : Int) = 0 from rfl, Int.sub_zero]; rfl)) (eh rfl (by (rw [List.take_zero]; exact Fit.nil rfl)) (aH (aH (aH dF)))))
   repeat (first | exact cW | refine bh ?_ | refine cu ?_ | refine p6 ?_)
  case H4 =>
   rintro j hinv
   try dsimp only at hinv
   refine kc 0 [6, 5, 4, 2, 1] 7 ?_;refine cJ (fun h7 => ?_) (fun h7 => ?_)
   ·refine kc 6 [5, 2, 1] 0 ?_
    rw [List.take_of_length_le (by rw [List.length_reverse]; omega)]
    refine gc 8 ?_;refine ed (.cb [(ae.mk k1 m1 s1 l1 a1).d, .sl 5 (ba acc.reverse)]) ?_
    rw [hsp, yG h2, List.nil_append]
   refine gc 4 ?_
   obtain ⟨k2, m2, s2, l2, a2, hget⟩ := bQ (show acc.length - 1 - j < acc.length by omega)
   have hix : (ba acc)[(((ba acc).length : Int) - 1 - j).toNat]? = some [.v (.int .i64 k2), .v (.int .i64 m2), .v (.string s2), .sl 3 (bF l2), .sl 5 (ba a2)] := by rw [show (((ba acc).length : Int) - 1 - j).toNat = acc.length - 1 - j by omega, lz hget]; rfl
   have hnx : ba (acc.reverse.take j) ++ [[.v (.int .i64 k2), .v (.int .i64 m2), .v (.string s2), .sl 3 (bF l2), .sl 5 (ba a2)]] = ba (acc.reverse.take (j + 1)) := ET hget (by omega)
   have htl := bf (acc.reverse.take j)
   have htk := List.length_take (i := j) (l := acc.reverse)
   have hrl : acc.reverse.length = acc.length := List.length_reverse
   refine gc 4 ?_;refine o1 (wU bE bK ?_ (he := by exact (hix)));refine go 1 ?_;refine oc (gR fA [.tmp 32] bM ?_);refine oc (nU fA ?_);refine ko 4 [5, 6, 4, 2, 1] 2 ?_;refine o1 (nT ?_);refine go 2 ?_
   rw [hnx]
   refine bk (j + 1) rfl ?_ ([0, 1, 2, 3]) ?_
   ·exact ⟨by omega, by omega⟩
   ·refine mo ?_ (eh rfl (by exact Fit.of_eq (by rw [show ((j + 1 : Nat) : Int) = (j : Int) + 1 by omega, show ((ba acc).length : Int) - 1 - ((j : Int) + 1) = (ba acc).length - 1 - j - 1 by omega]; rfl)) (aH (aH (aH (aH dF)))))
    repeat (first | exact cW | refine bh ?_ | refine cu ?_)
theorem gv {f a : ae} {bs : List ae} {i : Nat} (h : bs[i]? = some a) : bN f (bs.take (i + 1)) = .mk 3 0 .empty [] [bN f (bs.take i), a] := by
 rw [List.take_add_one, h, bN, List.foldl_append]; rfl
theorem n9 (k m : Int) (s : ByteArray) (ls : List aJ) (args : List ae) (bs : List ae) (hb : bs.length ≤ 1099511627776) :
 cD Tryz.prog gl 85 [(ae.mk k m s ls args).d, .sl 5 (ba bs)] (· = (bN (.mk k m s ls args) bs).d) := by
 have hal := bf bs
 refine bD Tryz.func85 Tryz.ntmps85 ?_;refine kc 13 [5, 4, 2, 1] 0 ?_;refine lp (ι := Nat × (Int × Int × ByteArray × List aJ × List ae)) (fun ⟨i, ⟨k1, m1, s1, l1, a1⟩⟩ => [(5, int i)]) (fun ⟨i, ⟨k1, m1, s1, l1, a1⟩⟩ => [.cells [.d (.v (.int .i64 k1)), .d (.v (.int .i64 m1)), .d (.v (.string s1)), .d (.sl 3 (bF l1)), .d (.sl 5 (ba a1))] 39, .cells [.d (.v (.int .i64 0)), .d (.v (.int .i64 0)), .d (.v (.string .empty)), .d (.v (.slice none 0 0)), .d (.v (.slice none 0 0))] 39]) [4, 2, 1] (fun ⟨i, ⟨k1, m1, s1, l1, a1⟩⟩ => i ≤ bs.length ∧ bN (.mk k m s ls args) (bs.take i) = .mk k1 m1 s1 l1 a1) (fun ⟨i, ⟨k1, m1, s1, l1, a1⟩⟩ => bs.length - i) ((0, ⟨k, m, s, ls, args⟩)) ([0, 1]) rfl ?I5 ?M5 ?H5
 case I5 =>
  exact ⟨Nat.zero_le _, rfl⟩
 case M5 =>
  exact mz
 case H5 =>
  rintro ⟨i, ⟨k1, m1, s1, l1, a1⟩⟩ hinv
  try dsimp only at hinv
  refine kc 0 [5, 4, 2, 1] 9 ?_;refine cJ (fun h2 => ?_) (fun h2 => ?_)
  ·refine kc 5 [4, 2] 7 ?_;refine ed ((ae.mk k1 m1 s1 l1 a1).d) ?_
   rw [← hinv.2, List.take_of_length_le (by omega)]
  refine kc 4 [5, 4, 2, 1] 0 ?_
  obtain ⟨k2, m2, s2, l2, a2, hget⟩ := bQ (show i < bs.length by omega)
  have hnw := cR (gl := gl) k1 m1 s1 l1 a1 k2 m2 s2 l2 a2
  refine gz [0, 1, 2] mixed ?_;refine A1 3 rfl (bV bE bK ⟨_, rfl, ?_⟩ (he := by exact (bY hget)));refine ga [4] ?_;refine A2 5 rfl (cv nK rfl rfl (hnw) (bd (bd .nil)) ?_);refine A2 6 rfl (eD bM ?_);refine aQ ?_;refine ke 2 [5, 4, 2, 1] 2 ?_;refine o1 (cw ?_);refine go 2 ?_;refine bk (i + 1, ⟨3, 0, .empty, [], [.mk k1 m1 s1 l1 a1, .mk k2 m2 s2 l2 a2]⟩) rfl ?_ [0, 1] mz
  exact ⟨⟨by omega, by rw [gv hget, hinv.2]⟩, show bs.length - (i + 1) < bs.length - i by omega⟩
end Go.Proofs.YtndbnldjidciiaaGreatDoor
namespace Go.Proofs.YtndbnldjidciiaaGreatDoor
open Go Go.Vd Go.RowKit
def jm : Nat → ae → List ae
 | 0, _ => []
 | n + 1, .mk _ _ _ _ [a, b] => a :: jm n b
 | _ + 1, _ => []
theorem jJ {k m : Int} {s : ByteArray} {ls : List aJ} {args : List ae} (h : 0 < bu (.mk k m s ls args)) : k = 5 ∧ ∃ a b, args = [a, b] ∧ bu (.mk k m s ls args) = bu b + 1 := by
 match args with
 | [a, b] =>
  rw [bu] at h
  split at h
  ·rename_i hk
   exact ⟨hk, a, b, rfl, by rw [bu, if_pos hk]⟩
  ·omega
 | [] => simp [bu] at h
 | [a] => simp [bu] at h
 | a :: b :: c :: r => simp [bu] at h
theorem gK : ∀ (n : Nat) (t : ae), n < bu t → ∃ m s ls a b, eU n t = .mk 5 m s ls [a, b] ∧ eU (n + 1) t = b ∧ jm (n + 1) t = jm n t ++ [a] ∧ bu t = n + 1 + bu b := by
 intro n
 induction n with
 | zero =>
  intro t h
  obtain ⟨k, m, s, ls, args, rfl⟩ := ae.case t
  obtain ⟨rfl, a, b, rfl, h2⟩ := jJ h
  exact ⟨m, s, ls, a, b, rfl, rfl, rfl, by omega⟩
 | succ n ih =>
  intro t h
  obtain ⟨k, m, s, ls, args, rfl⟩ := ae.case t
  obtain ⟨rfl, a, b, rfl, h2⟩ := jJ (Nat.lt_of_le_of_lt (Nat.zero_le _) h)
  obtain ⟨m1, s1, l1, a1, b1, h3, h4, h5, h6⟩ := ih b (by omega)
  exact ⟨m1, s1, l1, a1, b1, h3, h4, by rw [jm, h5]; rfl, by omega⟩
theorem dE : ∀ (n : Nat) (t : ae), (eU n t).size + ai (jm n t) ≤ t.size := by
 intro n
 induction n with
 | zero => intro t; simp [eU, jm, ai]
 | succ n ih =>
  intro t
  match t with
  | .mk k m s ls [a, b] =>
   have := ih b
   simp only [eU, jm, ae.size, ai]; omega
  | .mk k m s ls [] => simp [eU, jm, ai]
  | .mk k m s ls [a] => simp [eU, jm, ai]
  | .mk k m s ls (a :: b :: c :: r) => simp [eU, jm, ai]
theorem dT : ∀ (n : Nat) (t : ae), n ≤ bu t → (jm n t).length = n := by
 intro n
 induction n with
 | zero => intro t h; rfl
 | succ n ih =>
  intro t h
  obtain ⟨m, s, ls, a, b, h1, h2, h3, h4⟩ := gK n t (by omega)
  rw [h3, List.length_append, ih t (by omega)]; rfl
variable {sg : Sg} {ps : List ByteArray}
theorem Wt.vH : ∀ (n : Nat) {t : ae} {c : Int}, n ≤ bu t → Wt sg ps t c → Wt sg ps (eU n t) (c + n) ∧ ∀ (i : Nat) x, (jm n t)[i]? = some x → Wt sg ps x (c + i) := by
 intro n
 induction n with
 | zero => intro t c h hw; exact ⟨by simpa [eU] using hw, fun i x hx => by simp [jm] at hx⟩
 | succ n ih =>
  intro t c h hw
  obtain ⟨m, s, ls, a, b, h1, h2, h3, h4⟩ := gK n t (by omega)
  obtain ⟨hA, hB⟩ := ih (by omega) hw
  rw [h1] at hA
  obtain ⟨a', b', hab, _, _, _, ha, hb⟩ := hA.two (.inr (.inr rfl))
  cases hab
  rw [if_neg (by decide)] at hb
  rw [h2, h3]
  refine ⟨by rw [show c + ((n + 1 : Nat) : Int) = c + n + 1 by omega]; exact hb, fun i x hx => ?_⟩
  rw [List.getElem?_append] at hx
  split at hx
  ·exact hB i x hx
  ·rename_i hi
   have hl := dT n t (by omega)
   have : i = n := by
    have := (List.getElem?_eq_some_iff.1 hx).1
    simp at this; omega
   subst this
   rw [hl, Nat.sub_self] at hx
   simp at hx; subst hx
   exact ha
theorem Wt.xs {n : Nat} {t : ae} {c : Int} (h : n ≤ bu t) (hw : Wt sg ps t c) : Wt sg ps (eU n t) (c + n) := (hw.vH n h).1
def gS (given : List ae) : Nat → ae → ae
 | 0, t => t
 | i + 1, t => gS given i (dK t (fT (given.getD i aI) i 0))
def fL : Nat → ae → ae
 | 0, b => b
 | i + 1, b => fL i (.mk 3 0 .empty [] [b, .mk 0 i .empty [] []])
def j7 (xs : List ae) (h : ae) : ae := xs.foldr (fun x h => .mk 4 0 .empty [] [x, h]) h
def Fp (rec : ae) (firsts : List ae) (p : Nat) (t1 : ae) (a : ae) : ae :=
 j7 (jm (bu t1) t1) (.mk 3 0 .empty [] [bN (bN (fT rec (bu t1) 0) (firsts.map fun x => fT x (bu t1) 0)) ((bt (eU (bu t1) t1)).2.drop p), fL (bu t1) (fT a (bu t1) 0)])
def zG (rec : ae) (firsts : List ae) (p : Nat) (t : ae) (given : List ae) (a : ae) : ae := Fp rec firsts p (gS given given.length t) a
theorem DD (xs : List ae) (h : ae) : (j7 xs h).size = ai xs + xs.length + h.size := by
 unfold j7
 induction xs with
 | nil => simp [ai]
 | cons x r ih => rw [List.foldr_cons]; simp only [ae.size, aS, ai, List.length_cons, ih]; omega
theorem v8 : ∀ (n : Nat) (b : ae), (fL n b).size = b.size + 2 * n
 | 0, b => rfl
 | n + 1, b => by rw [fL, v8 n]; simp only [ae.size, aS, ai]; omega
theorem nZ (n : Int) : ∀ l : List ae, ai (l.map fun x => fT x n 0) = ai l
 | [] => rfl
 | a :: r => by simp only [List.map_cons, ai, iu, nZ n r]
theorem nh (l : List ae) (p : Nat) : ai (l.drop p) ≤ ai l := by
 induction l generalizing p with
 | nil => simp [ai]
 | cons a r ih =>
  cases p with
  | zero => simp
  | succ p => have := ih p; simp only [List.drop_succ_cons, ai]; omega
theorem Fo (rec : ae) (firsts : List ae) (p : Nat) (t1 a : ae) : (Fp rec firsts p t1 a).size ≤ 8 * t1.size + rec.size + 2 * ai firsts + a.size + 8 := by
 unfold Fp
 have h1 := dE (bu t1) t1
 have h2 := dT (bu t1) t1 (Nat.le_refl _)
 have h3 := dX _ t1 (Nat.le_refl _)
 have h4 := eV _ (eU (bu t1) t1) (Nat.le_refl _)
 have h5 := nh (bt (eU (bu t1) t1)).2 p
 have h6 := bA ((bt (eU (bu t1) t1)).2.drop p)
 have h7 := bA firsts
 rw [DD]
 simp only [ae.size, aS, ai, cI, v8, iu, nZ, List.length_map]
 omega
theorem Wt.gS {sg : Sg} {ps : List ByteArray} {c : Int} (hc : 0 ≤ c) {given : List ae} (hg : ∀ x ∈ given, Wt sg ps x c) : ∀ (n : Nat) {t : ae}, n ≤ given.length → Wt sg ps t (c + n) → Wt sg ps (gS given n t) c := by
 intro n
 induction n with
 | zero => intro t _ h; simpa [Go.Proofs.YtndbnldjidciiaaGreatDoor.gS] using h
 | succ n ih =>
  intro t hn h
  rw [Go.Proofs.YtndbnldjidciiaaGreatDoor.gS]
  refine ih (by omega) (Wt.sub (by omega) (by rw [show c + (n : Int) + 1 = c + ((n + 1 : Nat) : Int) by omega]; exact h) ?_)
  rw [List.getD_eq_getElem?_getD, List.getElem?_eq_getElem (by omega)]
  exact (hg _ (List.getElem_mem _)).IT (by omega)
theorem Wt.fL {sg : Sg} {ps : List ByteArray} {c : Int} (hc : 0 ≤ c) : ∀ (n : Nat) {t : ae} {m : Nat}, n ≤ m → Wt sg ps t (c + m) → Wt sg ps (fL n t) (c + m) := by
 intro n
 induction n with
 | zero => intro t m _ h; exact h
 | succ n ih =>
  intro t m hn h
  rw [Go.Proofs.YtndbnldjidciiaaGreatDoor.fL]
  exact ih (by omega) (Wt.app h (Wt.var (by omega) (by omega)))
theorem uM (xs : List ae) (x h : ae) : j7 (xs ++ [x]) h = j7 xs (.mk 4 0 .empty [] [x, h]) := by simp [j7]
theorem Wt.j7 {sg : Sg} {ps : List ByteArray} {c : Int} : ∀ (n : Nat) {xs : List ae} {h : ae}, xs.length = n → (∀ (i : Nat) x, xs[i]? = some x → Wt sg ps x (c + i)) → Wt sg ps h (c + n) → Wt sg ps (j7 xs h) c := by
 intro n
 induction n with
 | zero =>
  intro xs h hl _ hw
  rw [List.eq_nil_of_length_eq_zero hl]
  simpa [Go.Proofs.YtndbnldjidciiaaGreatDoor.j7] using hw
 | succ n ih =>
  intro xs h hl hx hw
  obtain ⟨ys, y, rfl⟩ : ∃ ys y, xs = ys ++ [y] := ⟨xs.dropLast, xs.getLast (by intro e; rw [e] at hl; cases hl), (List.dropLast_concat_getLast _).symm⟩
  have hly : ys.length = n := by simp at hl; exact hl
  rw [uM]
  refine ih hly (fun i x hi => hx i x (by rw [List.getElem?_append_left (List.getElem?_eq_some_iff.1 hi).1]; exact hi)) ?_;refine Wt.bind (.inl rfl) (hx n y (by rw [List.getElem?_append_right (by omega), hly, Nat.sub_self]; rfl)) ?_
  rw [show c + (n : Int) + 1 = c + ((n + 1 : Nat) : Int) by omega]; exact hw
theorem Wt.zG {sg : Sg} {ps : List ByteArray} {c : Int} (hc : 0 ≤ c) {rec t a : ae} {firsts given : List ae} {p : Nat} (hr : Wt sg ps rec c) (hf : ∀ x ∈ firsts, Wt sg ps x c) (hg : ∀ x ∈ given, Wt sg ps x c) (ha : Wt sg ps a c) (ht : Wt sg ps t (c + given.length)) : Wt sg ps (zG rec firsts p t given a) c := by
 have h1 := Wt.gS hc hg given.length (Nat.le_refl _) ht
 unfold Go.Proofs.YtndbnldjidciiaaGreatDoor.zG Fp
 generalize Go.Proofs.YtndbnldjidciiaaGreatDoor.gS given given.length t = t1 at h1 ⊢
 obtain ⟨hE, hX⟩ := h1.vH (bu t1) (Nat.le_refl _)
 obtain ⟨_, _, hS, _⟩ := Wt.spine _ (Nat.le_refl _) hE
 refine Wt.j7 (bu t1) (dT _ _ (Nat.le_refl _)) hX (Wt.app (Wt.apply (Wt.apply (hr.IT (by omega)) fun x hx => ?_) fun x hx => hS x (List.mem_of_mem_drop hx)) (Wt.fL hc _ (Nat.le_refl _) (ha.IT (by omega))))
 obtain ⟨y, hy, rfl⟩ := List.mem_map.1 hx
 exact (hf y hy).IT (by omega)
end Go.Proofs.YtndbnldjidciiaaGreatDoor
namespace Go.Proofs.YtndbnldjidciiaaGreatDoor
open Go Go.Vd Go.RowKit
def cQ (d : dp) : List ByteArray := d.nm :: (d.cs.map (·.1) ++ if d.k = 3 then [d.nm ++ tk] else [])
def cX (es : List cq) : List ByteArray := es.flatMap fun e => cQ e.d
theorem uy (es m : List cq) : cX (es ++ m) = cX es ++ cX m := by simp [cX]
theorem pW (e : cq) : cX [e] = cQ e.d := by simp [cX]
theorem jA {nm : ByteArray} : ∀ {l : List (ByteArray × ae)}, dL nm l = none ↔ nm ∉ l.map (·.1)
 | [] => by simp [dL]
 | a :: r => by
  rw [dL]
  split
  ·rename_i h; subst h; simp
  ·rename_i h
   rw [Option.map_eq_none_iff, jA (l := r)]
   simp only [List.map_cons, List.mem_cons, not_or]
   exact ⟨fun g => ⟨fun e => h e.symm, g⟩, fun g => g.2⟩
theorem jP {nm : ByteArray} : ∀ {es : List cq}, (∀ e ∈ es, e.d.k ≠ 0) → ((bB nm es).1 = 0 ↔ nm ∉ cX es)
 | [], _ => by simp [bB, cX]
 | e :: r, hk => by
  have ih := jP (nm := nm) (es := r) fun e he => hk e (List.mem_cons_of_mem _ he)
  have h0 := hk e List.mem_cons_self
  rw [show cX (e :: r) = cQ e.d ++ cX r by simp [cX], List.mem_append, not_or, bB]
  split
  ·rename_i h1
   refine ⟨fun h => absurd h h0, fun h => absurd ?_ h.1⟩
   subst h1; simp [cQ]
  ·rename_i h1
   split
   ·rename_i i h2
    refine ⟨fun h => absurd (show (4 : Int) = 0 from h) (by decide), fun h => ?_⟩
    have := jA (nm := nm) (l := e.d.cs)
    rw [h2] at this
    exact absurd (this.2 fun g => h.1 (List.mem_cons_of_mem _ (List.mem_append_left _ g))) (by simp)
   ·rename_i h2
    have h4 := jA.1 h2
    split
    ·rename_i h3
     refine ⟨fun h => absurd (show (5 : Int) = 0 from h) (by decide), fun h => absurd ?_ h.1⟩
     unfold cQ
     rw [if_pos h3.1]
     exact List.mem_cons_of_mem _ (List.mem_append_right _ (by simp [h3.2]))
    ·rename_i h3
     rw [ih]
     refine ⟨fun h => ⟨fun g => ?_, h⟩, fun h => h.2⟩
     unfold cQ at g
     rcases List.mem_cons.1 g with g | g
     ·exact h1 g.symm
     ·rcases List.mem_append.1 g with g | g
      ·exact h4 g
      ·split at g
       ·rename_i h5
        simp only [List.mem_singleton] at g
        exact h3 ⟨h5, g.symm⟩
       ·cases g
theorem nF {nm : ByteArray} {m : List cq} : ∀ {es : List cq}, (bB nm es).1 ≠ 0 → bB nm (es ++ m) = bB nm es
 | [], h => absurd rfl h
 | e :: r, h => by
  rw [List.cons_append, bB, bB]
  rw [bB] at h
  split
  ·rfl
  ·rename_i h1
   rw [if_neg h1] at h
   cases h2 : dL nm e.d.cs with
   | some i => rfl
   | none =>
    rw [h2] at h
    simp only at h ⊢
    split
    ·rfl
    ·rename_i h3
     rw [if_neg h3] at h
     exact nF h
theorem jR {nm : ByteArray} {m : List cq} : ∀ {es : List cq}, (∀ e ∈ es, e.d.k ≠ 0) → (bB nm es).1 = 0 → bB nm (es ++ m) = bB nm m
 | [], _, _ => rfl
 | e :: r, hk, h => by
  rw [List.cons_append, bB]
  rw [bB] at h
  split
  ·rename_i h1
   rw [if_pos h1] at h
   exact absurd h (hk e List.mem_cons_self)
  ·rename_i h1
   rw [if_neg h1] at h
   cases h2 : dL nm e.d.cs with
   | some i => rw [h2] at h; exact absurd (show (4 : Int) = 0 from h) (by decide)
   | none =>
    rw [h2] at h
    simp only at h ⊢
    split
    ·rename_i h3
     rw [if_pos h3] at h; exact absurd (show (5 : Int) = 0 from h) (by decide)
    ·rename_i h3
     rw [if_neg h3] at h
     exact jR (fun e he => hk e (List.mem_cons_of_mem _ he)) h
variable {nm : ByteArray} {es : List cq}
theorem xz {es' : List cq} (h : bB nm es = bB nm es') : eB es nm = eB es' nm := by
 unfold eB fZ; rw [h]
theorem yK {n : Nat} (h : eB es nm = some n) : (bB nm es).1 ≠ 0 := by
 intro h0
 unfold eB fZ at h
 simp only [h0] at h
 cases h
theorem pQ (es m : List cq) : v5 (eB es) (eB (es ++ m)) := fun s n h => by
 rw [xz (nF (yK h))]; exact h
theorem vx.mono {sg sg' : Sg} (hs : v5 sg sg') {e : cq} (h : vx sg e) : vx sg' e :=
 ⟨h.k, h.ps, h.nm, ⟨h.ty.1.mono hs (fun _ h => h) (Int.le_refl _), h.ty.2⟩, fun hk => ⟨(h.vl hk).1.mono hs (fun _ h => h) (Int.le_refl _), (h.vl hk).2⟩, h.cl, h.ar, fun c hc => ⟨(h.cs c hc).1.mono hs (fun _ h => h) (Int.le_refl _), (h.cs c hc).2⟩, h.rp, fun hk => ⟨(h.rt hk).1.mono hs (fun _ h => h) (Int.le_refl _), (h.rt hk).2⟩⟩
theorem cP.k0 (h : cP es) : ∀ e ∈ es, e.d.k ≠ 0 := fun e he hk => by rcases (h.vU e he).k with h | h | h <;> omega
variable {e : cq}
theorem IQ (h : e ∈ es) : e.d.nm ∈ cX es := by
 unfold cX
 exact List.mem_flatMap.2 ⟨e, h, by simp [cQ]⟩
theorem cP.app (h : cP es) (hl : es.length < 1000000) (hn : e.d.nm ∉ cX es) (he : vx (eB (es ++ [e])) e) : cP (es ++ [e]) := by
 refine ⟨by rw [List.length_append]; exact hl, ?_, fun x hx => ?_⟩
 ·rw [List.map_append, List.nodup_append]
  refine ⟨h.nd, by simp, fun a ha b hb hab => ?_⟩
  simp only [List.map_cons, List.map_nil, List.mem_singleton] at hb
  obtain ⟨y, hy, rfl⟩ := List.mem_map.1 ha
  subst hab
  exact hn (hb ▸ IQ hy)
 ·rcases List.mem_append.1 hx with hx | hx
  ·exact (h.vU x hx).mono (pQ _ _)
  ·simp only [List.mem_singleton] at hx; subst hx; exact he
theorem AL (hk : ∀ e ∈ es, e.d.k ≠ 0) (h : nm ∉ cX es) (m : List cq) : eB (es ++ m) nm = eB m nm :=
 xz (jR hk ((jP hk).2 h))
theorem HL (hk : e.d.k = 1 ∨ e.d.k = 2 ∨ e.d.k = 3) : eB [e] e.d.nm = some e.d.ps.length := by
 have h : bB e.d.nm [e] = (e.d.k, e, 0) := by rw [bB, if_pos rfl]
 unfold eB fZ
 simp only [h]
 rw [if_neg (by omega), if_neg (by omega), if_neg (by omega)]; rfl
theorem BP : ∀ {l : List (ByteArray × ae)}, nm ∈ l.map (·.1) → ∃ i, dL nm l = some i := by
 intro l h
 cases hc : dL nm l with
 | some i => exact ⟨i, rfl⟩
 | none => exact absurd h (jA.1 hc)
theorem GO {c : ByteArray × ae} (hc : c ∈ e.d.cs) (hn : c.1 ≠ e.d.nm) : eB [e] c.1 = some e.d.ps.length := by
 obtain ⟨i, hi⟩ := BP (List.mem_map_of_mem (f := (·.1)) hc)
 have h : bB c.1 [e] = (4, e, i) := by rw [bB, if_neg fun h => hn h.symm, hi]
 obtain ⟨c2, h2, h3⟩ := p5 hi
 unfold eB fZ
 simp only [h, h2]; rfl
def F9 (e : cq) : cq := ⟨.mk 1 e.d.nm e.d.ps e.d.ty aI 0 [], [], aI⟩
theorem cP.ax (h : cP es) (hl : es.length < 1000000) (hn : e.d.nm ∉ cX es) (hp : e.d.ps.length ≤ 6) (hz : e.d.nm.size ≤ 1000000) (ht : Wt (eB es) e.d.ps e.d.ty 0 ∧ e.d.ty.size ≤ 800001) : cP (es ++ [F9 e]) :=
 h.app hl hn ⟨.inl rfl, hp, hz, ⟨ht.1.mono (pQ _ _) (fun _ h => h) (Int.le_refl _), ht.2⟩, fun h => absurd (show (1 : Int) = 2 from h) (by decide), Nat.zero_le _, fun h => absurd (show (1 : Int) = 3 from h) (by decide), fun c hc => (by cases hc), Nat.zero_le _, fun h => absurd (show (1 : Int) = 3 from h) (by decide)⟩
def E2 (nm : ByteArray) (p : Int) (a : ae) : Prop := ic (ph nm) a 0 = true → ∃ m ls ar, (bt (eU (bu a) a)).1 = .mk 2 m nm ls ar ∧ p ≤ (bt (eU (bu a) a)).2.length
def AX (nm : ByteArray) (p : Int) (c : ae) : Prop := ∀ (i : Nat) a, p ≤ i → (jm (bu c) c)[i]? = some a → E2 nm p a
structure gY (es : List cq) : Prop where
 ok : cP es
 nd : (cX es).Nodup
 pos : ∀ e ∈ es, e.d.k = 3 → ∀ c ∈ e.d.cs, AX e.d.nm e.d.ar c.2
 nc : ∀ e ∈ es, e.d.k ≠ 3 → e.d.cs = []
 vz : ∀ e ∈ es, e.d.vl.size ≤ 800001
theorem gY.nil : gY [] := ⟨⟨by simp, by simp, fun e h => (by cases h)⟩, by simp [cX], fun e h => (by cases h), fun e h => (by cases h), fun e h => (by cases h)⟩
theorem gY.app {es : List cq} {e : cq} (h : gY es) (hl : es.length < 1000000) (hn : ∀ x ∈ cQ e.d, x ∉ cX es) (hd : (cQ e.d).Nodup) (he : vx (eB (es ++ [e])) e) (hp : e.d.k = 3 → ∀ c ∈ e.d.cs, AX e.d.nm e.d.ar c.2) (hc : e.d.k ≠ 3 → e.d.cs = []) (hv : e.d.vl.size ≤ 800001) : gY (es ++ [e]) := by
 refine ⟨h.ok.app hl (hn _ (by simp [cQ])) he, ?_, fun x hx => ?_, fun x hx => ?_, fun x hx => ?_⟩
 ·rw [uy, pW, List.nodup_append]
  exact ⟨h.nd, hd, fun a ha b hb hab => hn b hb (hab ▸ ha)⟩
 ·rcases List.mem_append.1 hx with hx | hx
  ·exact h.pos x hx
  ·simp only [List.mem_singleton] at hx; subst hx; exact hp
 ·rcases List.mem_append.1 hx with hx | hx
  ·exact h.nc x hx
  ·simp only [List.mem_singleton] at hx; subst hx; exact hc
 ·rcases List.mem_append.1 hx with hx | hx
  ·exact h.vz x hx
  ·simp only [List.mem_singleton] at hx; subst hx; exact hv
end Go.Proofs.YtndbnldjidciiaaGreatDoor
namespace Go.Proofs.YtndbnldjidciiaaGreatDoor
open Go Go.Vd Go.RowKit
def qJ (w : Int) (d : dp) (ps : List ByteArray) (ty : ae) (num : Int) : D := .cp (.v (.int .i64 w) :: .cp d.cells :: .sl 1 (strs ps) :: (ty.cells ++ [.v (.int .i64 num)]))
def oN (d : dp) : Nat → List (ByteArray × ae) → (ByteArray → Option D) → ByteArray → Option D
 | _, [], f => f
 | i, c :: r, f => oN d (i + 1) r (p9 f c.1 (qJ 3 d d.ps c.2 i))
def yh (f : ByteArray → Option D) (d : dp) : ByteArray → Option D := p9 f d.nm (qJ (d.k - 1) d d.ps d.ty 0)
def uh (f : ByteArray → Option D) (e : cq) : ByteArray → Option D :=
 if e.d.k = 3 then p9 (oN e.d 0 e.d.cs (yh f e.d)) (e.d.nm ++ tk) (qJ 4 e.d e.rp e.rt 0) else yh f e.d
def jb (es : List cq) : ByteArray → Option D := es.foldl uh fun _ => none
def nO (es : List cq) (nm : ByteArray) : Option D :=
 let f := bB nm es
 if f.1 = 0 then none else if f.1 = 4 then (f.2.1.d.cs[f.2.2]?).map fun c => qJ 3 f.2.1.d f.2.1.d.ps c.2 f.2.2 else if f.1 = 5 then some (qJ 4 f.2.1.d f.2.1.rp f.2.1.rt 0) else some (qJ (f.1 - 1) f.2.1.d f.2.1.d.ps f.2.1.d.ty 0)
theorem oT (f : ByteArray → Option D) (s : ByteArray) (d : D) : p9 f s d s = some d := if_pos rfl
variable {f : ByteArray → Option D}
theorem oU {s t : ByteArray} {d : D} (h : t ≠ s) : p9 f s d t = f t := if_neg h
theorem qM {d : dp} {nm : ByteArray} : ∀ {l : List (ByteArray × ae)} {i : Nat} {f : ByteArray → Option D}, nm ∉ l.map (·.1) → oN d i l f nm = f nm
 | [], i, f, _ => rfl
 | c :: r, i, f, h => by
  simp only [List.map_cons, List.mem_cons, not_or] at h
  rw [oN, qM h.2, oU h.1]
theorem CZ {d : dp} {nm : ByteArray} : ∀ {l : List (ByteArray × ae)} {i j : Nat} {f : ByteArray → Option D}, (l.map (·.1)).Nodup → dL nm l = some j → ∃ c, l[j]? = some c ∧ oN d i l f nm = some (qJ 3 d d.ps c.2 ((i + j : Nat) : Int))
 | [], i, j, f, _, h => by cases h
 | c :: r, i, j, f, hn, h => by
  simp only [List.map_cons, List.nodup_cons] at hn
  rw [dL] at h
  split at h
  ·rename_i e
   cases h
   subst e
   exact ⟨c, rfl, by rw [oN, qM hn.1, oT, Nat.add_zero]⟩
  ·obtain ⟨j', h1, rfl⟩ := Option.map_eq_some_iff.1 h
   obtain ⟨c', h2, h3⟩ := CZ (d := d) (i := i + 1) (f := p9 f c.1 (qJ 3 d d.ps c.2 i)) hn.2 h1
   exact ⟨c', by simpa using h2, by rw [oN, h3, show i + 1 + j' = i + (j' + 1) by omega]⟩
variable {e : cq} {nm : ByteArray}
theorem EZ (h : nm ∉ cQ e.d) : uh f e nm = f nm := by
 unfold cQ at h
 simp only [List.mem_cons, List.mem_append, not_or] at h
 unfold uh
 split
 ·rename_i hk
  rw [if_pos hk] at h
  rw [oU (by simpa using h.2.2), qM h.2.1]
  exact oU h.1
 ·exact oU h.1
variable {es : List cq}
theorem uG {es' : List cq} (h : bB nm es = bB nm es') : nO es nm = nO es' nm := by unfold nO; rw [h]
theorem GR (hk : e.d.k = 1 ∨ e.d.k = 2 ∨ e.d.k = 3) (hnc : e.d.k ≠ 3 → e.d.cs = []) (hnd : (cQ e.d).Nodup) (h : nm ∈ cQ e.d) : uh f e nm = nO [e] nm := by
 by_cases h1 : e.d.nm = nm
 ·have hF : bB nm [e] = (e.d.k, e, 0) := by rw [bB, if_pos h1]
  unfold nO
  simp only [hF]
  rw [if_neg (by omega), if_neg (by omega), if_neg (by omega)]
  subst h1
  unfold uh
  unfold cQ at hnd
  have h2 := List.nodup_cons.1 hnd
  split
  ·rename_i hk3
   rw [if_pos hk3] at h2
   simp only [List.mem_append, not_or] at h2
   rw [oU (by simpa using h2.1.2), qM h2.1.1]
   exact oT _ _ _
  ·exact oT _ _ _
 ·by_cases hk3 : e.d.k = 3
  ·unfold cQ at hnd h
   rw [if_pos hk3] at hnd h
   have h2 := List.nodup_cons.1 hnd
   have h3 := List.nodup_append.1 h2.2
   unfold uh
   rw [if_pos hk3]
   cases hc : dL nm e.d.cs with
   | some j =>
    have hF : bB nm [e] = (4, e, j) := by rw [bB, if_neg h1, hc]
    have hm : nm ∈ e.d.cs.map (·.1) := Classical.byContradiction fun g => by rw [jA.2 g] at hc; cases hc
    have hne : nm ≠ e.d.nm ++ tk := fun e' => h3.2.2 nm hm _ (by simp) e'
    obtain ⟨c, h5, h6⟩ := CZ (d := e.d) (i := 0) (f := yh f e.d) h3.1 hc
    unfold nO
    simp only [hF]
    rw [oU hne, h6, if_neg (by decide), if_pos trivial, h5, Nat.zero_add]; rfl
   | none =>
    have hm := jA.1 hc
    have hr : nm = e.d.nm ++ tk := by
     rcases List.mem_cons.1 h with h | h
     ·exact absurd h.symm h1
     ·rcases List.mem_append.1 h with h | h
      ·exact absurd h hm
      ·simpa using h
    have hF : bB nm [e] = (5, e, 0) := by rw [bB, if_neg h1, hc]; exact if_pos ⟨hk3, hr.symm⟩
    unfold nO
    simp only [hF]
    rw [if_neg (by decide), if_neg (by decide), if_pos trivial, hr, oT]
  ·exfalso
   unfold cQ at h
   rw [if_neg hk3, hnc hk3] at h
   simp at h
   exact h1 h.symm
theorem zq (es : List cq) (e : cq) : jb (es ++ [e]) = uh (jb es) e := by simp [jb]
theorem Dy (hk : ∀ e ∈ es, e.d.k = 1 ∨ e.d.k = 2 ∨ e.d.k = 3) (hnc : ∀ e ∈ es, e.d.k ≠ 3 → e.d.cs = []) (hnd : (cX es).Nodup) (nm : ByteArray) : jb es nm = nO es nm := by
 have key : ∀ (n : Nat) (es : List cq), es.length = n → (∀ e ∈ es, e.d.k = 1 ∨ e.d.k = 2 ∨ e.d.k = 3) → (∀ e ∈ es, e.d.k ≠ 3 → e.d.cs = []) → (cX es).Nodup → jb es nm = nO es nm := by
  intro n
  induction n with
  | zero => intro es hl _ _ _; rw [List.length_eq_zero_iff.1 hl]; rfl
  | succ n ih =>
   intro es hl hk hnc hnd
   obtain ⟨r, e, rfl⟩ : ∃ r e, es = r ++ [e] := by
    rcases List.eq_nil_or_concat es with h | ⟨r, e, h⟩
    ·subst h; simp at hl
    ·exact ⟨r, e, by simpa using h⟩
   rw [List.length_append] at hl
   rw [uy, pW] at hnd
   have h2 := List.nodup_append.1 hnd
   have hkr : ∀ x ∈ r, x.d.k = 1 ∨ x.d.k = 2 ∨ x.d.k = 3 := fun x hx => hk x (List.mem_append_left _ hx)
   have hk0 : ∀ x ∈ r, x.d.k ≠ 0 := fun x hx => by rcases hkr x hx with h | h | h <;> omega
   rw [zq]
   by_cases hm : nm ∈ cQ e.d
   ·have h3 : nm ∉ cX r := fun h => h2.2.2 nm h nm hm rfl
    rw [GR (hk e (by simp)) (hnc e (by simp)) h2.2.1 hm]
    exact (uG (jR hk0 ((jP hk0).2 h3))).symm
   ·rw [EZ hm, ih r (by simpa using hl) hkr (fun x hx => hnc x (List.mem_append_left _ hx)) h2.1]
    by_cases h0 : (bB nm r).1 = 0
    ·have hke : ∀ x ∈ [e], x.d.k ≠ 0 := fun x hx => by rcases hk x (List.mem_append_right _ hx) with h | h | h <;> omega
     have h4 : (bB nm [e]).1 = 0 := (jP hke).2 (by rw [pW]; exact hm)
     have h5 := jR (m := [e]) hk0 h0
     unfold nO
     simp only [h5, h0, h4, if_true]
    ·exact (uG (nF h0)).symm
 exact key _ es rfl hk hnc hnd
theorem gY.look (h : gY es) (nm : ByteArray) : jb es nm = nO es nm := Dy (fun e he => (h.ok.vU e he).k) h.nc h.nd nm
theorem DA (h : gY es) (nm : ByteArray) : (fZ nm es = none ∧ jb es nm = none) ∨ ∃ w d ps ty num, fZ nm es = some (ps, ty) ∧ jb es nm = some (qJ w d ps ty num) := by
 rw [h.look]
 unfold fZ nO
 simp only
 split
 ·exact .inl ⟨rfl, rfl⟩
 ·rename_i h0
  split
  ·rename_i h4
   obtain ⟨c, hc, _⟩ := nE (fun e he hk => by rcases (h.ok.vU e he).k with g | g | g <;> omega) h4
   rw [hc]
   exact .inr ⟨_, _, _, _, _, rfl, rfl⟩
  ·split
   ·exact .inr ⟨_, _, _, _, _, rfl, rfl⟩
   ·exact .inr ⟨_, _, _, _, _, rfl, rfl⟩
end Go.Proofs.YtndbnldjidciiaaGreatDoor
namespace Go.Proofs.YtndbnldjidciiaaGreatDoor
open Go Go.Vd Go.RowKit
attribute [local irreducible] bl br de aj bI cY
variable {g gl : Nat → List D}
theorem zF (es : List cq) (w : Bool) {sg : Sg} {ps : List ByteArray} {c : Int} (hc : 0 ≤ c ∧ c ≤ 1099511627776) (kr nr : Int) (sr' : ByteArray) (lr : List aJ) (ar : List ae) (firsts : List ae) (p : Nat) (kt nt : Int) (st : ByteArray) (lt : List aJ) (at' : List ae) (given : List ae) (ka na : Int) (sa : ByteArray) (la : List aJ) (aa : List ae)
 (hr : Wt sg ps (.mk kr nr sr' lr ar) c) (hf : ∀ x ∈ firsts, Wt sg ps x c) (hg : ∀ x ∈ given, Wt sg ps x c) (ha : Wt sg ps (.mk ka na sa la aa) c) (ht : Wt sg ps (.mk kt nt st lt at') (c + given.length))
 (zr : (ae.mk kr nr sr' lr ar).size ≤ 1099511627776) (zf : ai firsts ≤ 1099511627776) (zg : given.length ≤ 1000000) (zgs : ∀ x ∈ given, x.size ≤ 1099511627776) (za : (ae.mk ka na sa la aa).size ≤ 1099511627776) (zt : (ae.mk kt nt st lt at').size ≤ 1000000) (zp : p ≤ 1000000) :
 ey Tryz.prog gl 124 [aP es w, aN] [.bZ 0 0, .d (ae.mk kr nr sr' lr ar).d, .d (.sl 5 (ba firsts)), .d (.v (.int .i64 p)), .d (ae.mk kt nt st lt at').d, .d (.sl 5 (ba given)), .d (ae.mk ka na sa la aa).d] fun out ob' => ∃ (u : ae) (w' : Bool), out = .ret (.d u.d) ∧ ob' = [aP es w', aN] ∧ u.size ≤ 8796093022208 ∧
  (w' = false → w = false ∧ u = zG (.mk kr nr sr' lr ar) firsts p (.mk kt nt st lt at') given (.mk ka na sa la aa)) := by
 have hfl := bf firsts
 have hgl := bf given
 have hfs := bA firsts
 refine bS Tryz.func124 Tryz.ntmps124 2 ?_;refine gc 13 ?_;refine o1 (nT ?_);refine ko 4 [15, 14, 13, 11, 8, 0, 2, 3, 5] 0 ?_;refine lp (ι := Nat × Bool × Int × Int × ByteArray × List aJ × List ae) (fun ⟨i, w1, k1, m1, s1, l1, a1⟩ => [(15, int ((i : Int) - 1))]) (fun ⟨i, w1, k1, m1, s1, l1, a1⟩ => [aP es w1, aN, tO kr nr sr' lr ar, tO k1 m1 s1 l1 a1, tO ka na sa la aa, zO]) [14, 13, 11, 8, 0, 2, 3, 5] (fun ⟨i, w1, k1, m1, s1, l1, a1⟩ => i ≤ given.length ∧ (w1 = false → w = false ∧ gS given given.length (.mk kt nt st lt at') = gS given i (.mk k1 m1 s1 l1 a1)) ∧ Wt sg ps (.mk k1 m1 s1 l1 a1) (c + i) ∧ (ae.mk k1 m1 s1 l1 a1).size ≤ 1000000) (fun ⟨i, w1, k1, m1, s1, l1, a1⟩ => i) ((given.length, w, kt, nt, st, lt, at')) ([0, 1, 2, 3, 4, 5]) rfl ?I1 ?M1 ?H1
 case I1 =>
  exact ⟨Nat.le_refl _, fun h => ⟨h, rfl⟩, ht, zt⟩
 case M1 =>
  refine mo ?_ (eh rfl (by exact Fit.of_eq (by simp only [int, hgl]; rfl)) (aH (aH (aH (aH (aH (aH (aH (aH dF)))))))))
  repeat (first | exact cW | refine bh ?_ | refine cu ?_)
 case H1 =>
  rintro ⟨i, w1, k1, m1, s1, l1, a1⟩ hinv
  try dsimp only at hinv
  refine kc 0 [15, 14, 13, 11, 8, 0, 2, 3, 5] 7 ?_;refine cj (fun h2 => ?_) (fun h2 => ?_)
  ·refine gc 4 ?_
   have hig : i - 1 < given.length := by omega
   obtain ⟨k2, m2, s2, l2, a2, hget⟩ := bQ hig
   have hgi : (ae.mk k2 m2 s2 l2 a2) = given.getD (i - 1) aI := (by rw [List.getD_eq_getElem?_getD, hget]; rfl)
   have hgm := hg _ (List.mem_of_getElem? hget)
   have hgz := zgs _ (List.mem_of_getElem? hget)
   have hidx : (ba given)[((i : Int) - 1).toNat]? = some [.v (.int .i64 k2), .v (.int .i64 m2), .v (.string s2), .sl 3 (bF l2), .sl 5 (ba a2)] := (by rw [show ((i : Int) - 1).toNat = i - 1 by omega, lz hget]; rfl)
   have hlf := gi (gl := gl) (n0 := (i : Int) - 1) (B := 4398046511104) (by omega) (by omega) _ k2 m2 s2 l2 a2 0 (Nat.le_refl _) (hgm.sh (by omega)) (Int.le_refl _) (by omega)
   have hlw := hgm.IT (m := (i : Int) - 1) (fr := 0) (by omega)
   have hlz := iu (.mk k2 m2 s2 l2 a2) ((i : Int) - 1) 0
   rw [← fk] at hlf
   obtain ⟨k4, m4, s4, l4, a4, hY⟩ := ae.case (fT (.mk k2 m2 s2 l2 a2) ((i : Int) - 1) 0)
   rw [hY] at hlf hlw hlz
   have hes := mH (gl := gl) es w1 (B := 4398046511104) (B' := 4398046511104) (by omega) (by omega) k1 m1 s1 l1 a1 k4 m4 s4 l4 a4 (by have := hinv.2.2.2; omega) (by omega) (hinv.2.2.1.sh (by have := hinv.2.2.2; omega)) (hlw.sh (by omega))
   refine gz [0, 1, 2, 3] mixed ?_;refine A1 4 rfl (bV bE bK ⟨_, rfl, ?_⟩ (he := by exact (hidx)));refine ga [5, 6] ?_;refine A2 7 rfl (cv Am rfl rfl (hlf) (bd (an (an .nil))) ?_);refine A2 8 rfl (ay BQ rfl rfl rfl rfl (hes) [0, 1] (bh (cu .nil)) rfl rfl rfl rfl (an (bd (an .nil))) (fun s ob' hq => ?_) (fun s ob' hq => ?_))
   rotate_left
   ·obtain ⟨_, _, hq1, _⟩ := hq; cases hq1
   obtain ⟨⟨k3, m3, s3, l3, a3⟩, w2, hq1, rfl, hw2⟩ := hq; cases hq1
   have hsz3 : (ae.mk k3 m3 s3 l3 a3).size ≤ 1000000 := (by rcases hw2 with ⟨_, _, _, e⟩ | ⟨_, e⟩; omega; rw [e]; decide)
   have hwt : Wt sg ps (.mk k3 m3 s3 l3 a3) (c + ((i - 1 : Nat) : Int)) := (by
    rcases hw2 with ⟨_, _, e, _⟩ | ⟨_, e⟩
    ·rw [e]
     refine Wt.sub (by omega) ?_ ?_
     ·have := hinv.2.2.1; rwa [show c + ((i - 1 : Nat) : Int) + 1 = c + (i : Int) by omega]
     ·rw [show c + ((i - 1 : Nat) : Int) = c + ((i : Int) - 1) by omega]; exact hlw
    ·rw [e]; exact tJ)
   refine ⟨_, _, _, _, _, rfl, rfl, rfl, rfl, rfl, ?_⟩;refine A2 9 rfl (eD bM ?_);refine aQ ?_;refine ke 2 [15, 14, 13, 11, 8, 0, 2, 3, 5] 2 ?_;refine o1 (nT ?_);refine go 2 ?_;refine bk ((i - 1, w2, k3, m3, s3, l3, a3)) rfl ?_ ([0, 1, 2, 3, 4, 5]) ?_
   ·obtain ⟨j, rfl⟩ : ∃ j, i = j + 1 := ⟨i - 1, by omega⟩
    refine ⟨⟨by omega, fun h => ?_, ?_, ?_⟩, show j + 1 - 1 < j + 1 by omega⟩
    ·rcases hw2 with ⟨e1, e2, e3, e4⟩ | ⟨e1, _⟩
     ·obtain ⟨h5, h6⟩ := hinv.2.1 e2
      refine ⟨h5, ?_⟩
      rw [h6, gS, show given.getD j aI = .mk k2 m2 s2 l2 a2 from hgi.symm, show fT (.mk k2 m2 s2 l2 a2) (j : Int) 0 = .mk k4 m4 s4 l4 a4 from (by rw [← hY]; congr 1; omega), ← e3]; rfl
     ·rw [e1] at h; cases h
    ·exact hwt
    ·exact hsz3
   ·refine mo ?_ (eh rfl (by exact Fit.of_eq (by show SV.d (D.v (Value.int .i64 ((i : Int) - 1 - 1))) = SV.d (D.v (Value.int .i64 (((i - 1 : Nat) : Int) - 1))); rw [show ((i - 1 : Nat) : Int) = (i : Int) - 1 by omega])) (aH (aH (aH (aH (aH (aH (aH (aH dF)))))))))
    repeat (first | exact cW | refine bh ?_ | refine cu ?_)
  refine kc 6 [14, 13, 11, 8, 0, 2, 3] 0 ?_; obtain rfl : i = 0 := (by omega)
  have hW : Wt sg ps (.mk k1 m1 s1 l1 a1) c := (by have := hinv.2.2.1; rwa [Int.natCast_zero, Int.add_zero] at this)
  have hz1 := hinv.2.2.2
  have hI := hinv.2.1
  rw [gS] at hI
  have hpz := dX _ (.mk k1 m1 s1 l1 a1) (Nat.le_refl _)
  have hps := gJ (gl := gl) (B := 4398046511104) k1 m1 s1 l1 a1 (hW.sh (by omega)) (by omega)
  have hhz := Fo (.mk kr nr sr' lr ar) firsts p (.mk k1 m1 s1 l1 a1) (.mk ka na sa la aa)
  have hxl := dT _ (.mk k1 m1 s1 l1 a1) (Nat.le_refl _)
  have hez := dE (bu (.mk k1 m1 s1 l1 a1)) (.mk k1 m1 s1 l1 a1)
  have hEW := hW.xs (Nat.le_refl _)
  have hstep := fun j => gK j (.mk k1 m1 s1 l1 a1)
  have hHB : Fp (.mk kr nr sr' lr ar) firsts p (.mk k1 m1 s1 l1 a1) (.mk ka na sa la aa) = j7 (jm (bu (.mk k1 m1 s1 l1 a1)) (.mk k1 m1 s1 l1 a1)) (.mk 3 0 .empty [] [bN (bN (fT (.mk kr nr sr' lr ar) (bu (.mk k1 m1 s1 l1 a1)) 0) (firsts.map fun x => fT x (bu (.mk k1 m1 s1 l1 a1)) 0)) ((bt (eU (bu (.mk k1 m1 s1 l1 a1)) (.mk k1 m1 s1 l1 a1))).2.drop p), fL (bu (.mk k1 m1 s1 l1 a1)) (fT (.mk ka na sa la aa) (bu (.mk k1 m1 s1 l1 a1)) 0)]) := rfl
  generalize hnn : bu (.mk k1 m1 s1 l1 a1) = n at hps hpz hxl hez hEW hstep hHB
  have hxz := bf (jm n (.mk k1 m1 s1 l1 a1))
  refine gc 2 ?_;refine oc (cv pC rfl rfl (hps) (bd .nil) ?_);refine ko 15 [18, 17, 16, 14, 13, 11, 8, 0, 2, 3] 0 ?_;refine bq 39 5 rfl ?_;refine lp (ι := Nat × Int × Int × ByteArray × List aJ × List ae) (fun ⟨j, k5, m5, s5, l5, a5⟩ => [(18, int j), (17, .own 6 5 (ba (jm j (.mk k1 m1 s1 l1 a1))))]) (fun ⟨j, k5, m5, s5, l5, a5⟩ => [aP es w1, aN, tO kr nr sr' lr ar, tO k5 m5 s5 l5 a5, tO ka na sa la aa, zO, tR]) [16, 14, 13, 11, 8, 0, 2, 3] (fun ⟨j, k5, m5, s5, l5, a5⟩ => j ≤ n ∧ eU j (.mk k1 m1 s1 l1 a1) = .mk k5 m5 s5 l5 a5) (fun ⟨j, k5, m5, s5, l5, a5⟩ => n - j) ((0, k1, m1, s1, l1, a1)) ([0, 1, 2, 3, 4, 5, 6]) rfl ?I2 ?M2 ?H2
  case I2 =>
   exact ⟨Nat.zero_le _, rfl⟩
  case M2 =>
   refine mo ?_ (aH (eh rfl (by exact Fit.nil rfl) (aH (aH (aH (aH (aH (aH (aH (aH dF))))))))))
   repeat (first | exact cW | refine bh ?_ | refine cu ?_ | refine p6 ?_)
  case H2 =>
   rintro ⟨j, k5, m5, s5, l5, a5⟩ hinv
   try dsimp only at hinv
   refine kc 0 [18, 17, 16, 14, 13, 11, 8, 0, 2, 3] 8 ?_;refine cj (fun h8 => ?_) (fun h8 => ?_)
   ·refine gc 5 ?_; obtain ⟨m6, s6, l6, ⟨k7, m7, s7, l7, a7⟩, ⟨kb, mb, sb, lb, ab⟩, he1, he2, he3, he4⟩ := hstep j (by omega)
    rw [hinv.2] at he1
    simp only [ae.mk.injEq] at he1
    obtain ⟨rfl, rfl, rfl, rfl, rfl⟩ := he1
    have hnx : ba (jm j (.mk k1 m1 s1 l1 a1)) ++ [[.v (.int .i64 k7), .v (.int .i64 m7), .v (.string s7), .sl 3 (bF l7), .sl 5 (ba a7)]] = ba (jm (j + 1) (.mk k1 m1 s1 l1 a1)) := (by rw [he3, er]; rfl)
    have hxj := dT j (.mk k1 m1 s1 l1 a1) (by omega)
    have hxj2 := bf (jm j (.mk k1 m1 s1 l1 a1))
    refine gc 4 ?_;refine o1 (bV bE bK ?_ (he := by exact (rfl)));refine go 1 ?_;refine oc (gR fA [.tmp 54] bM ?_);refine oc (nU fA ?_);refine ko 3 [17, 18, 16, 14, 13, 11, 8, 0, 2, 3] 3 ?_;refine o1 (bV bE bK ?_ (he := by exact (rfl)));refine ko 5 [17, 18, 16, 14, 13, 11, 8, 0, 2, 3] 2 ?_;refine o1 (cw ?_);refine go 2 ?_
    rw [hnx]
    refine bk (j + 1, kb, mb, sb, lb, ab) rfl ?_ [0, 1, 2, 3, 4, 5, 6] mz
    exact ⟨⟨by omega, he2⟩, show n - (j + 1) < n - j by omega⟩
   refine kc 6 [17, 16, 14, 13, 11, 8, 0, 2, 3] 0 ?_; obtain rfl : j = n := (by omega)
   have hE := hinv.2
   rw [hE] at hEW hez hHB
   obtain ⟨hok, _, _, _⟩ := Wt.spine _ (Nat.le_refl _) hEW
   have hspn := et (gl := gl) k5 m5 s5 l5 a5 hok (by omega)
   have hss := eV _ (.mk k5 m5 s5 l5 a5) (Nat.le_refl _)
   rcases hS : bt (.mk k5 m5 s5 l5 a5) with ⟨⟨kh, mh, sh, lh, ah⟩, as2⟩
   rw [hS] at hspn hss hHB
   simp only at hspn hss hHB
   have has := bA as2
   have hat2 := bf as2
   refine gc 2 ?_;refine oc (cv vX rfl rfl (hspn) (bd .nil) ?_);refine ko 9 [20, 17, 16, 14, 13, 11, 8, 0, 2, 3] 8 ?_;refine cj (fun h13 => ?_) (fun h13 => ?_)
   ·refine kc 0 [14, 11] 8 ?_;refine eo ((ae.mk k5 m5 s5 l5 a5).d) [0, 1] [aP es w1, aN] ?_
    ·exact ⟨.mk k5 m5 s5 l5 a5, w1, rfl, rfl, by omega, fun h => by rw [h] at h13; cases h13⟩
   refine kc 3 [20, 17, 16, 14, 13, 8, 2, 3] 0 ?_
   have hw1 : w1 = false := (by cases w1 with | false => rfl | true => first | cases h13 | exact absurd rfl h13)
   obtain ⟨hw0, hI⟩ := hI hw1
   have hl1 := gi (gl := gl) (n0 := (j : Int)) (B := 4398046511104) (by omega) (by omega) _ kr nr sr' lr ar 0 (Nat.le_refl _) (hr.sh (by omega)) (Int.le_refl _) (by omega)
   rw [← fk] at hl1
   obtain ⟨kx, mx, sx, lx, ax, hX⟩ := ae.case (fT (.mk kr nr sr' lr ar) (j : Int) 0)
   rw [hX] at hl1 hHB
   refine gc 3 ?_;refine oc (cv Am rfl rfl (hl1) (bd (an (an .nil))) ?_);refine ko 5 [21, 20, 17, 16, 14, 13, 2, 3] 6 ?_;refine lp (ι := Nat × Int × Int × ByteArray × List aJ × List ae) (fun ⟨q, k6, m6, s6, l6, a6⟩ => [(22, int q)]) (fun ⟨q, k6, m6, s6, l6, a6⟩ => [aP es w1, aN, tO kr nr sr' lr ar, tO k5 m5 s5 l5 a5, tO ka na sa la aa, zO, tR, tO kh mh sh lh ah, tO k6 m6 s6 l6 a6]) [21, 20, 17, 16, 14, 13, 2, 3] (fun ⟨q, k6, m6, s6, l6, a6⟩ => q ≤ firsts.length ∧ bN (.mk kx mx sx lx ax) ((firsts.map fun x => fT x (j : Int) 0).take q) = .mk k6 m6 s6 l6 a6) (fun ⟨q, k6, m6, s6, l6, a6⟩ => firsts.length - q) ((0, kx, mx, sx, lx, ax)) ([0, 1, 2, 3, 4, 5, 6, 7, 8]) rfl ?I3 ?M3 ?H3
   case I3 =>
    exact ⟨Nat.zero_le _, rfl⟩
   case M3 =>
    exact mz
   case H3 =>
    rintro ⟨q, k6, m6, s6, l6, a6⟩ hinv
    try dsimp only at hinv
    refine kc 0 [22, 21, 20, 17, 16, 14, 13, 2, 3] 9 ?_;refine cj (fun h17 => ?_) (fun h17 => ?_)
    ·refine kc 4 [22, 21, 20, 17, 16, 14, 13, 2, 3] 0 ?_; obtain ⟨k8, m8, s8, l8, a8, hget⟩ := bQ (show q < firsts.length by omega)
     have hgm0 := hf _ (List.mem_of_getElem? hget)
     have hgz := bC hget
     have hl8 := gi (gl := gl) (n0 := (j : Int)) (B := 4398046511104) (by omega) (by omega) _ k8 m8 s8 l8 a8 0 (Nat.le_refl _) (hgm0.sh (by omega)) (Int.le_refl _) (by omega)
     rw [← fk] at hl8
     obtain ⟨k9, m9, s9, l9, a9, hY⟩ := ae.case (fT (.mk k8 m8 s8 l8 a8) (j : Int) 0)
     have hgm : (firsts.map fun x => fT x (j : Int) 0)[q]? = some (.mk k9 m9 s9 l9 a9) := (by rw [List.getElem?_map, hget, Option.map_some, hY])
     rw [hY] at hl8
     have hap := cR (gl := gl) k6 m6 s6 l6 a6 k9 m9 s9 l9 a9
     refine gz [0, 1, 2] mixed ?_;refine A1 3 rfl (bV bE bK ⟨_, rfl, ?_⟩ (he := by exact (bY hget)));refine ga [4, 5] ?_;refine A2 6 rfl (cv Am rfl rfl (hl8) (bd (an (an .nil))) ?_);refine A2 7 rfl (cv nK rfl rfl (hap) (bd (an .nil)) ?_);refine A2 8 rfl (eD bM ?_);refine aQ ?_;refine ke 2 [22, 21, 20, 17, 16, 14, 13, 2, 3] 2 ?_;refine o1 (cw ?_);refine go 2 ?_;refine bk (q + 1, 3, 0, .empty, [], [.mk k6 m6 s6 l6 a6, .mk k9 m9 s9 l9 a9]) rfl ?_ [0, 1, 2, 3, 4, 5, 6, 7, 8] mz
     exact ⟨⟨by omega, by rw [gv hgm, hinv.2]⟩, show firsts.length - (q + 1) < firsts.length - q by omega⟩
    refine kc 7 [21, 20, 17, 16, 14, 13, 3] 0 ?_; obtain rfl : q = firsts.length := (by omega)
    have hH := hinv.2
    rw [List.take_of_length_le (by rw [List.length_map]; exact Nat.le_refl _)] at hH
    rw [hH] at hHB
    have hdl : (as2.drop p).length = as2.length - p := List.length_drop
    refine kc 6 [23, 21, 20, 17, 16, 14, 13] 0 ?_;refine lp (ι := Nat × Int × Int × ByteArray × List aJ × List ae) (fun ⟨q, k7, m7, s7, l7, a7⟩ => [(23, int ((p + q : Nat) : Int))]) (fun ⟨q, k7, m7, s7, l7, a7⟩ => [aP es w1, aN, tO kr nr sr' lr ar, tO k5 m5 s5 l5 a5, tO ka na sa la aa, zO, tR, tO kh mh sh lh ah, tO k7 m7 s7 l7 a7]) [21, 20, 17, 16, 14, 13] (fun ⟨q, k7, m7, s7, l7, a7⟩ => q ≤ as2.length - p ∧ bN (.mk k6 m6 s6 l6 a6) ((as2.drop p).take q) = .mk k7 m7 s7 l7 a7) (fun ⟨q, k7, m7, s7, l7, a7⟩ => as2.length - p - q) ((0, k6, m6, s6, l6, a6)) ([0, 1, 2, 3, 4, 5, 6, 7, 8]) rfl ?I4 ?M4 ?H4
    case I4 =>
     exact ⟨Nat.zero_le _, rfl⟩
    case M4 =>
     refine mo ?_ (eh rfl (by exact Fit.of_eq (by rfl)) (aH (aH (aH (aH (aH (aH dF)))))))
     repeat (first | exact cW | refine bh ?_ | refine cu ?_)
    case H4 =>
     rintro ⟨q, k7, m7, s7, l7, a7⟩ hinv
     try dsimp only at hinv
     refine kc 0 [23, 21, 20, 17, 16, 14, 13] 9 ?_;refine cj (fun h21 => ?_) (fun h21 => ?_)
     ·refine kc 4 [23, 21, 20, 17, 16, 14, 13] 0 ?_; obtain ⟨k8, m8, s8, l8, a8, hget⟩ := bQ (show p + q < as2.length by omega)
      have hgm : (as2.drop p)[q]? = some (.mk k8 m8 s8 l8 a8) := (by rw [List.getElem?_drop]; exact hget)
      have hap := cR (gl := gl) k7 m7 s7 l7 a7 k8 m8 s8 l8 a8
      refine gz [0, 1, 2] mixed ?_;refine A1 3 rfl (bV bE bK ⟨_, rfl, ?_⟩ (he := by exact (bY hget)));refine ga [4] ?_;refine A2 5 rfl (cv nK rfl rfl (hap) (bd (bd .nil)) ?_);refine A2 6 rfl (eD bM ?_);refine aQ ?_;refine ke 2 [23, 21, 20, 17, 16, 14, 13] 2 ?_;refine o1 (cw ?_);refine go 2 ?_;refine bk ((q + 1, 3, 0, .empty, [], [.mk k7 m7 s7 l7 a7, .mk k8 m8 s8 l8 a8])) rfl ?_ ([0, 1, 2, 3, 4, 5, 6, 7, 8]) ?_
      ·exact ⟨⟨by omega, by rw [gv hgm, hinv.2]⟩, show as2.length - p - (q + 1) < as2.length - p - q by omega⟩
      ·refine mo ?_ (eh rfl (by exact Fit.of_eq (by first | rfl | (congr 3; omega))) (aH (aH (aH (aH (aH (aH dF)))))))
       repeat (first | exact cW | refine bh ?_ | refine cu ?_)
     refine kc 6 [21, 17, 16, 14, 13] 0 ?_
     have hG := hinv.2
     rw [List.take_of_length_le (by omega)] at hG
     rw [hG] at hHB
     have hla := gi (gl := gl) (n0 := (j : Int)) (B := 4398046511104) (by omega) (by omega) _ ka na sa la aa 0 (Nat.le_refl _) (ha.sh (by omega)) (Int.le_refl _) (by omega)
     rw [← fk] at hla
     obtain ⟨kV, mV, sV, lV, aV, hV⟩ := ae.case (fT (.mk ka na sa la aa) (j : Int) 0)
     rw [hV] at hla hHB
     refine gc 3 ?_;refine oc (cv Am rfl rfl (hla) (bd (an (an .nil))) ?_);refine ko 5 [24, 21, 17, 16, 14] 3 ?_;refine o1 (nT ?_);refine ko 4 [25, 24, 21, 17, 16, 14] 0 ?_;refine lp (ι := Nat × Int × Int × ByteArray × List aJ × List ae) (fun ⟨r, k8, m8, s8, l8, a8⟩ => [(25, int ((r : Int) - 1))]) (fun ⟨r, k8, m8, s8, l8, a8⟩ => [aP es w1, aN, tO kr nr sr' lr ar, tO k5 m5 s5 l5 a5, tO ka na sa la aa, zO, tR, tO kh mh sh lh ah, tO k7 m7 s7 l7 a7, tO k8 m8 s8 l8 a8]) [24, 21, 17, 16, 14] (fun ⟨r, k8, m8, s8, l8, a8⟩ => r ≤ j ∧ fL j (.mk kV mV sV lV aV) = fL r (.mk k8 m8 s8 l8 a8)) (fun ⟨r, k8, m8, s8, l8, a8⟩ => r) ((j, kV, mV, sV, lV, aV)) ([0, 1, 2, 3, 4, 5, 6, 7, 8, 9]) rfl ?I5 ?M5 ?H5
     case I5 =>
      exact ⟨Nat.le_refl _, rfl⟩
     case M5 =>
      exact mz
     case H5 =>
      rintro ⟨r, k8, m8, s8, l8, a8⟩ hinv
      try dsimp only at hinv
      refine kc 0 [25, 24, 21, 17, 16, 14] 7 ?_;refine cj (fun h26 => ?_) (fun h26 => ?_)
      ·refine gc 4 ?_;refine gz [0, 1] mixed ?_;refine A2 2 rfl (cv Hu rfl rfl (o4 ((r : Int) - 1)) (an .nil) ?_);refine A2 3 rfl (cv nK rfl rfl (cR k8 m8 s8 l8 a8 0 ((r : Int) - 1) .empty [] []) (bd (an .nil)) ?_);refine A2 4 rfl (eD bM ?_);refine aQ ?_;refine ke 2 [25, 24, 21, 17, 16, 14] 2 ?_;refine o1 (nT ?_);refine go 2 ?_;refine bk ((r - 1, 3, 0, .empty, [], [.mk k8 m8 s8 l8 a8, .mk 0 ((r : Int) - 1) .empty [] []])) rfl ?_ ([0, 1, 2, 3, 4, 5, 6, 7, 8, 9]) ?_
       ·obtain ⟨r', rfl⟩ : ∃ r', r = r' + 1 := ⟨r - 1, by omega⟩
        refine ⟨⟨by omega, ?_⟩, show r' + 1 - 1 < r' + 1 by omega⟩
        rw [hinv.2, fL, show (((r' + 1 : Nat) : Int) - 1) = (r' : Int) by omega]; rfl
       ·refine mo ?_ (eh rfl (by exact Fit.of_eq (by show SV.d (D.v (Value.int .i64 ((r : Int) - 1 - 1))) = SV.d (D.v (Value.int .i64 (((r - 1 : Nat) : Int) - 1))); rw [show ((r - 1 : Nat) : Int) = (r : Int) - 1 by omega])) (aH (aH (aH (aH (aH dF))))))
        repeat (first | exact cW | refine bh ?_ | refine cu ?_)
      refine gc 6 ?_; obtain rfl : r = 0 := (by omega)
      have hA := hinv.2
      rw [fL] at hA
      rw [hA] at hHB
      refine gc 3 ?_;refine oc (cv nK rfl rfl (cR k7 m7 s7 l7 a7 k8 m8 s8 l8 a8) (bd (bd .nil)) ?_);refine ko 4 [21, 17, 16, 14] 3 ?_;refine o1 (nT ?_);refine ko 4 [26, 21, 17, 14] 0 ?_;refine lp (ι := Nat × Int × Int × ByteArray × List aJ × List ae) (fun ⟨r, k9, m9, s9, l9, a9⟩ => [(26, int ((r : Int) - 1))]) (fun ⟨r, k9, m9, s9, l9, a9⟩ => [aP es w1, aN, tO kr nr sr' lr ar, tO k5 m5 s5 l5 a5, tO ka na sa la aa, zO, tR, tO kh mh sh lh ah, tO k9 m9 s9 l9 a9, tO k8 m8 s8 l8 a8]) [21, 17, 14] (fun ⟨r, k9, m9, s9, l9, a9⟩ => r ≤ j ∧ j7 (jm j (.mk k1 m1 s1 l1 a1)) (.mk 3 0 .empty [] [.mk k7 m7 s7 l7 a7, .mk k8 m8 s8 l8 a8]) = j7 ((jm j (.mk k1 m1 s1 l1 a1)).take r) (.mk k9 m9 s9 l9 a9)) (fun ⟨r, k9, m9, s9, l9, a9⟩ => r) ((j, 3, 0, .empty, [], [.mk k7 m7 s7 l7 a7, .mk k8 m8 s8 l8 a8])) ([0, 1, 2, 3, 4, 5, 6, 7, 8, 9]) rfl ?I6 ?M6 ?H6
      case I6 =>
       exact ⟨Nat.le_refl _, by rw [List.take_of_length_le (by omega)]⟩
      case M6 =>
       exact mz
      case H6 =>
       rintro ⟨r, k9, m9, s9, l9, a9⟩ hinv
       try dsimp only at hinv
       refine kc 0 [26, 21, 17, 14] 7 ?_;refine cJ (fun h31 => ?_) (fun h31 => ?_)
       ·refine kc 6 [21, 14] 0 ?_; obtain rfl : r = 0 := (by omega)
        have hfin := hinv.2
        rw [List.take_zero] at hfin
        rw [hfin] at hHB
        have hfin2 : j7 [] (.mk k9 m9 s9 l9 a9) = .mk k9 m9 s9 l9 a9 := rfl
        rw [hfin2] at hHB
        rw [hHB] at hhz
        refine gc 6 ?_;refine eo ((ae.mk k9 m9 s9 l9 a9).d) [0, 1] [aP es w1, aN] ?_
        ·exact ⟨.mk k9 m9 s9 l9 a9, w1, rfl, rfl, by omega, fun _ => ⟨hw0, by unfold zG; rw [hI, hHB]⟩⟩
       refine gc 4 ?_
       obtain ⟨kb, mb, sb, lb, ab, hget⟩ := bQ (show r - 1 < (jm j (.mk k1 m1 s1 l1 a1)).length by omega)
       have hidx : (ba (jm j (.mk k1 m1 s1 l1 a1)))[((r : Int) - 1).toNat]? = some [.v (.int .i64 kb), .v (.int .i64 mb), .v (.string sb), .sl 3 (bF lb), .sl 5 (ba ab)] := (by rw [show ((r : Int) - 1).toNat = r - 1 by omega, lz hget]; rfl)
       have hlm := DF (gl := gl) kb mb sb lb ab k9 m9 s9 l9 a9
       refine gz [0, 1] mixed ?_;refine A1 2 rfl (wU bE bK ⟨_, rfl, ?_⟩ (he := by exact (hidx)));refine ga [3, 4] ?_;refine A2 5 rfl (cv KA rfl rfl (hlm) (bd (bd .nil)) ?_);refine A2 6 rfl (eD bM ?_);refine aQ ?_;refine ke 2 [26, 21, 17, 14] 2 ?_;refine o1 (nT ?_);refine go 2 ?_;refine bk ((r - 1, 4, 0, .empty, [], [.mk kb mb sb lb ab, .mk k9 m9 s9 l9 a9])) rfl ?_ ([0, 1, 2, 3, 4, 5, 6, 7, 8, 9]) ?_
       ·obtain ⟨r', rfl⟩ : ∃ r', r = r' + 1 := ⟨r - 1, by omega⟩
        refine ⟨⟨by omega, ?_⟩, show r' + 1 - 1 < r' + 1 by omega⟩
        rw [hinv.2, List.take_add_one, show (jm j (.mk k1 m1 s1 l1 a1))[r']? = some (.mk kb mb sb lb ab) from hget]
        exact uM _ _ _
       ·refine mo ?_ (eh rfl (by exact Fit.of_eq (by show SV.d (D.v (Value.int .i64 ((r : Int) - 1 - 1))) = SV.d (D.v (Value.int .i64 (((r - 1 : Nat) : Int) - 1))); rw [show ((r - 1 : Nat) : Int) = (r : Int) - 1 by omega])) (aH (aH (aH dF))))
        repeat (first | exact cW | refine bh ?_ | refine cu ?_)
end Go.Proofs.YtndbnldjidciiaaGreatDoor
namespace Go.Proofs.YtndbnldjidciiaaGreatDoor
open Go Go.Vd Go.RowKit
def ae.kd : ae → Int | .mk k _ _ _ _ => k
inductive Ca where
 | ok (u : ae) (d : Nat)
 | dU
inductive KM where
 | step (u : ae) (d : Nat)
 | stuck (d : Nat)
 | dU
def HQ (e : cq) : Nat := e.d.ar.toNat + 1 + e.d.cs.length + (bu e.d.ty - e.d.ar.toNat)
def CF (nm : ByteArray) (h : ae) (firsts : List ae) (p : Nat) (pre X cs : List ae) : Nat → List ae
 | 0 => []
 | j + 1 => CF nm h firsts p pre X cs j ++ (if p ≤ j ∧ ic (ph nm) (X.getD j aI) 0 = true then [zG h firsts p (X.getD j aI) (pre ++ (cs.drop p).take (j - p)) (cs.getD j aI)] else [])
def uU (e : cq) (h : ae) (az cs : List ae) (i : Nat) (cty : ae) (us : List aJ) : ae :=
 bN (bN (bN (az.getD (e.d.ar.toNat + 1 + i) aI) (cs.drop e.d.ar.toNat))
  (CF e.d.nm h (az.take (e.d.ar.toNat + 1 + e.d.cs.length)) e.d.ar.toNat (az.take e.d.ar.toNat) (jm cs.length (jn e.d.ps us cty)) cs cs.length)) (az.drop (HQ e + 1))
def rI (es : List cq) (e : cq) (h : ae) (cs : List ae) (i : Nat) (cty : ae) (us : List aJ) : Prop :=
 ∃ s e2 nm, h = .mk 2 0 s us [] ∧ bB s es = (4, e2, i) ∧ e2.d.nm = e.d.nm ∧ e.d.cs[i]? = some (nm, cty) ∧ cs.length = bu cty
def RI (es : List cq) (most : Nat) (R : ae → Nat → Ca → Prop) (e : cq) (h : ae) (az : List ae) (d : Nat) (o : KM) : Prop :=
 (az.length ≤ HQ e ∧ o = .stuck d) ∨
 ∃ x, az[HQ e]? = some x ∧ ((R x d .dU ∧ o = .dU) ∨ ∃ mj d1, R x d (.ok mj d1) ∧
  (((∀ i cty us, ¬ rI es e (bt mj).1 (bt mj).2 i cty us) ∧ o = .stuck d1) ∨
   ∃ i cty us, rI es e (bt mj).1 (bt mj).2 i cty us ∧ ((most ≤ d1 ∧ o = .dU) ∨
    (d1 < most ∧ (jn e.d.ps us cty).size ≤ 20000 ∧ (uU e h az (bt mj).2 i cty us).size ≤ 20000 ∧ o = .step (uU e h az (bt mj).2 i cty us) (d1 + 1)))))
def Cp (most d : Nat) (R : ae → Nat → Ca → Prop) (u v : ae) (o : Ca) : Prop := (most ≤ d ∧ o = .dU) ∨ (d < most ∧ v.size ≤ 20000 ∧ R u (d + 1) o)
def EE (es : List cq) (h : ae) (az : List ae) : Prop :=
 ¬ (ae.kd h = 4 ∧ az ≠ []) ∧ ¬ ae.kd h = 6 ∧ ∀ s us, h = .mk 2 0 s us [] → ¬ ((bB s es).1 = 2 ∧ (bB s es).2.1.d.ps.length = us.length) ∧ ¬ ((bB s es).1 = 5 ∧ (bB s es).2.1.rp.length = us.length)
def Kf (R : ae → Nat → Ca → Prop) (t : ae) (o : Ca) : KM → Prop
 | .step u d => R u d o
 | .stuck d => o = .ok t d
 | .dU => o = .dU
def RW (es : List cq) (most : Nat) : Nat → ae → Nat → Ca → Prop
 | 0, _, _, _ => False
 | n + 1, t, d, o =>
  (∃ A b a r, (bt t).1 = .mk 4 0 .empty [] [A, b] ∧ (bt t).2 = a :: r ∧ Cp most d (RW es most n) (bN (dK b a) r) (dK b a) o) ∨
  (∃ A v b, (bt t).1 = .mk 6 0 .empty [] [A, v, b] ∧ Cp most d (RW es most n) (bN (dK b v) (bt t).2) (dK b v) o) ∨
  (∃ s us e j, (bt t).1 = .mk 2 0 s us [] ∧ bB s es = (2, e, j) ∧ e.d.ps.length = us.length ∧ Cp most d (RW es most n) (bN (jn e.d.ps us e.d.vl) (bt t).2) (jn e.d.ps us e.d.vl) o) ∨
  (∃ s us e j io, (bt t).1 = .mk 2 0 s us [] ∧ bB s es = (5, e, j) ∧ e.rp.length = us.length ∧ RI es most (RW es most n) e (.mk 2 0 s us []) (bt t).2 d io ∧ Kf (RW es most n) t o io) ∨
  (EE es (bt t).1 (bt t).2 ∧ o = .ok t d)
theorem uj (ps : List ByteArray) (us : List aJ) (t : ae) : bu (jn ps us t) = bu t := by
 suffices h : ∀ (n : Nat) (t : ae), t.size ≤ n → bu (jn ps us t) = bu t from h _ t (Nat.le_refl _)
 intro n
 induction n with
 | zero => intro t h; obtain ⟨k, m, s, ls, args, rfl⟩ := ae.case t; simp [ae.size] at h
 | succ n ih =>
  intro t h
  match t with
  | .mk k m s ls [a, b] =>
   simp only [ae.size, ai] at h
   simp only [jn, eZ, bu]
   rw [ih b (by omega)]
  | .mk k m s ls [] => simp [jn, eZ, bu]
  | .mk k m s ls [a] => simp [jn, eZ, bu]
  | .mk k m s ls (a :: b :: c :: r) => simp [jn, eZ, bu]
variable {sg : Sg} {ps : List ByteArray} {c : Int} {h : ae} {cs : List ae}
theorem IW (hc : 0 ≤ c) {nm : ByteArray} {firsts pre X : List ae} {p : Nat} (hh : Wt sg ps h c) (hf : ∀ x ∈ firsts, Wt sg ps x c) (hp : ∀ x ∈ pre, Wt sg ps x c) (hpl : pre.length = p) (hX : ∀ (j : Nat) x, X[j]? = some x → Wt sg ps x (c + j)) (hs : ∀ x ∈ cs, Wt sg ps x c) (hl : X.length = cs.length) :
 ∀ j, j ≤ cs.length → ∀ x ∈ CF nm h firsts p pre X cs j, Wt sg ps x c := by
 intro j
 induction j with
 | zero => intro _ x hx; cases hx
 | succ j ih =>
  intro hj x hx
  rw [CF] at hx
  rcases List.mem_append.1 hx with hx | hx
  ·exact ih (by omega) x hx
  ·split at hx
   ·rename_i hcond
    simp only [List.mem_singleton] at hx
    subst hx
    have e1 : X.getD j aI = X[j]'(by omega) := by rw [List.getD_eq_getElem?_getD, List.getElem?_eq_getElem (by omega)]; rfl
    have e2 : cs.getD j aI = cs[j]'(by omega) := by rw [List.getD_eq_getElem?_getD, List.getElem?_eq_getElem (by omega)]; rfl
    rw [e1, e2]
    refine Wt.zG hc hh hf (fun y hy => ?_) (hs _ (List.getElem_mem _)) ?_
    ·rcases List.mem_append.1 hy with hy | hy
     ·exact hp y hy
     ·exact hs y (List.mem_of_mem_drop (List.mem_of_mem_take hy))
    ·have e3 : (pre ++ (cs.drop p).take (j - p)).length = j := by
      rw [List.length_append, List.length_take, List.length_drop, hpl]; omega
     rw [e3]
     exact hX j _ (List.getElem?_eq_getElem (by omega))
   ·cases hx
theorem CC {es : List cq} (hc : 0 ≤ c) {e : cq} (he : vx sg e) (hk : e.d.k = 3) {az : List ae} {i : Nat} {cty : ae} {us : List aJ} (hh : Wt sg ps h c) (ha : ∀ x ∈ az, Wt sg ps x c) (hs : ∀ x ∈ cs, Wt sg ps x c) (hu : ∀ u ∈ us, gQ ps u) (hul : e.d.ps.length ≤ us.length) (hct : Wt sg e.d.ps cty 0) (hl : cs.length = bu cty) (hal : HQ e < az.length) (hi : i < e.d.cs.length) :
 Wt sg ps (uU e h az cs i cty us) c := by
 have hX := hct.Gs hul hu
 have hpX := uj e.d.ps us cty
 have hx2 := hX.vH cs.length (by rw [hpX, hl]; exact Nat.le_refl _)
 have hxl := dT cs.length (jn e.d.ps us cty) (by rw [hpX, hl]; exact Nat.le_refl _)
 unfold HQ at hal
 refine Wt.apply (Wt.apply (Wt.apply ?_ fun x hx => hs x (List.mem_of_mem_drop hx)) ?_) fun x hx => ha x (List.mem_of_mem_drop hx)
 ·rw [List.getD_eq_getElem?_getD, List.getElem?_eq_getElem (by omega)]
  exact ha _ (List.getElem_mem _)
 ·exact IW hc hh (fun x hx => ha x (List.mem_of_mem_take hx)) (fun x hx => ha x (List.mem_of_mem_take hx)) (by rw [List.length_take]; omega) (fun j x hx => (hx2.2 j x hx).up (by omega)) hs hxl cs.length (Nat.le_refl _)
end Go.Proofs.YtndbnldjidciiaaGreatDoor
namespace Go.Proofs.YtndbnldjidciiaaGreatDoor
open Go Go.Vd Go.RowKit
theorem iG {nm : ByteArray} : ∀ {es : List cq} {k : Int} {e : cq} {j : Nat}, bB nm es = (k, e, j) → k ≠ 0 → (k = e.d.k ∨ k = 4 ∨ (k = 5 ∧ e.d.k = 3))
 | [], k, e, j, h, h0 => by rw [bB] at h; cases h; exact absurd rfl h0
 | x :: r, k, e, j, h, h0 => by
  rw [bB] at h
  split at h
  ·cases h; exact .inl rfl
  ·split at h
   ·cases h; exact .inr (.inl rfl)
   ·split at h
    ·rename_i hh
     cases h; exact .inr (.inr ⟨rfl, hh.1⟩)
    ·exact iG h h0
variable {es : List cq} {e : cq}
theorem jQ {nm : ByteArray} {k : Int} {j : Nat} (h : bB nm es = (k, e, j)) (h0 : k ≠ 0) : e ∈ es := by
 have := rB (nm := nm) (es := es) (by rw [h]; exact h0)
 rw [h] at this; exact this
theorem yM (hE : cP es) {a b : cq} (ha : a ∈ es) (hb : b ∈ es) (h : a.d.nm = b.d.nm) : a = b := by
 have hnd := hE.nd
 generalize es = l at ha hb hnd
 induction l with
 | nil => cases ha
 | cons x r ih =>
  rw [List.map_cons, List.nodup_cons] at hnd
  rcases List.mem_cons.1 ha with ea | ha'
  ·rcases List.mem_cons.1 hb with eb | hb'
   ·rw [ea, eb]
   ·rw [← ea] at hnd
    exact absurd (List.mem_map.2 ⟨b, hb', h.symm⟩) hnd.1
  ·rcases List.mem_cons.1 hb with eb | hb'
   ·rw [← eb] at hnd
    exact absurd (List.mem_map.2 ⟨a, ha', h⟩) hnd.1
   ·exact ih ha' hb' hnd.2
variable {ps : List ByteArray} {c : Int}
theorem rH (hE : cP es) (he : e ∈ es) {h : ae} {cs : List ae} {i : Nat} {cty : ae} {us : List aJ} (hh : Wt (eB es) ps h c) (hc : rI es e h cs i cty us) :
 i < e.d.cs.length ∧ (∀ u ∈ us, gQ ps u) ∧ e.d.ps.length = us.length ∧ Wt (eB es) e.d.ps cty 0 ∧ cty.size ≤ 800001 ∧ cs.length = bu cty ∧ e.d.ar ≤ bu cty := by
 obtain ⟨s, e2, nm, rfl, hf, hn, hci, hl⟩ := hc
 have he2 : e2 = e := yM hE (jQ hf (by decide)) he hn
 subst he2
 have hi := (List.getElem?_eq_some_iff.1 hci).1
 have h1 := (hE.vU _ he).cs _ (List.mem_of_getElem? hci)
 refine ⟨hi, hh.1, ?_, h1.1, h1.2.1, hl, h1.2.2⟩
 rcases hh.2.2 with h2 | h2 | h2 | h2 | h2
 ·omega
 ·omega
 ·obtain ⟨_, _, h3, _⟩ := h2
  unfold eB at h3
  rw [Ew hf rfl hci] at h3
  simp only [Option.map_some, Option.some.injEq] at h3
  exact h3
 ·omega
 ·omega
theorem mS {sg : Sg} {t : ae} (h : Wt sg ps t c) : t.size = (bt t).1.size + ai (bt t).2 + (bt t).2.length := by
 obtain ⟨_, _, _, h4⟩ := Wt.spine _ (Nat.le_refl _) h
 have := cI (bt t).1 (bt t).2
 rw [h4] at this; exact this
theorem Ar (hE : cP es) (hc : 0 ≤ c) {most : Nat} : ∀ (n : Nat) {t : ae} {d : Nat} {u : ae} {d' : Nat}, RW es most n t d (.ok u d') → d ≤ most → Wt (eB es) ps t c →
 Wt (eB es) ps u c ∧ d ≤ d' ∧ d' ≤ most ∧ u.size + 30000 * (most - d') ≤ t.size + 30000 * (most - d) := by
 intro n
 induction n with
 | zero => intro t d u d' h; exact h.elim
 | succ n ih =>
  intro t d u d' h hd hw
  obtain ⟨_, hH, hA, _⟩ := Wt.spine _ (Nat.le_refl _) hw
  have hz := mS hw
  have hstep : ∀ {v x : ae}, Cp most d (RW es most n) x v (.ok u d') → Wt (eB es) ps x c → (v.size ≤ 20000 → x.size ≤ t.size + 20000) → Wt (eB es) ps u c ∧ d ≤ d' ∧ d' ≤ most ∧ u.size + 30000 * (most - d') ≤ t.size + 30000 * (most - d) := by
   intro v x hs hx hsz
   rcases hs with ⟨_, h2⟩ | ⟨h1, h2, h3⟩
   ·cases h2
   ·obtain ⟨g1, g2, g3, g4⟩ := ih h3 (by omega) hx
    have := hsz h2
    exact ⟨g1, by omega, g3, by omega⟩
  rcases h with ⟨A, b, a, r, h1, h2, h3⟩ | ⟨A, v, b, h1, h3⟩ | ⟨s, us, e, j, h1, h2, h4, h3⟩ | ⟨s, us, e, j, io, h1, h2, h4, h5, h6⟩ | ⟨_, h3⟩
  ·rw [h1] at hH hz
   obtain ⟨a', b', hab, _, _, _, hA1, hB1⟩ := hH.two (.inr (.inl rfl))
   cases hab
   rw [if_neg (by decide)] at hB1
   rw [h2] at hA hz
   refine hstep h3 (Wt.apply (Wt.sub hc hB1 (hA a List.mem_cons_self)) fun x hx => hA x (List.mem_cons_of_mem _ hx)) fun hv => ?_
   rw [cI]
   simp only [ai, List.length_cons] at hz
   omega
  ·rw [h1] at hH hz
   obtain ⟨A', v', b', hab, _, _, _, hA1, hV1, hB1⟩ := hH.three rfl
   cases hab
   refine hstep h3 (Wt.apply (Wt.sub hc hB1 hV1) hA) fun hv => ?_
   rw [cI]; omega
  ·rw [h1] at hH hz
   have he := jQ h2 (by decide)
   have hk : e.d.k = 2 := by
    rcases iG h2 (by decide) with h | h | h
    ·exact h.symm
    ·omega
    ·omega
   have hv := ((hE.vU _ he).vl hk).1.Gs (us := us) (by omega) hH.1
   refine hstep h3 (Wt.apply (hv.up hc) hA) fun hv => ?_
   rw [cI]; omega
  ·rw [h1] at hH hz
   have he := jQ h2 (by decide)
   have hk : e.d.k = 3 := by
    rcases iG h2 (by decide) with h | h | h
    ·rcases (hE.vU _ he).k with h' | h' | h' <;> omega
    ·omega
    ·exact h.2
   rcases h5 with ⟨g1, rfl⟩ | ⟨x, g1, ⟨_, rfl⟩ | ⟨mj, d1, g2, ⟨_, rfl⟩ | ⟨i, cty, us2, g3, ⟨_, rfl⟩ | ⟨g4, g5, g6, rfl⟩⟩⟩⟩
   ·cases h6; exact ⟨hw, Nat.le_refl _, hd, Nat.le_refl _⟩
   ·cases h6
   ·cases h6
    obtain ⟨_, q2, q3, _⟩ := ih g2 hd (hA x (List.mem_of_getElem? g1))
    exact ⟨hw, q2, q3, by omega⟩
   ·cases h6
   ·obtain ⟨q1, q2, q3, q4⟩ := ih g2 hd (hA x (List.mem_of_getElem? g1))
    obtain ⟨_, qH, qA, _⟩ := Wt.spine _ (Nat.le_refl _) q1
    obtain ⟨w1, w2, w3, w4, w5, w6, w7⟩ := rH hE he qH g3
    have hI := CC (es := es) hc (hE.vU _ he) hk hH hA qA w2 (by omega) w4 w6 (List.getElem?_eq_some_iff.1 g1).1 w1
    obtain ⟨p1, p2, p3, p4⟩ := ih h6 (by omega) hI
    exact ⟨p1, by omega, p3, by omega⟩
  ·cases h3; exact ⟨hw, Nat.le_refl _, hd, Nat.le_refl _⟩
end Go.Proofs.YtndbnldjidciiaaGreatDoor
namespace Go.Proofs.YtndbnldjidciiaaGreatDoor
open Go Go.Vd Go.RowKit
attribute [local irreducible] bl br de aj bI cY
variable {g gl : Nat → List D}
def Gb (es : List cq) (most n : Nat) (t : ae) (d : Nat) (pr : Int) (out : Out) (ob' : List Ob) : Prop :=
 ∃ (u : ae) (d' : Nat) (t' w' : Bool), out = .ret (.d u.d) ∧ ob' = [aP es w', aN, gZ d' most t' pr] ∧ d ≤ d' ∧ d' ≤ most ∧ (w' = false → (t' = true ∧ RW es most n t d .dU) ∨ (t' = false ∧ RW es most n t d (.ok u d')))
def C5 (gl : Nat → List D) (es : List cq) (ps : List ByteArray) (c : Int) (most n : Nat) : Prop :=
 ∀ (k m : Int) (s : ByteArray) (ls : List aJ) (args : List ae) (d : Nat) (pr : Int), d ≤ most → (ae.mk k m s ls args).size + 30000 * (most - d) < n → (ae.mk k m s ls args).size + 30000 * (most - d) ≤ 1000000000000 → Wt (eB es) ps (.mk k m s ls args) c →
  ey Tryz.prog gl 51 [aP es false, aN, gZ d most false pr] [.bZ 0 0, .d (ae.mk k m s ls args).d, .bZ 2 0] (Gb es most n (.mk k m s ls args) d pr)
def KL (es : List cq) (most n : Nat) (e : cq) (h : ae) (az : List ae) (d : Nat) (pr : Int) (out : Out) (ob' : List Ob) : Prop :=
 ∃ (u : ae) (b : Bool) (d' : Nat) (t' w' : Bool), out = .ret (.d (.cb [u.d, .v (.bool b)])) ∧ ob' = [aP es w', aN, gZ d' most t' pr] ∧ d ≤ d' ∧ d' ≤ most ∧
  (w' = false → (t' = true ∧ b = false ∧ RI es most (RW es most n) e h az d .dU) ∨ (t' = false ∧ b = false ∧ RI es most (RW es most n) e h az d (.stuck d')) ∨ (t' = false ∧ b = true ∧ RI es most (RW es most n) e h az d (.step u d')))
theorem mQ (d most : Nat) (t : Bool) (p : Int) (hd : d ≤ 1099511627776) :
 ey Tryz.prog gl 84 [gZ d most t p] [.bZ 0 0] fun out ob' => ∃ (ok : Bool) (d2 : Nat) (t2 : Bool), out = .ret (.d (.v (.bool ok))) ∧ ob' = [gZ d2 most t2 p] ∧ ((ok = false ∧ most ≤ d ∧ d2 = d ∧ t2 = true) ∨ (ok = true ∧ d < most ∧ d2 = d + 1 ∧ t2 = t)) :=
 (Dg d most t p ⟨by omega, by omega⟩).mono fun o b h => by
  rcases h with ⟨h1, rfl, rfl⟩ | ⟨h1, rfl, rfl⟩
  ·exact ⟨false, d, true, rfl, rfl, .inl ⟨rfl, by omega, rfl, rfl⟩⟩
  ·exact ⟨true, d + 1, t, rfl, rfl, .inr ⟨rfl, by omega, rfl, rfl⟩⟩
theorem wR (nm : ByteArray) (k m : Int) (s : ByteArray) (ls : List aJ) (args : List ae) (hz : (ae.mk k m s ls args).size ≤ 1099511627776) :
 cD Tryz.prog gl 123 [(ae.mk k m s ls args).d, .v (.string nm)] (· = .v (.bool (ic (ph nm) (.mk k m s ls args) 0))) := by
 refine bD Tryz.func123 Tryz.ntmps123 ?_;refine gc 10 ?_;refine oc (cv vj rfl rfl (jw nm _ k m s ls args (Nat.le_refl _) hz) (bd (an .nil)) ?_);refine go 4 ?_;refine ez ?_
 rfl
theorem rX (l : List ae) (i : Nat) : ai (l.take i) ≤ ai l := by
 induction l generalizing i with
 | nil => simp [ai]
 | cons a r ih =>
  cases i with
  | zero => simp [ai]
  | succ i => have := ih i; simp only [List.take_succ_cons, ai]; omega
theorem nL (f : ae) (l : List ae) (x : ae) : bN f (l ++ [x]) = .mk 3 0 .empty [] [bN f l, x] := by
 unfold bN; rw [List.foldl_append]; rfl
theorem mP (l : List ae) (p : Nat) : (ba l).take ((p : Nat) : Int).toNat = ba (l.take p) := by
 rw [Int.toNat_natCast]
 induction l generalizing p with
 | nil => simp [ba]
 | cons a r ih => cases p with
  | zero => simp [ba]
  | succ p => simp only [ba, List.take_succ_cons, ih]
end Go.Proofs.YtndbnldjidciiaaGreatDoor
