/-
  What is proved here: terms as data; what the reference's reader of terms computes, in plain words.
-/
import Derived.Test.YtneaancanfpdhaaGreatDoorYPrint
import Derived.Test.YtneaancanfpdhaaGreatDoorY18
set_option linter.unusedSimpArgs false
set_option linter.unusedVariables false
namespace Go.Vd
open Go Go.RowKit

/-! terms -/
inductive Trm where
  | mk (kind num : Int) (name : ByteArray) (levels : List Lvl) (args : List Trm)
mutual
def Trm.cells : Trm → List D
  | .mk k n s ls args => [.v (.int .i64 k), .v (.int .i64 n), .v (.string s), .sl 3 (lvls ls), .sl 5 (trms args)]
def trms : List Trm → List (List D)
  | [] => []
  | t :: r => t.cells :: trms r
end
def Trm.d (t : Trm) : D := .agg t.cells
theorem Trm.cells_len : ∀ t : Trm, t.cells.length = 5
  | .mk _ _ _ _ _ => rfl
theorem Trm.case (t : Trm) : ∃ k n s ls args, t = .mk k n s ls args := by cases t; exact ⟨_, _, _, _, _, rfl⟩
theorem trms_len : ∀ l : List Trm, (trms l).length = l.length
  | [] => rfl
  | l :: r => by simp [trms, trms_len r]
theorem trms_get : ∀ {l : List Trm} {i : Nat} {x : Trm}, l[i]? = some x → (trms l)[i]? = some x.cells
  | [], i, x, h => by simp at h
  | l :: r, 0, x, h => by simp at h; subst h; simp [trms]
  | l :: r, i + 1, x, h => by simpa [trms] using trms_get (l := r) (i := i) (by simpa using h)
theorem trm_at {l : List Trm} {i : Nat} {k n : Int} {s : ByteArray} {ls : List Lvl} {args : List Trm} (h : l[i]? = some (.mk k n s ls args)) : (trms l)[((i : Nat) : Int).toNat]? = some [.v (.int .i64 k), .v (.int .i64 n), .v (.string s), .sl 3 (lvls ls), .sl 5 (trms args)] := by
  rw [Int.toNat_natCast, trms_get h]; rfl
theorem trms_app (l m : List Trm) : trms (l ++ m) = trms l ++ trms m := by
  induction l with
  | nil => rfl
  | cons a r ih => simp [trms, ih]
theorem trm_get {ls : List Trm} {i : Nat} (h : i < ls.length) : ∃ k n s l args, ls[i]? = some (.mk k n s l args) := by
  have : ls[i]? = some ls[i] := by simp [h]
  rw [this]
  cases ls[i]; exact ⟨_, _, _, _, _, rfl⟩
mutual
def Trm.size : Trm → Nat
  | .mk _ _ _ ls args => 1 + sizes ls + sizesT args
def sizesT : List Trm → Nat
  | [] => 0
  | l :: r => l.size + sizesT r
end
theorem sizeT_get : ∀ {ls : List Trm} {i : Nat} {l : Trm}, ls[i]? = some l → l.size ≤ sizesT ls
  | [], i, l, h => by simp at h
  | a :: r, 0, l, h => by simp at h; subst h; simp [sizesT]
  | a :: r, i + 1, l, h => by simp at h; have := sizeT_get h; simp [sizesT]; omega
theorem trms_size : ∀ ls : List Trm, ls.length ≤ sizesT ls
  | [] => by simp
  | l :: r => by have := trms_size r; cases l; simp [sizesT, Trm.size]; omega

mutual
/-- as they are written -/
def Trm.same : Trm → Trm → Bool
  | .mk k n s ls a, .mk k2 n2 s2 ls2 a2 => decide (k = k2) && decide (n = n2) && decide (s = s2) && sameL ls ls2 && sameT a a2
def sameT : List Trm → List Trm → Bool
  | [], [] => true
  | l :: r, l2 :: r2 => l.same l2 && sameT r r2
  | _, _ => false
end
theorem Trm.same_eq (k n : Int) (s : ByteArray) (ls : List Lvl) (a : List Trm) (k2 n2 : Int) (s2 : ByteArray) (ls2 : List Lvl) (a2 : List Trm) : Trm.same (.mk k n s ls a) (.mk k2 n2 s2 ls2 a2) = (decide (k = k2) && decide (n = n2) && decide (s = s2) && sameL ls ls2 && sameT a a2) := by simp [Trm.same]
theorem sameT_len : ∀ {a b : List Trm}, sameT a b = true → a.length = b.length
  | [], [], _ => rfl
  | l :: r, l2 :: r2, h => by simp [sameT] at h; simp [sameT_len h.2]
  | [], _ :: _, h => by simp [sameT] at h
  | _ :: _, [], h => by simp [sameT] at h
theorem sameT_app : ∀ {a b : List Trm} {x y : Trm}, a.length = b.length → sameT (a ++ [x]) (b ++ [y]) = (sameT a b && x.same y)
  | [], [], x, y, _ => by simp [sameT]
  | l :: r, l2 :: r2, x, y, h => by simp [sameT, sameT_app (a := r) (b := r2) (by simpa using h), Bool.and_assoc]
  | [], _ :: _, _, _, h => by simp at h
  | _ :: _, [], _, _, h => by simp at h
theorem sameT_take {a b : List Trm} {i : Nat} {x y : Trm} (hx : a[i]? = some x) (hy : b[i]? = some y) : sameT (a.take (i + 1)) (b.take (i + 1)) = (sameT (a.take i) (b.take i) && x.same y) := by
  have h1 := (List.getElem?_eq_some_iff.1 hx).1
  have h2 := (List.getElem?_eq_some_iff.1 hy).1
  rw [List.take_add_one, List.take_add_one, hx, hy]
  exact sameT_app (by simp; omega)
theorem sameT_false : ∀ {a b : List Trm} {i : Nat} {x y : Trm}, a[i]? = some x → b[i]? = some y → x.same y = false → sameT a b = false
  | [], _, i, _, _, h, _, _ => by simp at h
  | _ :: _, [], i, _, _, _, h, _ => by simp at h
  | l :: r, l2 :: r2, 0, x, y, h1, h2, h3 => by simp at h1 h2; subst h1 h2; simp [sameT, h3]
  | l :: r, l2 :: r2, i + 1, x, y, h1, h2, h3 => by simp [sameT]; intro _; exact sameT_false (i := i) (by simpa using h1) (by simpa using h2) h3
mutual
theorem Lvl.same_self : ∀ l : Lvl, l.same l = true
  | .mk k s a => by rw [Lvl.same_eq]; simp [sameL_self a]
theorem sameL_self : ∀ l : List Lvl, sameL l l = true
  | [] => rfl
  | t :: r => by simp [sameL, t.same_self, sameL_self r]
end
mutual
theorem Trm.same_self : ∀ t : Trm, t.same t = true
  | .mk k n s ls a => by rw [Trm.same_eq]; simp [sameL_self ls, sameT_self a]
theorem sameT_self : ∀ l : List Trm, sameT l l = true
  | [] => rfl
  | t :: r => by simp [sameT, t.same_self, sameT_self r]
end

/-! the reader -/
/-- the number that the first k digits write -/
def numR (t : ByteArray) : Nat → Int
  | 0 => 0
  | k + 1 => 10 * numR t k + (byteAt t k - 48)
def allDig (t : ByteArray) : Prop := ∀ i : Nat, (i : Int) < t.size → 48 ≤ byteAt t i ∧ byteAt t i ≤ 57
theorem numR_bound {t : ByteArray} (h : allDig t) : ∀ k : Nat, k ≤ t.size → k ≤ 5 → 0 ≤ numR t k ∧ numR t k ≤ 99999
  | 0, _, _ => by simp [numR]
  | 1, h1, h2 => by have := h 0 (by omega); simp only [numR]; omega
  | 2, h1, h2 => by have := h 0 (by omega); have := h 1 (by omega); simp only [numR]; omega
  | 3, h1, h2 => by have := h 0 (by omega); have := h 1 (by omega); have := h 2 (by omega); simp only [numR]; omega
  | 4, h1, h2 => by have := h 0 (by omega); have := h 1 (by omega); have := h 2 (by omega); have := h 3 (by omega); simp only [numR]; omega
  | 5, h1, h2 => by have := h 0 (by omega); have := h 1 (by omega); have := h 2 (by omega); have := h 3 (by omega); have := h 4 (by omega); simp only [numR]; omega
  | _ + 6, _, h2 => by omega
def peekR (s : ByteArray) (r : RS) : ByteArray := if (tokR s r.p).2.2 = false ∨ r.f ≠ none then .empty else (tokR s r.p).1
def nameR (s : ByteArray) (r : RS) : ByteArray × RS :=
  let t := tokR s r.p
  if t.2.2 = false ∨ isNameB t.1 = false then (.empty, r.fail t.2.1)
  else match r.f with
    | none => (t.1, ⟨t.2.1 + t.1.size, none⟩)
    | some a => (.empty, ⟨r.p, some a⟩)
def levelsR : Nat → ByteArray → RS → List Lvl × RS
  | 0, _, r => ([], r)
  | n + 1, s, r =>
    if r.f = none ∧ peekR s r ≠ ⟨#[41]⟩ then
      let a := levelR (s.size + 1) s r
      let b := levelsR n s a.2
      (a.1 :: b.1, b.2)
    else ([], r)
/-- the words of terms -/
def wordsT : List ByteArray := [.empty, ⟨#[115, 111, 114, 116]⟩, ⟨#[99, 111, 110, 115, 116]⟩, ⟨#[97, 112, 112]⟩, ⟨#[108, 97, 109]⟩, ⟨#[112, 105]⟩, ⟨#[108, 101, 116]⟩]
def kindT (w : ByteArray) : Nat :=
  if w = ⟨#[115, 111, 114, 116]⟩ then 1 else if w = ⟨#[99, 111, 110, 115, 116]⟩ then 2 else if w = ⟨#[97, 112, 112]⟩ then 3
  else if w = ⟨#[108, 97, 109]⟩ then 4 else if w = ⟨#[112, 105]⟩ then 5 else if w = ⟨#[108, 101, 116]⟩ then 6 else 0
theorem kindT_le (w : ByteArray) : kindT w ≤ 6 := by unfold kindT; repeat' split
                                                     all_goals omega
theorem kindT_word {w : ByteArray} {i : Nat} (h1 : 1 ≤ i) (h : i < wordsT.length) : wordsT[i] = w ↔ kindT w = i := by
  constructor
  · rintro rfl
    rcases i with _ | _ | _ | _ | _ | _ | _ | i
    · omega
    all_goals first
      | rfl
      | (simp [wordsT] at h; omega)
  · intro e
    unfold kindT at e
    repeat' split at e
    all_goals (subst e; first | omega | (rename_i h2; exact h2.symm) | (simp_all [wordsT]))
def kindTo (w : ByteArray) (i : Nat) : Nat := if kindT w < i then kindT w else 0
theorem kindTo_7 (w : ByteArray) : kindTo w 7 = kindT w := by have := kindT_le w; unfold kindTo; rw [if_pos (by omega)]
theorem kindTo_yes {w : ByteArray} {i : Nat} (h1 : 1 ≤ i) (h : i < wordsT.length) (e : wordsT[i] = w) : kindTo w (i + 1) = i := by
  have := (kindT_word h1 h).1 e; unfold kindTo; rw [if_pos (by omega)]; exact this
theorem kindTo_no {w : ByteArray} {i : Nat} (h1 : 1 ≤ i) (h : i < wordsT.length) (e : ¬ wordsT[i] = w) : kindTo w (i + 1) = kindTo w i := by
  have : ¬ kindT w = i := fun h2 => e ((kindT_word h1 h).2 h2)
  unfold kindTo
  by_cases h3 : kindT w < i
  · rw [if_pos h3, if_pos (by omega)]
  · rw [if_neg h3, if_neg (by omega)]
def zeroT : Trm := .mk 0 0 .empty [] []
/-- the parts of a term -/
def partsR (f : RS → Trm × RS) : Nat → RS → List Trm × RS
  | 0, r => ([], r)
  | n + 1, r => let b := partsR f n r; let a := f b.2; (b.1 ++ [a.1], a.2)
/-- how many terms a term of the kind has -/
def partsOf (k : Nat) : Nat := if k = 1 ∨ k = 2 then 0 else if k = 6 then 3 else 2
/-- what stands ahead of the parts: a name, levels -/
def headR (s : ByteArray) (k : Nat) (r2 : RS) : ByteArray × List Lvl × RS :=
  if k = 1 then (.empty, [(levelR (s.size + 1) s r2).1], (levelR (s.size + 1) s r2).2)
  else if k = 2 then ((nameR s r2).1, (levelsR (s.size + 2) s (nameR s r2).2).1, (levelsR (s.size + 2) s (nameR s r2).2).2)
  else (.empty, [], r2)
/-- is it a token that begins a term? -/
def headT (t : ByteArray) : Prop := t ≠ .empty ∧ (byteAt t 0 = 35 ∨ t = ⟨#[40]⟩)
instance (t : ByteArray) : Decidable (headT t) := inferInstanceAs (Decidable (_ ∧ _))
def termR : Nat → ByteArray → RS → Trm × RS
  | 0, _, r => (zeroT, r)
  | n + 1, s, r =>
    match r.f with
    | some _ => (zeroT, r)
    | none =>
      let t := tokR s r.p
      if ¬ headT t.1 then (zeroT, r.fail t.2.1)
      else if t.1 ≠ ⟨#[40]⟩ then (.mk 0 (numR (t.1.extract 1 t.1.size) (t.1.size - 1)) .empty [] [], (nextR s r).2)
      else
        let r1 := (nextR s r).2
        let w := tokR s r1.p
        let k := kindT w.1
        if k = 0 then (zeroT, r1.fail w.2.1)
        else
          let h := headR s k (nextR s r1).2
          let a := partsR (termR n s) (partsOf k) h.2.2
          (.mk k 0 h.1 h.2.1 a.1, takeR s ⟨#[41]⟩ a.2)
/-- the reference's 'ParseTerm' -/
def parseT (s : ByteArray) : Trm × Int × Int :=
  if s.size > 20000 then (zeroT, 2, 0)
  else
    let a := termR (s.size + 1) s ⟨0, none⟩
    match (doneR s a.2).f with
    | none => (a.1, 0, 0)
    | some at' => (zeroT, 1, at')
theorem nameR_le {s : ByteArray} {r : RS} (hp : r.p ≤ s.size) : r.p ≤ (nameR s r).2.p ∧ (nameR s r).2.p ≤ s.size := by
  have hat := tokR_at (s := s) hp
  obtain ⟨p, f⟩ := r
  simp only at hp hat
  unfold nameR
  dsimp only
  split
  · rw [RS.fail_p]; exact ⟨Nat.le_refl _, hp⟩
  · cases f with
    | none => dsimp only; exact ⟨by omega, hat.2⟩
    | some a => exact ⟨Nat.le_refl _, hp⟩
theorem levelsR_le {s : ByteArray} : ∀ (n : Nat) {r : RS}, r.p ≤ s.size → r.p ≤ (levelsR n s r).2.p ∧ (levelsR n s r).2.p ≤ s.size := by
  intro n
  induction n with
  | zero => intro r hp; exact ⟨Nat.le_refl _, hp⟩
  | succ n ih =>
    intro r hp
    simp only [levelsR]
    split
    · have h1 := levelR_le (s := s) (s.size + 1) hp
      have h2 := ih h1.2
      exact ⟨Nat.le_trans h1.1 h2.1, h2.2⟩
    · exact ⟨Nat.le_refl _, hp⟩
theorem headR_le {s : ByteArray} (k : Nat) {r : RS} (hp : r.p ≤ s.size) : r.p ≤ (headR s k r).2.2.p ∧ (headR s k r).2.2.p ≤ s.size := by
  unfold headR
  split
  · exact levelR_le (s := s) (s.size + 1) hp
  · split
    · have h1 := nameR_le (s := s) hp
      have h2 := levelsR_le (s.size + 2) h1.2
      exact ⟨Nat.le_trans h1.1 h2.1, h2.2⟩
    · exact ⟨Nat.le_refl _, hp⟩
theorem partsR_le {s : ByteArray} {f : RS → Trm × RS} (hf : ∀ r : RS, r.p ≤ s.size → r.p ≤ (f r).2.p ∧ (f r).2.p ≤ s.size) : ∀ (n : Nat) {r : RS}, r.p ≤ s.size → r.p ≤ (partsR f n r).2.p ∧ (partsR f n r).2.p ≤ s.size := by
  intro n
  induction n with
  | zero => intro r hp; exact ⟨Nat.le_refl _, hp⟩
  | succ n ih =>
    intro r hp
    have h1 := ih hp
    have h2 := hf _ h1.2
    exact ⟨Nat.le_trans h1.1 h2.1, h2.2⟩
theorem partsR_len (f : RS → Trm × RS) : ∀ (n : Nat) (r : RS), (partsR f n r).1.length = n := by
  intro n
  induction n with
  | zero => intro r; rfl
  | succ n ih => intro r; simp [partsR, ih]
theorem termR_le {s : ByteArray} : ∀ (n : Nat) (r : RS), r.p ≤ s.size → r.p ≤ (termR n s r).2.p ∧ (termR n s r).2.p ≤ s.size := by
  intro n
  induction n with
  | zero => intro r hp; exact ⟨Nat.le_refl _, hp⟩
  | succ n ih =>
    intro r hp
    obtain ⟨p, f⟩ := r
    simp only at hp
    cases f with
    | some a => exact ⟨Nat.le_refl _, hp⟩
    | none =>
      have h1 := nextR_le (s := s) (r := ⟨p, none⟩) hp
      have h2 := nextR_le (s := s) (r := (nextR s ⟨p, none⟩).2) h1.2
      simp only at h1
      simp only [termR]
      split
      · rw [RS.fail_p]; exact ⟨Nat.le_refl _, hp⟩
      · split
        · exact h1
        · split
          · rw [RS.fail_p]; exact h1
          · have h3 := headR_le (s := s) (kindT (tokR s (nextR s ⟨p, none⟩).2.p).1) h2.2
            have h4 := partsR_le ih (partsOf (kindT (tokR s (nextR s ⟨p, none⟩).2.p).1)) h3.2
            have h5 := takeR_le (s := s) (w := ⟨#[41]⟩) h4.2
            exact ⟨Nat.le_trans h1.1 (Nat.le_trans h2.1 (Nat.le_trans h3.1 (Nat.le_trans h4.1 h5.1))), h5.2⟩

theorem tok_hash0 {s : ByteArray} {p : Nat} (hp : p ≤ s.size) (h0 : (tokR s p).1 ≠ .empty) (h : byteAt (tokR s p).1 0 = 35) : (tokR s p).1.size ≤ 6 ∧ 2 ≤ (tokR s p).1.size ∧ allDig ((tokR s p).1.extract 1 (tokR s p).1.size) := by
  have hle := spanB_le wsB s p hp
  revert h0 h
  unfold tokR
  dsimp only
  split
  · intro h0; exact absurd rfl h0
  · rename_i hn
    have hlt : spanB wsB s p < s.size := by omega
    split
    · rename_i hc
      intro _ h
      rw [byteAt_extract s (by omega) (by omega), Nat.add_zero] at h
      omega
    · split
      · rename_i hc hnm
        have h3 := spanB_le (nameB · false) s (spanB wsB s p + 1) (by omega)
        split
        · intro h0; exact absurd rfl h0
        · intro _ h
          rw [byteAt_extract s (by omega) (by omega), Nat.add_zero] at h
          rw [h] at hnm
          exact absurd hnm (by decide)
      · split
        · have h3 := spanB_le digB s (spanB wsB s p + 1) (by omega)
          by_cases h35 : byteAt s (spanB wsB s p) = 35
          · simp only [if_pos h35]
            split
            · intro h0; exact absurd rfl h0
            · rename_i hd
              intro _ h
              simp only [ByteArray.size_extract]
              refine ⟨by omega, by omega, fun i hi => ?_⟩
              simp only [ByteArray.size_extract] at hi
              rw [byteAt_extract _ (by omega) (by simp only [ByteArray.size_extract]; omega), byteAt_extract s (by omega) (by omega)]
              have := spanB_all (f := digB) (s := s) (p := spanB wsB s p + 1) (j := spanB wsB s p + (1 + i)) (by omega) (by omega)
              simpa [digB] using this
          · simp only [if_neg h35]
            split
            · intro h0; exact absurd rfl h0
            · intro _ h
              rw [byteAt_extract s (by omega) (by omega), Nat.add_zero] at h
              exact absurd h h35
        · intro h0; exact absurd rfl h0
/-- a token that begins with # -/
theorem tok_hash {s : ByteArray} {p : Nat} (hp : p ≤ s.size) (h0 : (tokR s p).1 ≠ .empty) (h : byteAt (tokR s p).1 0 = 35) : (tokR s p).1.size ≤ 6 ∧ 1 ≤ (tokR s p).1.size ∧ allDig ((tokR s p).1.extract 1 (tokR s p).1.size) := by
  have := tok_hash0 hp h0 h
  exact ⟨this.1, by omega, this.2.2⟩
theorem tok_hash2 {s : ByteArray} {p : Nat} (hp : p ≤ s.size) (h0 : (tokR s p).1 ≠ .empty) (h : byteAt (tokR s p).1 0 = 35) : 2 ≤ (tokR s p).1.size := (tok_hash0 hp h0 h).2.1
section
variable {s : ByteArray} {p n : Nat}
theorem termR_bad (h : ¬ headT (tokR s p).1) : termR (n + 1) s ⟨p, none⟩ = (zeroT, (RS.mk p none).fail (tokR s p).2.1) := by simp only [termR]; rw [if_pos h]
theorem termR_num (h : headT (tokR s p).1) (h1 : (tokR s p).1 ≠ ⟨#[40]⟩) : termR (n + 1) s ⟨p, none⟩ = (.mk 0 (numR ((tokR s p).1.extract 1 (tokR s p).1.size) ((tokR s p).1.size - 1)) .empty [] [], (nextR s ⟨p, none⟩).2) := by
  simp only [termR]; rw [if_neg (by simpa using h), if_pos h1]
theorem termR_kind (h1 : (tokR s p).1 = ⟨#[40]⟩) (h2 : kindT (tokR s (nextR s ⟨p, none⟩).2.p).1 = 0) : termR (n + 1) s ⟨p, none⟩ = (zeroT, (nextR s ⟨p, none⟩).2.fail (tokR s (nextR s ⟨p, none⟩).2.p).2.1) := by
  simp only [termR]; rw [if_neg (by rw [h1]; decide), if_neg (by simpa using h1), if_pos h2]
theorem termR_node (h1 : (tokR s p).1 = ⟨#[40]⟩) {k : Nat} (h2 : kindT (tokR s (nextR s ⟨p, none⟩).2.p).1 = k) (h3 : ¬ k = 0) {nm : ByteArray} {L : List Lvl} {r3 : RS} (h4 : headR s k (nextR s (nextR s ⟨p, none⟩).2).2 = (nm, L, r3)) :
    termR (n + 1) s ⟨p, none⟩ = (.mk k 0 nm L (partsR (termR n s) (partsOf k) r3).1, takeR s ⟨#[41]⟩ (partsR (termR n s) (partsOf k) r3).2) := by
  simp only [termR]; rw [if_neg (by rw [h1]; decide), if_neg (by simpa using h1), h2, if_neg h3, h4]
end
theorem parseT_bad {s : ByteArray} (h : ¬ s.size > 20000) (hf : ¬ fcode (doneR s (termR (s.size + 1) s ⟨0, none⟩).2).f = 0) :
    parseT s = (zeroT, fcode (doneR s (termR (s.size + 1) s ⟨0, none⟩).2).f, fat (doneR s (termR (s.size + 1) s ⟨0, none⟩).2).f) := by
  unfold parseT
  rw [if_neg h]
  simp only
  cases hf2 : (doneR s (termR (s.size + 1) s ⟨0, none⟩).2).f with
  | none => rw [hf2] at hf; exact absurd rfl hf
  | some a => rfl
theorem parseT_good {s : ByteArray} (h : ¬ s.size > 20000) (hf : fcode (doneR s (termR (s.size + 1) s ⟨0, none⟩).2).f = 0) :
    parseT s = ((termR (s.size + 1) s ⟨0, none⟩).1, fcode (doneR s (termR (s.size + 1) s ⟨0, none⟩).2).f, fat (doneR s (termR (s.size + 1) s ⟨0, none⟩).2).f) := by
  unfold parseT
  rw [if_neg h]
  simp only
  cases hf2 : (doneR s (termR (s.size + 1) s ⟨0, none⟩).2).f with
  | none => rfl
  | some a => rw [hf2] at hf; cases hf
end Go.Vd
