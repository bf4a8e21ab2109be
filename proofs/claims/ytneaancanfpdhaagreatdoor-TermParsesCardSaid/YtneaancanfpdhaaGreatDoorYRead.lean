/-
  What is proved here: what the reference's reader computes, in plain words.
-/
import Derived.Test.YtneaancanfpdhaaGreatDoorYLevel
namespace Go.Vd
open Go Go.RowKit

/-- a reader's place and its first fault -/
structure RS where
  p : Nat
  f : Option Nat
def fcode : Option Nat → Int
  | none => 0
  | some _ => 1
def fat : Option Nat → Int
  | none => 0
  | some a => a
def RS.fail (at' : Nat) (r : RS) : RS := match r.f with
  | none => ⟨r.p, some at'⟩
  | some a => ⟨r.p, some a⟩
def nextR (s : ByteArray) (r : RS) : ByteArray × RS :=
  let t := tokR s r.p
  if t.2.2 = false ∨ t.1 = .empty then (.empty, r.fail t.2.1)
  else match r.f with
    | none => (t.1, ⟨t.2.1 + t.1.size, none⟩)
    | some a => (.empty, ⟨r.p, some a⟩)
def takeR (s w : ByteArray) (r : RS) : RS :=
  let t := tokR s r.p
  if t.2.2 = false ∨ t.1 ≠ w then r.fail t.2.1
  else match r.f with
    | none => ⟨t.2.1 + t.1.size, none⟩
    | some a => ⟨r.p, some a⟩
def kindR (w : ByteArray) : Int :=
  if w = ⟨#[115]⟩ then 1 else if w = ⟨#[109, 97, 120]⟩ then 2 else if w = ⟨#[105, 109, 97, 120]⟩ then 3 else 0
def zeroL : Lvl := .mk 0 .empty []
def levelR : Nat → ByteArray → RS → Lvl × RS
  | 0, _, r => (zeroL, r)
  | n + 1, s, r =>
    match r.f with
    | some _ => (zeroL, r)
    | none =>
      let t := tokR s r.p
      if t.1 = ⟨#[48]⟩ then (zeroL, (nextR s r).2)
      else if isNameB t.1 then (.mk 4 t.1 [], (nextR s r).2)
      else if t.1 = ⟨#[40]⟩ then
        let r1 := (nextR s r).2
        let w := tokR s r1.p
        if kindR w.1 = 0 then (zeroL, r1.fail w.2.1)
        else
          let r2 := (nextR s r1).2
          let a := levelR n s r2
          if kindR w.1 = 1 then (.mk 1 .empty [a.1], takeR s ⟨#[41]⟩ a.2)
          else
            let b := levelR n s a.2
            (.mk (kindR w.1) .empty [a.1, b.1], takeR s ⟨#[41]⟩ b.2)
      else (zeroL, r.fail t.2.1)
def doneR (s : ByteArray) (r : RS) : RS :=
  let t := tokR s r.p
  if t.2.2 = false ∨ t.1 ≠ .empty then r.fail t.2.1 else r
/-- the reference's 'ParseLevel': the level, or the fault's code and place -/
def parseR (s : ByteArray) : Lvl × Int × Int :=
  if s.size > 20000 then (zeroL, 2, 0)
  else
    let a := levelR (s.size + 1) s ⟨0, none⟩
    match (doneR s a.2).f with
    | none => (a.1, 0, 0)
    | some at' => (zeroL, 1, at')

section
variable {s : ByteArray} {p i : Nat}
theorem tok_end (h : spanB wsB s p = spanB wsB s i) (hi : i = s.size) : tokR s p = (.empty, i, true) := by
  have h1 : spanB wsB s p = i := h.trans (spanB_end (by omega))
  unfold tokR; simp only [h1, hi]; rfl
theorem tok_par (h : spanB wsB s p = i) (hi : i < s.size) (hc : byteAt s i = 40 ∨ byteAt s i = 41) : tokR s p = (s.extract i (i + 1), i, true) := by
  unfold tokR; simp only [h]; rw [if_neg (by omega), if_pos hc]
theorem spanB_run {f : Int → Bool} {s : ByteArray} {p q : Nat} (h : spanB f s p = spanB f s q) (hn : (s.size : Int) ≤ q ∨ f (byteAt s q) = false) : spanB f s p = q := h.trans (spanB_end (by
  rintro ⟨h1, h2⟩
  rcases hn with h3 | h3
  · omega
  · rw [h3] at h2; cases h2))
theorem spanB_runD {s : ByteArray} {p q : Nat} (h : spanB digB s p = spanB digB s q) (hn : ¬ ((q : Int) < s.size ∧ 48 ≤ byteAt s q ∧ byteAt s q ≤ 57)) : spanB digB s p = q := h.trans (spanB_end (by
  rintro ⟨h1, h2⟩
  simp only [digB, decide_eq_true_eq] at h2
  omega))
theorem tok_nameNo {q : Nat} (h : spanB wsB s p = i) (hi : i < s.size) (hc : ¬ (byteAt s i = 40 ∨ byteAt s i = 41)) (hn : nameB (byteAt s i) true = true) (hq : spanB (nameB · false) s (i + 1) = q) (hl : 40 < q - i) : tokR s p = (.empty, i, false) := by
  unfold tokR; simp only [h]; rw [if_neg (by omega), if_neg hc, if_pos hn, hq, if_pos hl]
theorem tok_name {q : Nat} (h : spanB wsB s p = i) (hi : i < s.size) (hc : ¬ (byteAt s i = 40 ∨ byteAt s i = 41)) (hn : nameB (byteAt s i) true = true) (hq : spanB (nameB · false) s (i + 1) = q) (hl : ¬ 40 < q - i) : tokR s p = (s.extract i q, i, true) := by
  unfold tokR; simp only [h]; rw [if_neg (by omega), if_neg hc, if_pos hn, hq, if_neg hl]
theorem tok_numNo {q d : Nat} (h : spanB wsB s p = i) (hi : i < s.size) (hc : ¬ (byteAt s i = 40 ∨ byteAt s i = 41)) (hn : nameB (byteAt s i) true = false) (hd : byteAt s i = 35 ∨ (48 ≤ byteAt s i ∧ byteAt s i ≤ 57)) (hq : spanB digB s (i + 1) = q) (hdd : (if byteAt s i = 35 then i + 1 else i) = d) (hl : q = d ∨ 5 < q - d ∨ (1 < q - d ∧ byteAt s d = 48)) : tokR s p = (.empty, i, false) := by
  have h2 : byteAt s i = 35 ∨ digB (byteAt s i) = true := by simpa [digB] using hd
  unfold tokR; simp only [h]; rw [if_neg (by omega), if_neg hc, if_neg (by simp [hn]), if_pos h2, hq, hdd, if_pos hl]
theorem tok_num {q d : Nat} (h : spanB wsB s p = i) (hi : i < s.size) (hc : ¬ (byteAt s i = 40 ∨ byteAt s i = 41)) (hn : nameB (byteAt s i) true = false) (hd : byteAt s i = 35 ∨ (48 ≤ byteAt s i ∧ byteAt s i ≤ 57)) (hq : spanB digB s (i + 1) = q) (hdd : (if byteAt s i = 35 then i + 1 else i) = d) (hl : ¬ (q = d ∨ 5 < q - d ∨ (1 < q - d ∧ byteAt s d = 48))) : tokR s p = (s.extract i q, i, true) := by
  have h2 : byteAt s i = 35 ∨ digB (byteAt s i) = true := by simpa [digB] using hd
  unfold tokR; simp only [h]; rw [if_neg (by omega), if_neg hc, if_neg (by simp [hn]), if_pos h2, hq, hdd, if_neg hl]
theorem tok_none (h : spanB wsB s p = i) (hi : i < s.size) (hc : ¬ (byteAt s i = 40 ∨ byteAt s i = 41)) (hn : nameB (byteAt s i) true = false) (hd : ¬ (byteAt s i = 35 ∨ (48 ≤ byteAt s i ∧ byteAt s i ≤ 57))) : tokR s p = (.empty, i, false) := by
  have h2 : ¬ (byteAt s i = 35 ∨ digB (byteAt s i) = true) := by simpa [digB] using hd
  unfold tokR; simp only [h]; rw [if_neg (by omega), if_neg hc, if_neg (by simp [hn]), if_neg h2]
end
theorem tokR_at {s : ByteArray} {p : Nat} (hp : p ≤ s.size) : p ≤ (tokR s p).2.1 ∧ (tokR s p).2.1 + (tokR s p).1.size ≤ s.size := by
  have h1 := spanB_le wsB s p hp
  unfold tokR
  simp only
  split
  · rename_i h; exact ⟨h1.1, by simp; omega⟩
  · rename_i h
    have h2 : spanB wsB s p + 1 ≤ s.size := by omega
    split
    · exact ⟨h1.1, by simp [ByteArray.size_extract]; omega⟩
    · split
      · have h3 := spanB_le (nameB · false) s _ h2
        split
        · exact ⟨h1.1, by simp; omega⟩
        · exact ⟨h1.1, by simp [ByteArray.size_extract]; omega⟩
      · have h3 := spanB_le digB s _ h2
        repeat' split
        all_goals first
          | exact ⟨h1.1, by simp; omega⟩
          | exact ⟨h1.1, by simp [ByteArray.size_extract]; omega⟩
theorem tokR_empty {s : ByteArray} {p : Nat} : (tokR s p).2.2 = false → (tokR s p).1 = .empty := by
  unfold tokR
  dsimp only
  repeat' split
  all_goals first
    | (intro _; rfl)
    | (intro h; cases h)
theorem nextR_ok {s : ByteArray} {p : Nat} (ht : (tokR s p).1 ≠ .empty) : nextR s ⟨p, none⟩ = ((tokR s p).1, ⟨(tokR s p).2.1 + (tokR s p).1.size, none⟩) := by
  unfold nextR
  dsimp only
  rw [if_neg]
  rintro (h | h)
  · exact ht (tokR_empty h)
  · exact ht h
theorem RS.fail_p (at' : Nat) (r : RS) : (r.fail at').p = r.p := by obtain ⟨p, f⟩ := r; cases f <;> rfl
theorem nextR_le {s : ByteArray} {r : RS} (hp : r.p ≤ s.size) : r.p ≤ (nextR s r).2.p ∧ (nextR s r).2.p ≤ s.size := by
  have hat := tokR_at (s := s) hp
  obtain ⟨p, f⟩ := r
  simp only at hp hat
  unfold nextR
  dsimp only
  split
  · rw [RS.fail_p]; exact ⟨Nat.le_refl _, hp⟩
  · cases f with
    | none => dsimp only; exact ⟨by omega, hat.2⟩
    | some a => exact ⟨Nat.le_refl _, hp⟩
theorem takeR_le {s w : ByteArray} {r : RS} (hp : r.p ≤ s.size) : r.p ≤ (takeR s w r).p ∧ (takeR s w r).p ≤ s.size := by
  have hat := tokR_at (s := s) hp
  obtain ⟨p, f⟩ := r
  simp only at hp hat
  unfold takeR
  dsimp only
  split
  · rw [RS.fail_p]; exact ⟨Nat.le_refl _, hp⟩
  · cases f with
    | none => dsimp only; exact ⟨by omega, hat.2⟩
    | some a => exact ⟨Nat.le_refl _, hp⟩
theorem levelR_le {s : ByteArray} : ∀ (n : Nat) {r : RS}, r.p ≤ s.size → r.p ≤ (levelR n s r).2.p ∧ (levelR n s r).2.p ≤ s.size := by
  intro n
  induction n with
  | zero => intro r hp; exact ⟨Nat.le_refl _, hp⟩
  | succ n ih =>
    intro r hp
    obtain ⟨p, f⟩ := r
    simp only at hp
    cases f with
    | some a => exact ⟨Nat.le_refl _, hp⟩
    | none =>
      have h1 := nextR_le (s := s) (r := ⟨p, none⟩) hp
      have h2 := nextR_le (s := s) (r := (nextR s ⟨p, none⟩).2) h1.2
      have h3 := ih h2.2
      have h4 := ih h3.2
      simp only at h1
      simp only [levelR]
      split
      · exact h1
      · split
        · exact h1
        · split
          · split
            · rw [RS.fail_p]; exact h1
            · split
              · have h5 := takeR_le (s := s) (w := ⟨#[41]⟩) h3.2
                exact ⟨Nat.le_trans (m := (levelR n s (nextR s (nextR s ⟨p, none⟩).2).2).2.p) (by omega) h5.1, h5.2⟩
              · have h5 := takeR_le (s := s) (w := ⟨#[41]⟩) h4.2
                exact ⟨Nat.le_trans (m := (levelR n s (levelR n s (nextR s (nextR s ⟨p, none⟩).2).2).2).2.p) (by omega) h5.1, h5.2⟩
          · rw [RS.fail_p]; exact ⟨Nat.le_refl _, hp⟩
section
variable {s : ByteArray} {p n : Nat}
theorem levelR_zero (h5 : (tokR s p).1 = ⟨#[48]⟩) : levelR (n + 1) s ⟨p, none⟩ = (zeroL, (nextR s ⟨p, none⟩).2) := by simp only [levelR]; rw [if_pos h5]
theorem levelR_name (h5 : ¬ (tokR s p).1 = ⟨#[48]⟩) (h7 : isNameB (tokR s p).1 = true) : levelR (n + 1) s ⟨p, none⟩ = (.mk 4 (tokR s p).1 [], (nextR s ⟨p, none⟩).2) := by simp only [levelR]; rw [if_neg h5, if_pos h7]
theorem levelR_kind (h5 : ¬ (tokR s p).1 = ⟨#[48]⟩) (h7 : isNameB (tokR s p).1 = false) (h10 : (tokR s p).1 = ⟨#[40]⟩) (h21 : kindR (tokR s (nextR s ⟨p, none⟩).2.p).1 = 0) :
    levelR (n + 1) s ⟨p, none⟩ = (zeroL, (nextR s ⟨p, none⟩).2.fail (tokR s (nextR s ⟨p, none⟩).2.p).2.1) := by simp only [levelR]; rw [if_neg h5, if_neg (by simp [h7]), if_pos h10, if_pos h21]
theorem levelR_one (h5 : ¬ (tokR s p).1 = ⟨#[48]⟩) (h7 : isNameB (tokR s p).1 = false) (h10 : (tokR s p).1 = ⟨#[40]⟩) (h27 : kindR (tokR s (nextR s ⟨p, none⟩).2.p).1 = 1) :
    levelR (n + 1) s ⟨p, none⟩ = (.mk 1 .empty [(levelR n s (nextR s (nextR s ⟨p, none⟩).2).2).1], takeR s ⟨#[41]⟩ (levelR n s (nextR s (nextR s ⟨p, none⟩).2).2).2) := by
  simp only [levelR]; rw [if_neg h5, if_neg (by simp [h7]), if_pos h10, if_neg (by omega), if_pos h27]
theorem levelR_two (h5 : ¬ (tokR s p).1 = ⟨#[48]⟩) (h7 : isNameB (tokR s p).1 = false) (h10 : (tokR s p).1 = ⟨#[40]⟩) (h21 : ¬ kindR (tokR s (nextR s ⟨p, none⟩).2.p).1 = 0) (h27 : ¬ kindR (tokR s (nextR s ⟨p, none⟩).2.p).1 = 1) :
    levelR (n + 1) s ⟨p, none⟩ = (.mk (kindR (tokR s (nextR s ⟨p, none⟩).2.p).1) .empty [(levelR n s (nextR s (nextR s ⟨p, none⟩).2).2).1, (levelR n s (levelR n s (nextR s (nextR s ⟨p, none⟩).2).2).2).1], takeR s ⟨#[41]⟩ (levelR n s (levelR n s (nextR s (nextR s ⟨p, none⟩).2).2).2).2) := by
  simp only [levelR]; rw [if_neg h5, if_neg (by simp [h7]), if_pos h10, if_neg h21, if_neg h27]
theorem levelR_else (h5 : ¬ (tokR s p).1 = ⟨#[48]⟩) (h7 : isNameB (tokR s p).1 = false) (h10 : ¬ (tokR s p).1 = ⟨#[40]⟩) : levelR (n + 1) s ⟨p, none⟩ = (zeroL, (RS.mk p none).fail (tokR s p).2.1) := by
  simp only [levelR]; rw [if_neg h5, if_neg (by simp [h7]), if_neg h10]
end
theorem parseR_bad {s : ByteArray} (h : ¬ s.size > 20000) (hf : ¬ fcode (doneR s (levelR (s.size + 1) s ⟨0, none⟩).2).f = 0) :
    parseR s = (zeroL, fcode (doneR s (levelR (s.size + 1) s ⟨0, none⟩).2).f, fat (doneR s (levelR (s.size + 1) s ⟨0, none⟩).2).f) := by
  unfold parseR
  rw [if_neg h]
  simp only
  cases hf2 : (doneR s (levelR (s.size + 1) s ⟨0, none⟩).2).f with
  | none => rw [hf2] at hf; exact absurd rfl hf
  | some a => rfl
theorem parseR_good {s : ByteArray} (h : ¬ s.size > 20000) (hf : fcode (doneR s (levelR (s.size + 1) s ⟨0, none⟩).2).f = 0) :
    parseR s = ((levelR (s.size + 1) s ⟨0, none⟩).1, fcode (doneR s (levelR (s.size + 1) s ⟨0, none⟩).2).f, fat (doneR s (levelR (s.size + 1) s ⟨0, none⟩).2).f) := by
  unfold parseR
  rw [if_neg h]
  simp only
  cases hf2 : (doneR s (levelR (s.size + 1) s ⟨0, none⟩).2).f with
  | none => rfl
  | some a => rw [hf2] at hf; cases hf
end Go.Vd
