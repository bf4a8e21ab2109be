/-
  What is proved here: what the reference's reader reads is a level.
-/
import Derived.Test.YtneaancanfpdhaaGreatDoorYR7
set_option linter.unusedSimpArgs false
set_option linter.unusedVariables false
namespace Go.Proofs.YtneaancanfpdhaaGreatDoor
open Go Go.Vd Go.RowKit
attribute [local irreducible] Runs OpsR OpR FloatR AnyR
variable {gl : Nat → List D}

theorem kindR_case (w : ByteArray) : kindR w = 0 ∨ ((kindR w = 1 ∨ kindR w = 2 ∨ kindR w = 3) ∧ w ≠ .empty) := by
  unfold kindR
  split
  · rename_i h; subst h; exact .inr ⟨.inl rfl, by decide⟩
  · split
    · rename_i h; subst h; exact .inr ⟨.inr (.inl rfl), by decide⟩
    · split
      · rename_i h; subst h; exact .inr ⟨.inr (.inr rfl), by decide⟩
      · exact .inl rfl

/-- what the reader reads is a level, and no greater than what it read -/
theorem levelR_lev {s : ByteArray} : ∀ (n : Nat) {r : RS}, r.p ≤ s.size → ∃ x : Lev, (levelR n s r).1 = x.toLvl ∧ fitP x.toLvl ∧ x.weight + 20 * r.p ≤ 10 + 20 * (levelR n s r).2.p := by
  have hz : fitP Lev.zero.toLvl := by simp [Lev.toLvl, fitP, fitL]
  have hzz : zeroL = Lev.zero.toLvl := rfl
  intro n
  induction n with
  | zero => intro r hp; exact ⟨.zero, rfl, hz, by simp [levelR, Lev.weight]⟩
  | succ n ih =>
    intro r hp
    obtain ⟨p, f⟩ := r
    simp only at hp
    cases f with
    | some a => exact ⟨.zero, rfl, hz, by simp [levelR, Lev.weight]⟩
    | none =>
      have hat := tokR_at (s := s) hp
      have h1 := nextR_le (s := s) (r := ⟨p, none⟩) hp
      have h2 := nextR_le (s := s) (r := (nextR s ⟨p, none⟩).2) h1.2
      have h3 := levelR_le n h2.2
      have h4 := levelR_le n h3.2
      obtain ⟨xa, ea, fa, wa⟩ := ih h2.2
      obtain ⟨xb, eb, fb, wb⟩ := ih h3.2
      have h5 := takeR_le (s := s) (w := ⟨#[41]⟩) h3.2
      have h6 := takeR_le (s := s) (w := ⟨#[41]⟩) h4.2
      simp only at h1
      by_cases c0 : (tokR s p).1 = ⟨#[48]⟩
      · rw [levelR_zero c0]; exact ⟨.zero, rfl, hz, by simp only [Lev.weight]; omega⟩
      cases c1 : isNameB (tokR s p).1 with
      | true =>
        have hne : (tokR s p).1 ≠ .empty := by
          intro e; rw [e] at c1; simp [isNameB] at c1
        rw [levelR_name c0 c1, nextR_ok hne]
        refine ⟨.param (tokR s p).1, rfl, by simp [Lev.toLvl, fitP, fitL, hne], ?_⟩
        simp only [Lev.weight]; omega
      | false =>
        by_cases c2 : (tokR s p).1 = ⟨#[40]⟩
        · have hne : (tokR s p).1 ≠ .empty := by rw [c2]; decide
          have hp1 : p + 1 ≤ (nextR s ⟨p, none⟩).2.p := by
            rw [nextR_ok hne]
            have : (tokR s p).1.size = 1 := by rw [c2]; rfl
            simp only; omega
          rcases kindR_case (tokR s (nextR s ⟨p, none⟩).2.p).1 with hk | ⟨hk, hne2⟩
          · rw [levelR_kind c0 c1 c2 hk]
            exact ⟨.zero, rfl, hz, by simp only [Lev.weight, RS.fail_p]; omega⟩
          · have hp2 : (nextR s ⟨p, none⟩).2.p + 1 ≤ (nextR s (nextR s ⟨p, none⟩).2).2.p := by
              have h7 : nextR s ⟨p, none⟩ = ((tokR s p).1, ⟨(tokR s p).2.1 + (tokR s p).1.size, none⟩) := nextR_ok hne
              rw [h7] at hne2 ⊢
              simp only at hne2 ⊢
              rw [nextR_ok hne2]
              have h8 := tokR_at (s := s) (p := (tokR s p).2.1 + (tokR s p).1.size) hat.2
              have h9 := size_pos_of_ne hne2
              simp only; omega
            rcases hk with hk | hk | hk
            · rw [levelR_one c0 c1 c2 hk, ea]
              refine ⟨.succ xa, rfl, by simp [Lev.toLvl, fitP, fitL, fa], ?_⟩
              simp only [Lev.weight]; omega
            · rw [levelR_two c0 c1 c2 (by omega) (by omega), ea, eb, hk]
              refine ⟨.max xa xb, rfl, by simp [Lev.toLvl, fitP, fitL, fa, fb], ?_⟩
              simp only [Lev.weight]; omega
            · rw [levelR_two c0 c1 c2 (by omega) (by omega), ea, eb, hk]
              refine ⟨.imax xa xb, rfl, by simp [Lev.toLvl, fitP, fitL, fa, fb], ?_⟩
              simp only [Lev.weight]; omega
        · rw [levelR_else c0 c1 c2]
          exact ⟨.zero, rfl, hz, by simp only [Lev.weight, RS.fail_p]; omega⟩

theorem parseR_lev (s : ByteArray) : ∃ x : Lev, (parseR s).1 = x.toLvl ∧ fitP x.toLvl ∧ x.weight ≤ 400010 := by
  have hz : fitP Lev.zero.toLvl := by simp [Lev.toLvl, fitP, fitL]
  unfold parseR
  split
  · exact ⟨.zero, rfl, hz, by decide⟩
  · rename_i h
    obtain ⟨x, e, f, w⟩ := levelR_lev (s := s) (s.size + 1) (r := ⟨0, none⟩) (Nat.zero_le _)
    have h2 := levelR_le (s := s) (s.size + 1) (r := ⟨0, none⟩) (Nat.zero_le _)
    dsimp only
    split
    · exact ⟨x, e, f, by simp only at w; omega⟩
    · exact ⟨.zero, rfl, hz, by decide⟩
end Go.Proofs.YtneaancanfpdhaaGreatDoor
