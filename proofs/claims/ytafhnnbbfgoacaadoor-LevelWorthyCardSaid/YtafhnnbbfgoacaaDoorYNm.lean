/-
  What is proved here: of what the reader reads: names, weights.
-/
import Derived.Test.YtafhnnbbfgoacaaDoorYRD
import Derived.Test.YtafhnnbbfgoacaaDoorYPrint
namespace Go.Proofs.YtafhnnbbfgoacaaDoor
open Go Go.Vd Go.RowKit

theorem zero_nm {x : Lev} (h : zeroL = x.toLvl) : ∀ w, x.has w → okName w := by
  cases x <;> simp [zeroL, Lev.toLvl] at h
  intro w hw; exact hw.elim
theorem levelR_nm {s : ByteArray} : ∀ (n : Nat) {r : RS}, r.p ≤ s.size → ∀ x : Lev, (levelR n s r).1 = x.toLvl → ∀ w, x.has w → okName w := by
  intro n
  induction n with
  | zero => intro r hp x h; exact zero_nm h
  | succ n ih =>
    intro r hp x h
    obtain ⟨p, f⟩ := r
    simp only at hp
    cases f with
    | some a => exact zero_nm h
    | none =>
      have h1 := nextR_le (s := s) (r := ⟨p, none⟩) hp
      have h2 := nextR_le (s := s) (r := (nextR s ⟨p, none⟩).2) h1.2
      have h3 := levelR_le n h2.2
      by_cases c0 : (tokR s p).1 = ⟨#[48]⟩
      · rw [levelR_zero c0] at h; exact zero_nm h
      cases c1 : isNameB (tokR s p).1 with
      | true =>
        rw [levelR_name c0 c1] at h
        cases x <;> simp [Lev.toLvl] at h
        intro w hw
        have e : w = _ := hw
        rw [e, ← h]
        exact tok_okName hp c1
      | false =>
        by_cases c2 : (tokR s p).1 = ⟨#[40]⟩
        · rcases kindR_case (tokR s (nextR s ⟨p, none⟩).2.p).1 with hk | ⟨hk, hne2⟩
          · rw [levelR_kind c0 c1 c2 hk] at h; exact zero_nm h
          · rcases hk with hk | hk | hk
            · rw [levelR_one c0 c1 c2 hk] at h
              cases x <;> simp [Lev.toLvl] at h
              intro w hw; exact ih h2.2 _ h w hw
            · rw [levelR_two c0 c1 c2 (by omega) (by omega), hk] at h
              cases x <;> simp [Lev.toLvl] at h
              intro w hw
              rcases hw with hw | hw
              · exact ih h2.2 _ h.1 w hw
              · exact ih h3.2 _ h.2 w hw
            · rw [levelR_two c0 c1 c2 (by omega) (by omega), hk] at h
              cases x <;> simp [Lev.toLvl] at h
              intro w hw
              rcases hw with hw | hw
              · exact ih h2.2 _ h.1 w hw
              · exact ih h3.2 _ h.2 w hw
        · rw [levelR_else c0 c1 c2] at h; exact zero_nm h
theorem parseR_nm (s : ByteArray) : ∃ x : Lev, (parseR s).1 = x.toLvl ∧ fitP x.toLvl ∧ x.weight ≤ 10 + 20 * s.size ∧ ∀ w, x.has w → okName w := by
  have hz : fitP Lev.zero.toLvl := by simp [Lev.toLvl, fitP, fitL]
  have h0 : ∃ x : Lev, zeroL = x.toLvl ∧ fitP x.toLvl ∧ x.weight ≤ 10 + 20 * s.size ∧ ∀ w, x.has w → okName w := ⟨.zero, rfl, hz, by simp only [Lev.weight]; omega, fun w h => h.elim⟩
  unfold parseR
  split
  · exact h0
  · obtain ⟨x, e, f, w⟩ := levelR_lev (s := s) (s.size + 1) (r := ⟨0, none⟩) (Nat.zero_le _)
    have h2 := levelR_le (s := s) (s.size + 1) (r := ⟨0, none⟩) (Nat.zero_le _)
    dsimp only
    split
    · exact ⟨x, e, f, by simp only at w; omega, levelR_nm _ (Nat.zero_le _) x e⟩
    · exact h0
end Go.Proofs.YtafhnnbbfgoacaaDoor
