/-
  What is proved here: what is printed of a level is read again as that level. No program in sight.
-/
import Derived.Test.YtneaancanfpdhaaGreatDoorYRead
import Derived.Test.YtneaancanfpdhaaGreatDoorYForm
namespace Go.Vd
open Go Go.RowKit

theorem byteAt_append (u v : ByteArray) (i : Nat) : byteAt (u ++ v) i = if i < u.size then byteAt u i else byteAt v (i - u.size) := by
  unfold byteAt
  have e : (u ++ v).data = u.data ++ v.data := by simp
  rw [e]
  simp only [Array.getD_eq_getD_getElem?, Array.getElem?_append]
  have : u.size = u.data.size := rfl
  rw [this]
  split <;> rfl
theorem byteAt_extract (s : ByteArray) {p q i : Nat} (h : p + i < q) (hq : q ≤ s.size) : byteAt (s.extract p q) i = byteAt s (p + i) := by
  unfold byteAt
  have e : (s.extract p q).data = s.data.extract p q := by simp
  rw [e]
  have hs : s.size = s.data.size := rfl
  simp only [Array.getD_eq_getD_getElem?, Array.getElem?_extract]
  rw [if_pos (by omega)]
theorem byteAt_inj {a b : ByteArray} (h : a.size = b.size) (hb : ∀ i, i < a.size → byteAt a i = byteAt b i) : a = b := by
  apply ByteArray.ext
  apply Array.ext
  · exact h
  · intro i h1 h2
    have := hb i h1
    unfold byteAt at this
    simp only [Array.getD_eq_getD_getElem?, Array.getElem?_eq_getElem h1, Array.getElem?_eq_getElem h2, Option.getD_some] at this
    exact UInt8.toNat.inj (by omega)

/-- a text stands in another one -/
structure At (T : ByteArray) (p : Nat) (w : ByteArray) : Prop where
  le : p + w.size ≤ T.size
  eq : ∀ i, i < w.size → byteAt T (p + i) = byteAt w i
theorem At.self (T : ByteArray) : At T 0 T := ⟨by omega, fun i _ => by rw [Nat.zero_add]⟩
theorem At.left {T u v : ByteArray} {p : Nat} (h : At T p (u ++ v)) : At T p u := by
  have hs : (u ++ v).size = u.size + v.size := ByteArray.size_append
  refine ⟨by have := h.le; omega, fun i hi => ?_⟩
  rw [h.eq i (by omega), byteAt_append, if_pos hi]
theorem At.right {T u v : ByteArray} {p : Nat} (h : At T p (u ++ v)) : At T (p + u.size) v := by
  have hs : (u ++ v).size = u.size + v.size := ByteArray.size_append
  refine ⟨by have := h.le; omega, fun i hi => ?_⟩
  have := h.eq (u.size + i) (by omega)
  rw [byteAt_append, if_neg (by omega), Nat.add_sub_cancel_left] at this
  rw [← this, Nat.add_assoc]
theorem At.extract {T w : ByteArray} {p : Nat} (h : At T p w) : T.extract p (p + w.size) = w := by
  have hle := h.le
  have hs : (T.extract p (p + w.size)).size = w.size := by rw [ByteArray.size_extract]; omega
  refine byteAt_inj hs fun i hi => ?_
  rw [byteAt_extract T (by omega) (by omega), h.eq i (by omega)]
theorem At.one {T : ByteArray} {p : Nat} {c : UInt8} (h : At T p ⟨#[c]⟩) : p < T.size ∧ byteAt T p = c.toNat := by
  have h1 := h.le
  have h2 := h.eq 0 (show 0 < 1 from Nat.one_pos)
  have hs : (ByteArray.mk #[c]).size = 1 := rfl
  rw [hs] at h1
  exact ⟨by omega, by rw [Nat.add_zero] at h2; rw [h2]; rfl⟩

theorem spanB_all {f : Int → Bool} {s : ByteArray} : ∀ {p j : Nat}, p ≤ j → j < spanB f s p → f (byteAt s j) = true := by
  intro p
  induction h : s.size - p generalizing p with
  | zero =>
    intro j h1 h2
    rw [spanB_end (by omega)] at h2; omega
  | succ n ih =>
    intro j h1 h2
    by_cases hc : p < s.size ∧ f (byteAt s p) = true
    · rw [spanB_step hc.1 hc.2] at h2
      rcases Nat.eq_or_lt_of_le h1 with rfl | h3
      · exact hc.2
      · exact ih (by omega) (by omega) h2
    · rw [spanB_end hc] at h2; omega
theorem spanB_to {f : Int → Bool} {s : ByteArray} : ∀ {p q : Nat}, p ≤ q → q ≤ s.size → (∀ j, p ≤ j → j < q → f (byteAt s j) = true) → (q = s.size ∨ f (byteAt s q) = false) → spanB f s p = q := by
  intro p q
  induction h : q - p generalizing p with
  | zero =>
    intro h1 h2 _ h4
    obtain rfl : p = q := by omega
    exact spanB_end (by rintro ⟨h5, h6⟩; rcases h4 with h4 | h4; omega; rw [h4] at h6; cases h6)
  | succ n ih =>
    intro h1 h2 h3 h4
    rw [spanB_step (by omega) (h3 p (by omega) (by omega))]
    exact ih (by omega) (by omega) h2 (fun j hj hq => h3 j (by omega) hq) h4

/-- a name as a token -/
structure okName (w : ByteArray) : Prop where
  ne : 0 < w.size
  le : w.size ≤ 40
  first : nameB (byteAt w 0) true = true
  rest : ∀ i, i < w.size → nameB (byteAt w i) false = true
/-- behind a token -/
def Dl (T : ByteArray) (q : Nat) : Prop := q = T.size ∨ (q < T.size ∧ (byteAt T q = 32 ∨ byteAt T q = 41))
theorem tok_same {T : ByteArray} {p q : Nat} (h : spanB wsB T p = spanB wsB T q) : tokR T p = tokR T q := by unfold tokR; simp only [h]
theorem tok_space {T : ByteArray} {p : Nat} (hp : p < T.size) (h : byteAt T p = 32) : tokR T p = tokR T (p + 1) := tok_same (spanB_step hp (by rw [h]; decide))
theorem at_paren {T : ByteArray} {p : Nat} {c : UInt8} (h : At T p ⟨#[c]⟩) (hc : c = 40 ∨ c = 41) : tokR T p = (⟨#[c]⟩, p, true) := by
  obtain ⟨h1, h2⟩ := h.one
  have hw : spanB wsB T p = p := spanB_end (by rintro ⟨_, h4⟩; rw [h2] at h4; rcases hc with rfl | rfl <;> exact absurd h4 (by decide))
  rw [tok_par hw h1 (by rw [h2]; rcases hc with rfl | rfl <;> simp)]
  have := h.extract
  rw [show (ByteArray.mk #[c]).size = 1 from rfl] at this
  rw [this]
theorem at_name {T w : ByteArray} {p : Nat} (h : At T p w) (hw : okName w) (hd : Dl T (p + w.size)) : tokR T p = (w, p, true) := by
  have h0 := h.eq 0 hw.ne
  rw [Nat.add_zero] at h0
  have hle := h.le
  have hne := hw.ne
  have hf := hw.first
  rw [← h0] at hf
  have hf' := hf
  simp only [nameB, decide_eq_true_eq] at hf'
  have hsp : spanB wsB T p = p := spanB_end (by rintro ⟨_, h4⟩; simp [wsB] at h4; omega)
  have hq : spanB (nameB · false) T (p + 1) = p + w.size := spanB_to (by omega) hle (fun j h1 h2 => by
      have := h.eq (j - p) (by omega)
      rw [show p + (j - p) = j by omega] at this
      rw [this]; exact hw.rest _ (by omega)) (hd.imp (fun h => h) fun ⟨_, h⟩ => by rcases h with h | h <;> rw [h] <;> decide)
  rw [tok_name hsp (by omega) (by omega) hf hq (by have := hw.le; omega), h.extract]
theorem at_zero {T : ByteArray} {p : Nat} (h : At T p ⟨#[48]⟩) (hd : Dl T (p + 1)) : tokR T p = (⟨#[48]⟩, p, true) := by
  obtain ⟨h1, h2⟩ := h.one
  have h2' : byteAt T p = 48 := h2
  have hsp : spanB wsB T p = p := spanB_end (by rintro ⟨_, h4⟩; rw [h2'] at h4; exact absurd h4 (by decide))
  have hq : spanB digB T (p + 1) = p + 1 := spanB_end (by
    rintro ⟨h3, h4⟩
    rcases hd with h5 | ⟨_, h5 | h5⟩
    · omega
    · rw [h5] at h4; exact absurd h4 (by decide)
    · rw [h5] at h4; exact absurd h4 (by decide))
  rw [tok_num (d := p) hsp h1 (by omega) (by rw [h2']; decide) (by omega) hq (if_neg (by omega)) (by omega)]
  have := h.extract
  rw [show (ByteArray.mk #[48]).size = 1 from rfl] at this
  rw [this]
theorem okName_lit {w : ByteArray} (h : (decide (0 < w.size) && decide (w.size ≤ 40) && nameB (byteAt w 0) true && (List.range w.size).all fun i => nameB (byteAt w i) false) = true) : okName w := by
  simp only [Bool.and_eq_true, decide_eq_true_eq, List.all_eq_true, List.mem_range] at h
  exact ⟨h.1.1.1, h.1.1.2, h.1.2, h.2⟩
theorem next_at {T : ByteArray} {p' p : Nat} {w : ByteArray} (h : tokR T p' = (w, p, true)) (hw : 0 < w.size) : nextR T ⟨p', none⟩ = (w, ⟨p + w.size, none⟩) := by
  have hne : (tokR T p').1 ≠ .empty := by rw [h]; intro e; rw [show w = .empty from e] at hw; simp at hw
  rw [nextR_ok hne, h]

theorem okName.isName {w : ByteArray} (h : okName w) : isNameB w = true := by
  unfold isNameB
  rw [h.first]
  have : w ≠ .empty := fun e => by have := h.ne; rw [e] at this; simp at this
  simp [this]
theorem okName.ne_of {w v : ByteArray} (h : okName w) (hv : isNameB v = false) : w ≠ v := fun e => by rw [e] at h; rw [h.isName] at hv; cases hv

theorem print_ge (l : Lev) (h : ∀ w, l.has w → okName w) : l.size ≤ l.print.size := by
  induction l with
  | zero => decide
  | param s => have := (h s rfl).ne; simp only [Lev.size, Lev.print]; omega
  | succ a ih =>
    have := ih h
    simp only [Lev.size, Lev.print, ByteArray.size_append, size_mk, List.size_toArray, List.length_cons, List.length_nil]; omega
  | max a b iha ihb =>
    have := iha fun w hw => h w (.inl hw)
    have := ihb fun w hw => h w (.inr hw)
    simp only [Lev.size, Lev.print, ByteArray.size_append, size_mk, List.size_toArray, List.length_cons, List.length_nil]; omega
  | imax a b iha ihb =>
    have := iha fun w hw => h w (.inl hw)
    have := ihb fun w hw => h w (.inr hw)
    simp only [Lev.size, Lev.print, ByteArray.size_append, size_mk, List.size_toArray, List.length_cons, List.length_nil]; omega

theorem take_at {T : ByteArray} {q : Nat} (h : At T q ⟨#[41]⟩) : takeR T ⟨#[41]⟩ ⟨q, none⟩ = ⟨q + 1, none⟩ := by
  have ht := at_paren h (.inr rfl)
  unfold takeR
  dsimp only
  rw [ht]
  rw [if_neg (by simp)]
  rfl
theorem dl_space {T : ByteArray} {q : Nat} (h : At T q ⟨#[32]⟩) : Dl T q := .inr ⟨h.one.1, .inl h.one.2⟩
theorem dl_close {T : ByteArray} {q : Nat} (h : At T q ⟨#[41]⟩) : Dl T q := .inr ⟨h.one.1, .inr h.one.2⟩

/-- two parts, behind a word -/
theorem read_two {T w : ByteArray} {n p p' : Nat} {k : Int} {la lb : Lev} (hk : kindR w = k) (hk0 : k = 2 ∨ k = 3) (hw : okName w)
    (iha : ∀ (m p p' : Nat), la.size < m → tokR T p' = tokR T p → At T p la.print → Dl T (p + la.print.size) → levelR m T ⟨p', none⟩ = (la.toLvl, ⟨p + la.print.size, none⟩))
    (ihb : ∀ (m p p' : Nat), lb.size < m → tokR T p' = tokR T p → At T p lb.print → Dl T (p + lb.print.size) → levelR m T ⟨p', none⟩ = (lb.toLvl, ⟨p + lb.print.size, none⟩))
    (hs : 1 + la.size + lb.size < n) (ht : tokR T p' = tokR T p) (h : At T p (⟨#[40]⟩ ++ w ++ ⟨#[32]⟩ ++ la.print ++ ⟨#[32]⟩ ++ lb.print ++ ⟨#[41]⟩)) :
    levelR n T ⟨p', none⟩ = (.mk k .empty [la.toLvl, lb.toLvl], ⟨p + (3 + w.size + la.print.size + lb.print.size + 1), none⟩) := by
  obtain ⟨n, rfl⟩ : ∃ m, n = m + 1 := ⟨n - 1, by omega⟩
  have s1 : (ByteArray.mk #[40]).size = 1 := rfl
  have s2 : (ByteArray.mk #[32]).size = 1 := rfl
  have a7 := h.right
  have a6 := h.left.right
  have a5 := h.left.left.right
  have a4 := h.left.left.left.right
  have a3 := h.left.left.left.left.right
  have a2 := h.left.left.left.left.left.right
  have a1 := h.left.left.left.left.left.left
  simp only [ByteArray.size_append, s1, s2] at a2 a3 a4 a5 a6 a7
  have t1 := at_paren a1 (.inl rfl)
  have hp : tokR T p' = (⟨#[40]⟩, p, true) := ht.trans t1
  have e1 : (nextR T ⟨p', none⟩).2 = ⟨p + 1, none⟩ := by rw [next_at hp (by decide)]; rfl
  have a3' : At T (p + 1 + w.size) ⟨#[32]⟩ := by rw [Nat.add_assoc]; exact a3
  have t2 := at_name a2 hw (dl_space a3')
  have e2 : (nextR T ⟨p + 1, none⟩).2 = ⟨p + 1 + w.size, none⟩ := by rw [next_at t2 hw.ne]
  have t3 := tok_space a3'.one.1 a3'.one.2
  have a4' : At T (p + 1 + w.size + 1) la.print := by rw [show p + 1 + w.size + 1 = p + (1 + w.size + 1) by omega]; exact a4
  have a5' : At T (p + 1 + w.size + 1 + la.print.size) ⟨#[32]⟩ := by rw [show p + 1 + w.size + 1 + la.print.size = p + (1 + w.size + 1 + la.print.size) by omega]; exact a5
  have r1 := iha n (p + 1 + w.size + 1) (p + 1 + w.size) (by omega) t3 a4' (dl_space a5')
  have t4 := tok_space a5'.one.1 a5'.one.2
  have a6' : At T (p + 1 + w.size + 1 + la.print.size + 1) lb.print := by rw [show p + 1 + w.size + 1 + la.print.size + 1 = p + (1 + w.size + 1 + la.print.size + 1) by omega]; exact a6
  have a7' : At T (p + 1 + w.size + 1 + la.print.size + 1 + lb.print.size) ⟨#[41]⟩ := by rw [show p + 1 + w.size + 1 + la.print.size + 1 + lb.print.size = p + (1 + w.size + 1 + la.print.size + 1 + lb.print.size) by omega]; exact a7
  have r2 := ihb n (p + 1 + w.size + 1 + la.print.size + 1) (p + 1 + w.size + 1 + la.print.size) (by omega) t4 a6' (dl_close a7')
  have c0 : ¬ (tokR T p').1 = ⟨#[48]⟩ := by rw [hp]; exact (by decide : ¬ ByteArray.mk #[40] = ⟨#[48]⟩)
  have c1 : isNameB (tokR T p').1 = false := by rw [hp]; exact (by decide +kernel : isNameB ⟨#[40]⟩ = false)
  have c2 : (tokR T p').1 = ⟨#[40]⟩ := by rw [hp]
  have hkk : kindR (tokR T (nextR T ⟨p', none⟩).2.p).1 = k := by rw [e1]; simp only; rw [t2]; exact hk
  rw [levelR_two c0 c1 c2 (by rw [hkk]; omega) (by rw [hkk]; omega), hkk, e1, e2, r1]
  simp only
  rw [r2]
  simp only
  rw [take_at a7']
  congr 2
  omega
theorem levelR_print {T : ByteArray} : ∀ (l : Lev), (∀ w, l.has w → okName w) → ∀ (n p p' : Nat), l.size < n → tokR T p' = tokR T p → At T p l.print → Dl T (p + l.print.size) → levelR n T ⟨p', none⟩ = (l.toLvl, ⟨p + l.print.size, none⟩) := by
  intro l
  induction l with
  | zero =>
    intro _ n p p' hn ht h hd
    obtain ⟨n, rfl⟩ : ∃ m, n = m + 1 := ⟨n - 1, by omega⟩
    have hp := ht.trans (at_zero h hd)
    rw [levelR_zero (by rw [hp]), next_at hp (by decide)]
    rfl
  | param s =>
    intro hw n p p' hn ht h hd
    obtain ⟨n, rfl⟩ : ∃ m, n = m + 1 := ⟨n - 1, by omega⟩
    have hs := hw s rfl
    have hp := ht.trans (at_name (w := s) h hs hd)
    rw [levelR_name (by rw [hp]; exact hs.ne_of (by decide +kernel)) (by rw [hp]; exact hs.isName), next_at hp hs.ne, hp]
    rfl
  | succ a ih =>
    intro hw n p p' hn ht h hd
    obtain ⟨n, rfl⟩ : ∃ m, n = m + 1 := ⟨n - 1, by simp only [Lev.size] at hn; omega⟩
    simp only [Lev.size] at hn
    have h' : At T p (⟨#[40]⟩ ++ ⟨#[115]⟩ ++ ⟨#[32]⟩ ++ a.print ++ ⟨#[41]⟩) := h
    have s1 : (ByteArray.mk #[40]).size = 1 := rfl
    have s2 : (ByteArray.mk #[32]).size = 1 := rfl
    have s3 : (ByteArray.mk #[115]).size = 1 := rfl
    have a5 := h'.right
    have a4 := h'.left.right
    have a3 := h'.left.left.right
    have a2 := h'.left.left.left.right
    have a1 := h'.left.left.left.left
    simp only [ByteArray.size_append, s1, s2, s3] at a2 a3 a4 a5
    have hp : tokR T p' = (⟨#[40]⟩, p, true) := ht.trans (at_paren a1 (.inl rfl))
    have e1 : (nextR T ⟨p', none⟩).2 = ⟨p + 1, none⟩ := by rw [next_at hp (by decide)]; rfl
    have hws : okName ⟨#[115]⟩ := okName_lit (by decide +kernel)
    have t2 := at_name a2 hws (dl_space a3)
    have e2 : (nextR T ⟨p + 1, none⟩).2 = ⟨p + 1 + 1, none⟩ := by rw [next_at t2 hws.ne]; rfl
    have t3 := tok_space a3.one.1 a3.one.2
    have a5' : At T (p + (1 + 1 + 1) + a.print.size) ⟨#[41]⟩ := by rw [Nat.add_assoc]; exact a5
    have r1 := ih hw n (p + (1 + 1 + 1)) (p + 1 + 1) (by omega) t3 a4 (dl_close a5')
    have c0 : ¬ (tokR T p').1 = ⟨#[48]⟩ := by rw [hp]; exact (by decide : ¬ ByteArray.mk #[40] = ⟨#[48]⟩)
    have c1 : isNameB (tokR T p').1 = false := by rw [hp]; exact (by decide +kernel : isNameB ⟨#[40]⟩ = false)
    have c2 : (tokR T p').1 = ⟨#[40]⟩ := by rw [hp]
    have hkk : kindR (tokR T (nextR T ⟨p', none⟩).2.p).1 = 1 := by rw [e1]; simp only; rw [t2]; exact (by decide : kindR ⟨#[115]⟩ = 1)
    rw [levelR_one c0 c1 c2 hkk, e1, e2, r1]
    simp only
    rw [take_at a5']
    have hsz : (Lev.succ a).print.size = 3 + a.print.size + 1 := by
      simp only [Lev.print, ByteArray.size_append, size_mk, List.size_toArray, List.length_cons, List.length_nil]
    rw [hsz]
    simp only [Lev.toLvl]
    congr 2
    omega
  | max a b iha ihb =>
    intro hw n p p' hn ht h hd
    simp only [Lev.size] at hn
    rw [read_two (w := ⟨#[109, 97, 120]⟩) (k := 2) (la := a) (lb := b) (by decide) (.inl rfl) (okName_lit (by decide +kernel)) (iha fun w h => hw w (.inl h)) (ihb fun w h => hw w (.inr h)) hn ht h]
    have hsz : (Lev.max a b).print.size = 3 + 3 + a.print.size + b.print.size + 1 := by
      simp only [Lev.print, ByteArray.size_append, size_mk, List.size_toArray, List.length_cons, List.length_nil]; omega
    rw [hsz]
    rfl
  | imax a b iha ihb =>
    intro hw n p p' hn ht h hd
    simp only [Lev.size] at hn
    rw [read_two (w := ⟨#[105, 109, 97, 120]⟩) (k := 3) (la := a) (lb := b) (by decide) (.inr rfl) (okName_lit (by decide +kernel)) (iha fun w h => hw w (.inl h)) (ihb fun w h => hw w (.inr h)) hn ht h]
    have hsz : (Lev.imax a b).print.size = 3 + 4 + a.print.size + b.print.size + 1 := by
      simp only [Lev.print, ByteArray.size_append, size_mk, List.size_toArray, List.length_cons, List.length_nil]; omega
    rw [hsz]
    rfl
theorem parseR_print {l : Lev} (hw : ∀ w, l.has w → okName w) (hs : l.print.size ≤ 20000) : parseR l.print = (l.toLvl, 0, 0) := by
  have h1 := levelR_print (T := l.print) l hw (l.print.size + 1) 0 0 (by have := print_ge l hw; omega) rfl (At.self _) (.inl (by omega))
  rw [Nat.zero_add] at h1
  unfold parseR
  rw [if_neg (by omega), h1]
  have h2 : (doneR l.print ⟨l.print.size, none⟩).f = none := by
    unfold doneR
    dsimp only
    rw [tok_end (i := l.print.size) rfl rfl, if_neg (by simp)]
  simp only [h2]
/-- a name that was read -/
theorem tok_okName {s : ByteArray} {p : Nat} (hp : p ≤ s.size) (h : isNameB (tokR s p).1 = true) : okName (tokR s p).1 := by
  have h1 := spanB_le wsB s p hp
  unfold tokR at h ⊢
  simp only at h ⊢
  generalize hi : spanB wsB s p = i at h h1 ⊢
  split at h
  · simp [isNameB] at h
  rename_i hne
  rw [if_neg hne]
  have hil : i < s.size := by omega
  split at h
  · rename_i hpar
    have hb : byteAt (s.extract i (i + 1)) 0 = byteAt s i := byteAt_extract s (by omega) (by omega)
    simp only [isNameB, Bool.and_eq_true] at h
    rw [hb] at h
    have h2 := h.2
    simp only [nameB, decide_eq_true_eq] at h2
    omega
  rename_i hpar
  rw [if_neg hpar]
  have h2 : i + 1 ≤ s.size := by omega
  split at h
  · rename_i hnm
    rw [if_pos hnm]
    have h3 := spanB_le (nameB · false) s (i + 1) h2
    generalize hq : spanB (fun x => nameB x false) s (i + 1) = q at h h3 ⊢
    split at h
    · simp [isNameB] at h
    · rename_i hl
      rw [if_neg hl]
      have hsz : (s.extract i q).size = q - i := by rw [ByteArray.size_extract]; omega
      refine ⟨by rw [hsz]; omega, by rw [hsz]; omega, ?_, fun j hj => ?_⟩
      · rw [byteAt_extract s (by omega) h3.2]; exact hnm
      · rw [hsz] at hj
        rw [byteAt_extract s (by omega) h3.2]
        rcases Nat.eq_zero_or_pos j with rfl | hj0
        · rw [Nat.add_zero]
          simp [nameB] at hnm ⊢
          omega
        · exact spanB_all (f := fun x => nameB x false) (p := i + 1) (by omega) (by rw [hq]; omega)
  · rename_i hnm
    rw [if_neg hnm]
    have hbad : ∀ q, i < q → q ≤ s.size → isNameB (s.extract i q) = false := fun q h5 h6 => by
      unfold isNameB
      rw [byteAt_extract s (by omega) h6, Nat.add_zero]
      simp only [Bool.not_eq_true] at hnm
      rw [hnm]; simp
    have h4 := spanB_le digB s (i + 1) h2
    generalize (if byteAt s i = 35 then i + 1 else i) = d at h ⊢
    split at h
    · split at h
      · simp [isNameB] at h
      · rw [hbad _ (by omega) h4.2] at h; cases h
    · simp [isNameB] at h
end Go.Vd
