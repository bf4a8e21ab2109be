/-
  What is proved here: the program's way to compare levels, in plain words: forms, their meeting, what they say of levels under all numbers. No program in sight.
-/
import Derived.Test.YtneaancanfpdhaaGreatDoorYLevel
namespace Go.Vd
open Go Go.RowKit

abbrev MapF := ByteArray → Option Int
/-- a form's map, the greater ones taken -/
def putM (f : MapF) (s : ByteArray) (n : Int) : MapF := match f s with
  | none => updM f s n
  | some m => if n > m then updM f s n else f
def joinL (f : MapF) (up : Int) : List (ByteArray × Int) → MapF
  | [] => f
  | (s, n) :: r => putM (joinL f up r) s (n + up)
/-- .. all of g's -/
def joinM (f g : MapF) (up : Int) : MapF := fun p => match g p with
  | none => f p
  | some n => match f p with
    | none => some (n + up)
    | some m => if n + up > m then some (n + up) else some m
theorem putM_at {f : MapF} {s : ByteArray} {n : Int} (p : ByteArray) : putM f s n p = if p = s then (match f s with | none => some n | some m => if n > m then some n else some m) else f p := by
  unfold putM
  cases h : f s with
  | none => simp only [updM]
  | some m =>
    simp only
    by_cases h2 : n > m
    · simp only [if_pos h2, updM]
    · simp only [if_neg h2]
      by_cases h3 : p = s
      · rw [if_pos h3, h3, h]
      · rw [if_neg h3]
theorem joinL_get {f g : MapF} {up : Int} : ∀ {dn : List (ByteArray × Int)}, (dn.map Prod.fst).Nodup → (∀ p ∈ dn, g p.1 = some p.2) → ∀ p, (p ∈ dn.map Prod.fst → joinL f up dn p = joinM f g up p) ∧ (p ∉ dn.map Prod.fst → joinL f up dn p = f p)
  | [], _, _, p => by simp [joinL]
  | (s, n) :: r, hnd, hg, p => by
    simp only [List.map_cons, List.nodup_cons] at hnd
    have ih := fun q => joinL_get (f := f) (up := up) hnd.2 (fun q hq => hg q (List.mem_cons_of_mem _ hq)) q
    have hs : g s = some n := hg (s, n) List.mem_cons_self
    simp only [joinL, putM_at, List.map_cons, List.mem_cons]
    rw [(ih s).2 hnd.1]
    by_cases hp : p = s
    · subst hp
      refine ⟨fun _ => ?_, fun h => absurd (.inl rfl) h⟩
      rw [if_pos rfl]
      unfold joinM
      rw [hs]
    · rw [if_neg hp]
      exact ⟨fun h => (ih p).1 (h.resolve_left hp), fun h => (ih p).2 (fun e => h (.inr e))⟩
theorem joinL_all {f g : MapF} {up : Int} {dn : List (ByteArray × Int)} (hnd : (dn.map Prod.fst).Nodup) (hg : ∀ p ∈ dn, g p.1 = some p.2) (hall : ∀ s n, g s = some n → (s, n) ∈ dn) : joinL f up dn = joinM f g up := by
  funext p
  by_cases h : p ∈ dn.map Prod.fst
  · exact (joinL_get hnd hg p).1 h
  · rw [(joinL_get hnd hg p).2 h]
    unfold joinM
    cases hgp : g p with
    | none => rfl
    | some n => exact absurd (List.mem_map.2 ⟨_, hall p n hgp, rfl⟩) h
theorem joinL_bound {f : MapF} {up B : Int} (hf : ∀ p m, f p = some m → 0 ≤ m ∧ m ≤ B) : ∀ {dn : List (ByteArray × Int)}, (∀ p ∈ dn, 0 ≤ p.2 + up ∧ p.2 + up ≤ B) → ∀ p m, joinL f up dn p = some m → 0 ≤ m ∧ m ≤ B
  | [], _, p, m, h => hf p m h
  | (s, n) :: r, hd, p, m, h => by
    have ih := joinL_bound hf (fun q hq => hd q (List.mem_cons_of_mem _ hq))
    have h1 := hd (s, n) List.mem_cons_self
    simp only [joinL, putM_at] at h
    simp only at h1
    split at h
    · split at h
      · cases h; exact h1
      · rename_i m' hm
        split at h
        · cases h; exact h1
        · cases h; exact ih s _ hm
    · exact ih p m h
/-- what a form stands for -/
def IsVal (n : Int) (f : MapF) (σ : ByteArray → Int) (v : Int) : Prop :=
  n ≤ v ∧ (∀ p m, f p = some m → σ p + m ≤ v) ∧ (v = n ∨ ∃ p m, f p = some m ∧ v = σ p + m)
theorem IsVal.uniq {n : Int} {f : MapF} {σ : ByteArray → Int} {v w : Int} (h : IsVal n f σ v) (k : IsVal n f σ w) : v = w := by
  obtain ⟨h1, h2, h3⟩ := h
  obtain ⟨k1, k2, k3⟩ := k
  have a : v ≤ w := by
    rcases h3 with h3 | ⟨p, m, e, h3⟩
    · omega
    · have := k2 p m e; omega
  have b : w ≤ v := by
    rcases k3 with k3 | ⟨p, m, e, k3⟩
    · omega
    · have := h2 p m e; omega
  omega
theorem IsVal.join {n m up : Int} {f g : MapF} {σ : ByteArray → Int} {v w : Int} (h : IsVal n f σ v) (k : IsVal m g σ w) : IsVal (max n (m + up)) (joinM f g up) σ (max v (w + up)) := by
  obtain ⟨h1, h2, h3⟩ := h
  obtain ⟨k1, k2, k3⟩ := k
  refine ⟨by omega, fun p x hx => ?_, ?_⟩
  · unfold joinM at hx
    cases hg : g p with
    | none => rw [hg] at hx; have := h2 p x hx; omega
    | some a =>
      rw [hg] at hx
      have h4 := k2 p a hg
      cases hf : f p with
      | none => rw [hf] at hx; simp only [Option.some.injEq] at hx; omega
      | some b =>
        rw [hf] at hx
        have h5 := h2 p b hf
        simp only at hx
        split at hx <;> simp only [Option.some.injEq] at hx <;> omega
  · have hv : max v (w + up) = v ∧ w + up ≤ v ∨ max v (w + up) = w + up ∧ v ≤ w + up := by omega
    rcases hv with ⟨e, hle⟩ | ⟨e, hle⟩
    · rw [e]
      rcases h3 with h3 | ⟨p, x, hx, h3⟩
      · left; omega
      · right
        cases hg : g p with
        | none => exact ⟨p, x, by unfold joinM; rw [hg]; exact hx, h3⟩
        | some a =>
          have h4 := k2 p a hg
          exact ⟨p, x, by unfold joinM; rw [hg, hx]; simp only; rw [if_neg (by omega)], h3⟩
    · rw [e]
      rcases k3 with k3 | ⟨p, x, hx, k3⟩
      · left; omega
      · right
        cases hf : f p with
        | none => exact ⟨p, x + up, by unfold joinM; rw [hx, hf], by omega⟩
        | some b =>
          have h5 := h2 p b hf
          by_cases hgt : x + up > b
          · exact ⟨p, x + up, by unfold joinM; rw [hx, hf]; simp only; rw [if_pos hgt], by omega⟩
          · exact ⟨p, b, by unfold joinM; rw [hx, hf]; simp only; rw [if_neg hgt], by omega⟩

/-- a parameter of a level -/
def Lev.has : Lev → ByteArray → Prop
  | .zero, _ => False
  | .succ a, p => a.has p
  | .max a b, p => a.has p ∨ b.has p
  | .imax a b, p => a.has p ∨ b.has p
  | .param s, p => p = s
/-- names stand -/
def nmL (l : Lev) : Prop := ∀ p, l.has p → p ≠ .empty
/-- numbers that fit what is known of parameters -/
structure Fits (z o : MapF) (σ : ByteArray → Int) : Prop where
  pos : ∀ p, 0 ≤ σ p
  zero : ∀ p, z p ≠ none → σ p = 0
  one : ∀ p, o p ≠ none → 1 ≤ σ p
/-- maps that hold ones alone -/
def Ones (z : MapF) : Prop := ∀ p m, z p = some m → m = 1
def off (o : MapF) (σ : ByteArray → Int) : ByteArray → Int := fun p => σ p - (o p).getD 0

structure Bnd (l : Lev) (n : Int) (f : MapF) : Prop where
  n0 : 0 ≤ n
  n1 : n ≤ l.size
  f0 : ∀ p m, f p = some m → 0 ≤ m ∧ m ≤ l.size
  sup : ∀ p m, f p = some m → l.has p
structure Form (l : Lev) (z o : MapF) (n : Int) (f : MapF) : Prop where
  val : ∀ σ, Fits z o σ → IsVal n f (off o σ) (l.worth σ)
  z : ∀ p m, f p = some m → z p = none ∧ (o p).getD 0 ≤ m ∧ m ≤ n
  le : n ≤ l.succs + 1
  le0 : (∀ p, o p = none) → n ≤ l.succs
/-- what shape answers -/
structure Shape (l : Lev) (z o : MapF) (n : Int) (f : MapF) (q : ByteArray) : Prop where
  b : Bnd l n f
  ok : q = .empty → Form l z o n f
  no : q ≠ .empty → l.has q ∧ z q = none ∧ o q = none

theorem fits_pos {z o : MapF} (hz : Ones z) (ho : Ones o) {σ : ByteArray → Int} (h : Fits z o σ) (p : ByteArray) : 0 ≤ off o σ p := by
  unfold off
  cases hop : o p with
  | none => have := h.pos p; simp; omega
  | some m => have := ho p m hop; have := h.one p (by rw [hop]; simp); simp; omega
theorem Bnd.empty (l : Lev) : Bnd l 0 fun _ => none := ⟨Int.le_refl _, by omega, (fun p m h => by cases h), (fun p m h => by cases h)⟩
theorem lev_size_pos (l : Lev) : 1 ≤ l.size := by cases l <;> simp [Lev.size] <;> omega

/-- parameters -/
theorem shape_param {z o : MapF} (hz : Ones z) (ho : Ones o) (s : ByteArray) (h : z s = none) : Shape (.param s) z o ((o s).getD 0) (updM (fun _ => none) s ((o s).getD 0)) .empty := by
  have hos : (o s).getD 0 = 0 ∨ (o s).getD 0 = 1 := by
    cases hp : o s with
    | none => left; rfl
    | some m => right; exact ho s m hp
  have hu : ∀ p m, updM (fun _ => none) s ((o s).getD 0) p = some m → p = s ∧ m = (o s).getD 0 := fun p m e => by
    simp only [updM] at e
    split at e
    · rename_i hp; cases e; exact ⟨hp, rfl⟩
    · cases e
  have hs : updM (fun _ => none) s ((o s).getD 0) s = some ((o s).getD 0) := by simp [updM]
  refine ⟨⟨by omega, by simp only [Lev.size]; omega, fun p m e => ?_, fun p m e => ?_⟩, fun _ => ⟨fun σ hσ => ⟨?_, fun p m e => ?_, .inr ⟨s, _, hs, ?_⟩⟩, fun p m e => ?_, ?_, fun h0 => ?_⟩, fun hq => absurd rfl hq⟩
  · obtain ⟨rfl, rfl⟩ := hu p m e; simp only [Lev.size]; omega
  · obtain ⟨rfl, rfl⟩ := hu p m e; rfl
  · have := fits_pos hz ho hσ s
    simp only [off] at this
    simp only [Lev.worth]; omega
  · obtain ⟨rfl, rfl⟩ := hu p m e; simp only [off, Lev.worth]; omega
  · simp only [off, Lev.worth]; omega
  · obtain ⟨rfl, rfl⟩ := hu p m e; exact ⟨h, Int.le_refl _, Int.le_refl _⟩
  · simp only [Lev.succs]; omega
  · rw [h0 s]; simp [Lev.succs]
theorem shape_zeroed {z o : MapF} (s : ByteArray) (h : z s ≠ none) : Shape (.param s) z o 0 (fun _ => none) .empty :=
  ⟨Bnd.empty _, fun _ => ⟨fun σ hσ => ⟨by simp only [Lev.worth]; rw [hσ.zero s h]; omega, (fun p m e => by cases e), .inl (by simp only [Lev.worth]; exact hσ.zero s h)⟩, (fun p m e => by cases e), by omega, fun _ => by omega⟩, fun hq => absurd rfl hq⟩
theorem shape_zero {z o : MapF} : Shape .zero z o 0 (fun _ => none) .empty :=
  ⟨Bnd.empty _, fun _ => ⟨fun σ hσ => ⟨by simp [Lev.worth], (fun p m e => by cases e), .inl (by simp [Lev.worth])⟩, (fun p m e => by cases e), by omega, fun _ => by omega⟩, fun hq => absurd rfl hq⟩

theorem joinM_some {f g : MapF} {up : Int} {p : ByteArray} {m : Int} (h : joinM f g up p = some m) : f p = some m ∨ ∃ k, g p = some k ∧ m = k + up := by
  unfold joinM at h
  cases hg : g p with
  | none => rw [hg] at h; exact .inl h
  | some k =>
    rw [hg] at h
    cases hf : f p with
    | none => rw [hf] at h; cases h; exact .inr ⟨k, rfl, rfl⟩
    | some b =>
      rw [hf] at h
      simp only at h
      split at h
      · cases h; exact .inr ⟨k, rfl, rfl⟩
      · exact .inl h

theorem Lev.worth_nonneg {σ : ByteArray → Int} (h : ∀ p, 0 ≤ σ p) : ∀ l : Lev, 0 ≤ l.worth σ
  | .zero => by simp [Lev.worth]
  | .succ a => by have := a.worth_nonneg h; simp only [Lev.worth]; omega
  | .max a b => by have := a.worth_nonneg h; simp only [Lev.worth]; omega
  | .imax a b => by have := a.worth_nonneg h; have := b.worth_nonneg h; simp only [Lev.worth]; split <;> omega
  | .param s => h s
theorem isVal_zero (σ : ByteArray → Int) : IsVal 0 (fun _ => none) σ 0 := ⟨Int.le_refl _, (fun p m e => by cases e), .inl rfl⟩

/-- what the loop over the arguments holds: those that were looked at, the last one first -/
def PSL (up : Int) (z o : MapF) : List Lev → Int → MapF → Prop
  | [], n, f => n = 0 ∧ f = fun _ => none
  | a :: r, n, f => ∃ n0 f0 na fa, PSL up z o r n0 f0 ∧ Shape a z o na fa .empty ∧ n = max n0 (na + up) ∧ f = joinM f0 fa up
theorem PSL.bound {up M : Int} {z o : MapF} (hu : 0 ≤ up) (hM : 0 ≤ M) : ∀ {as : List Lev} {n : Int} {f : MapF}, PSL up z o as n f → (∀ a ∈ as, a.size + up ≤ M) → (0 ≤ n ∧ n ≤ M) ∧ (∀ p m, f p = some m → 0 ≤ m ∧ m ≤ M)
  | [], n, f, ⟨h1, h2⟩, _ => ⟨by omega, fun p m e => by rw [h2] at e; cases e⟩
  | a :: r, n, f, ⟨n0, f0, na, fa, h1, h2, h3, h4⟩, hs => by
    have ih := PSL.bound hu hM h1 (fun b hb => hs b (List.mem_cons_of_mem _ hb))
    have ha := hs a List.mem_cons_self
    have hb := h2.b.n0
    have hb1 := h2.b.n1
    refine ⟨by omega, fun p m e => ?_⟩
    rw [h4] at e
    rcases joinM_some e with e | ⟨k, ek, rfl⟩
    · exact ih.2 p m e
    · have := h2.b.f0 p k ek; omega
theorem PSL.sup {up : Int} {z o : MapF} : ∀ {as : List Lev} {n : Int} {f : MapF}, PSL up z o as n f → ∀ p m, f p = some m → ∃ a ∈ as, a.has p
  | [], n, f, ⟨h1, h2⟩, p, m, e => by rw [h2] at e; cases e
  | a :: r, n, f, ⟨n0, f0, na, fa, h1, h2, h3, h4⟩, p, m, e => by
    rw [h4] at e
    rcases joinM_some e with e | ⟨k, ek, rfl⟩
    · obtain ⟨b, hb, hp⟩ := h1.sup p m e; exact ⟨b, List.mem_cons_of_mem _ hb, hp⟩
    · exact ⟨a, List.mem_cons_self, h2.b.sup p k ek⟩
theorem join_form {a b c : Lev} {z o : MapF} {na nb : Int} {fa fb : MapF} (ha : Shape a z o na fa .empty) (hb : Shape b z o nb fb .empty) (hw : ∀ σ, Fits z o σ → c.worth σ = max (a.worth σ) (b.worth σ)) (hc : c.succs = a.succs + b.succs) :
    Form c z o (max (max 0 (na + 0)) (nb + 0)) (joinM (joinM (fun _ => none) fa 0) fb 0) := by
  have fa' := ha.ok rfl
  have fb' := hb.ok rfl
  have na0 := ha.b.n0
  have nb0 := hb.b.n0
  refine ⟨fun σ hσ => ?_, fun p m e => ?_, ?_, fun h0 => ?_⟩
  · have h1 := ((isVal_zero (off o σ)).join (up := 0) (fa'.val σ hσ)).join (up := 0) (fb'.val σ hσ)
    have w1 := a.worth_nonneg hσ.pos
    have w2 := b.worth_nonneg hσ.pos
    have e : max (max 0 (a.worth σ + 0)) (b.worth σ + 0) = c.worth σ := by rw [hw σ hσ]; omega
    rw [e] at h1; exact h1
  · rcases joinM_some e with e | ⟨k, ek, rfl⟩
    · rcases joinM_some e with e | ⟨k, ek, rfl⟩
      · cases e
      · have := fa'.z p k ek; exact ⟨this.1, by omega, by omega⟩
    · have := fb'.z p k ek; exact ⟨this.1, by omega, by omega⟩
  · have := fa'.le; have := fb'.le; omega
  · have := fa'.le0 h0; have := fb'.le0 h0; omega
theorem shape_succ {a : Lev} {z o : MapF} {n : Int} {f : MapF} (h : PSL 1 z o [a] n f) : Shape (.succ a) z o n f .empty := by
  have hb := h.bound (M := (Lev.succ a).size) (by omega) (by omega) (fun x hx => by simp at hx; subst hx; simp only [Lev.size]; omega)
  refine ⟨⟨hb.1.1, hb.1.2, hb.2, fun p m e => by obtain ⟨x, hx, hp⟩ := h.sup p m e; simp at hx; subst hx; exact hp⟩, fun _ => ?_, fun hq => absurd rfl hq⟩
  obtain ⟨n0, f0, na, fa, ⟨rfl, rfl⟩, h2, rfl, rfl⟩ := h
  have fa' := h2.ok rfl
  have na0 := h2.b.n0
  refine ⟨fun σ hσ => ?_, fun p m e => ?_, ?_, fun h0 => ?_⟩
  · have h1 := (isVal_zero (off o σ)).join (up := 1) (fa'.val σ hσ)
    have w1 := a.worth_nonneg hσ.pos
    have e : max 0 (a.worth σ + 1) = (Lev.succ a).worth σ := by simp only [Lev.worth]; omega
    rw [e] at h1; exact h1
  · rcases joinM_some e with e | ⟨k, ek, rfl⟩
    · cases e
    · have := fa'.z p k ek; exact ⟨this.1, by omega, by omega⟩
  · have := fa'.le; simp only [Lev.succs]; omega
  · have := fa'.le0 h0; simp only [Lev.succs]; omega
theorem shape_max {a b : Lev} {z o : MapF} {n : Int} {f : MapF} (h : PSL 0 z o [b, a] n f) : Shape (.max a b) z o n f .empty := by
  have hb := h.bound (M := (Lev.max a b).size) (by omega) (by omega) (fun x hx => by simp at hx; rcases hx with rfl | rfl <;> simp only [Lev.size] <;> omega)
  refine ⟨⟨hb.1.1, hb.1.2, hb.2, fun p m e => by obtain ⟨x, hx, hp⟩ := h.sup p m e; simp at hx; rcases hx with rfl | rfl; exact .inr hp; exact .inl hp⟩, fun _ => ?_, fun hq => absurd rfl hq⟩
  obtain ⟨n1, f1, nb, fb, ⟨n0, f0, na, fa, ⟨rfl, rfl⟩, h2, rfl, rfl⟩, h3, rfl, rfl⟩ := h
  exact join_form h2 h3 (fun σ hσ => by simp only [Lev.worth]) (by simp only [Lev.succs])
/-- an early end -/
theorem shape_early {l : Lev} {as : List Lev} {up : Int} {z o : MapF} {n : Int} {f : MapF} {q : ByteArray} (h : PSL up z o as n f) (hu : 0 ≤ up) (hs : ∀ a ∈ as, (a.size : Int) + up ≤ l.size ∧ ∀ p, a.has p → l.has p) (hq : q ≠ .empty) (hp : l.has q ∧ z q = none ∧ o q = none) : Shape l z o n f q := by
  have hb := h.bound (M := l.size) hu (by omega) (fun x hx => (hs x hx).1)
  exact ⟨⟨hb.1.1, hb.1.2, hb.2, fun p m e => by obtain ⟨x, hx, hxp⟩ := h.sup p m e; exact (hs x hx).2 p hxp⟩, fun e => absurd e hq, fun _ => hp⟩
/-- imax: what it hangs on is 0 -/
theorem shape_imax_zero {a b : Lev} {z o : MapF} {f : MapF} (hb : Shape b z o 0 f .empty) (he : ∀ p, f p = none) : Shape (.imax a b) z o 0 (fun _ => none) .empty := by
  refine ⟨Bnd.empty _, fun _ => ⟨fun σ hσ => ?_, (fun p m e => by cases e), by omega, fun _ => by omega⟩, fun hq => absurd rfl hq⟩
  have h1 := (hb.ok rfl).val σ hσ
  have hw : b.worth σ = 0 := by
    rcases h1.2.2 with h2 | ⟨p, m, e, _⟩
    · exact h2
    · rw [he p] at e; cases e
  have e : (Lev.imax a b).worth σ = 0 := by simp only [Lev.worth]; rw [if_pos hw]
  rw [e]; exact isVal_zero _
theorem shape_imax_at {a b : Lev} {z o : MapF} (ho : Ones o) {f : MapF} {q : ByteArray} {m : Int} (hb : Shape b z o 0 f .empty) (hq : f q = some m) (hn : q ≠ .empty) : Shape (.imax a b) z o 0 (fun _ => none) q := by
  refine ⟨Bnd.empty _, fun e => absurd e hn, fun _ => ⟨.inr (hb.b.sup q m hq), ?_⟩⟩
  have h1 := (hb.ok rfl).z q m hq
  refine ⟨h1.1, ?_⟩
  cases h2 : o q with
  | none => rfl
  | some k =>
    have := ho q k h2
    rw [h2] at h1
    simp at h1; omega
theorem shape_imax {a b : Lev} {z o : MapF} {na nb : Int} {fa fb : MapF} {q : ByteArray} (hb : Shape b z o nb fb .empty) (hn : ¬ nb = 0) (ha : Shape a z o na fa q) : Shape (.imax a b) z o (max (max 0 (nb + 0)) (na + 0)) (joinM (joinM (fun _ => none) fb 0) fa 0) q := by
  have nb0 := hb.b.n0
  have nb1 := hb.b.n1
  have na0 := ha.b.n0
  have na1 := ha.b.n1
  refine ⟨⟨by omega, by simp only [Lev.size]; omega, fun p m e => ?_, fun p m e => ?_⟩, fun e => ?_, fun hq => ?_⟩
  · rcases joinM_some e with e | ⟨k, ek, rfl⟩
    · rcases joinM_some e with e | ⟨k, ek, rfl⟩
      · cases e
      · have := hb.b.f0 p k ek; simp only [Lev.size]; omega
    · have := ha.b.f0 p k ek; simp only [Lev.size]; omega
  · rcases joinM_some e with e | ⟨k, ek, rfl⟩
    · rcases joinM_some e with e | ⟨k, ek, rfl⟩
      · cases e
      · exact .inr (hb.b.sup p k ek)
    · exact .inl (ha.b.sup p k ek)
  · subst e
    refine join_form hb ha (fun σ hσ => ?_) (by simp only [Lev.succs]; omega)
    have h1 := ((hb.ok rfl).val σ hσ).1
    simp only [Lev.worth]
    rw [if_neg (by omega)]; omega
  · obtain ⟨h1, h2⟩ := ha.no hq
    exact ⟨.inl h1, h2⟩
theorem shape_imax_b {a b : Lev} {z o : MapF} {nb : Int} {fb : MapF} {q : ByteArray} (hb : Shape b z o nb fb q) (hq : q ≠ .empty) : Shape (.imax a b) z o 0 (fun _ => none) q :=
  ⟨Bnd.empty _, fun e => absurd e hq, fun _ => by obtain ⟨h1, h2⟩ := hb.no hq; exact ⟨.inr h1, h2⟩⟩

/-! comparing -/
def FLe (n : Int) (f : MapF) (m : Int) (g : MapF) : Prop := (∀ p x, f p = some x → ∃ y, g p = some y ∧ x ≤ y) ∧ n ≤ m
/-- below under all numbers that fit -/
def Sem (z o : MapF) (a b : Lev) : Prop := ∀ σ, Fits z o σ → a.worth σ ≤ b.worth σ
theorem sem_of_fle {a b : Lev} {z o : MapF} {n m : Int} {f g : MapF} (ha : Form a z o n f) (hb : Form b z o m g) (h : FLe n f m g) : Sem z o a b := fun σ hσ => by
  have h1 := ha.val σ hσ
  have h2 := hb.val σ hσ
  rcases h1.2.2 with h3 | ⟨p, x, e, h3⟩
  · have := h2.1; have := h.2; omega
  · obtain ⟨y, hy, hxy⟩ := h.1 p x e
    have := h2.2.1 p y hy; omega
/-- the least numbers that fit, but for p -/
def leastAt (o : MapF) (p : ByteArray) (B : Int) : ByteArray → Int := fun q => (if q = p then B else 0) + (o q).getD 0
theorem leastAt_fits {z o : MapF} (hz : Ones z) (ho : Ones o) (hd : ∀ q, z q ≠ none → o q = none) {p : ByteArray} {B : Int} (hB : 0 ≤ B) (hp : B = 0 ∨ z p = none) : Fits z o (leastAt o p B) := by
  have h0 : ∀ q, 0 ≤ (o q).getD 0 := fun q => by
    cases h : o q with
    | none => simp
    | some m => have := ho q m h; simp; omega
  refine ⟨fun q => ?_, fun q hq => ?_, fun q hq => ?_⟩
  · have := h0 q; unfold leastAt; split <;> omega
  · unfold leastAt
    rw [hd q hq]
    split
    · rename_i e; subst e
      rcases hp with hp | hp
      · simp [hp]
      · exact absurd hp hq
    · simp
  · unfold leastAt
    cases h : o q with
    | none => exact absurd h hq
    | some m => have := ho q m h; simp; split <;> omega
theorem off_least (o : MapF) (p : ByteArray) (B : Int) (q : ByteArray) : off o (leastAt o p B) q = if q = p then B else 0 := by unfold off leastAt; omega
theorem fle_of_sem {a b : Lev} {z o : MapF} (hz : Ones z) (ho : Ones o) (hd : ∀ q, z q ≠ none → o q = none) {n m : Int} {f g : MapF} (ha : Form a z o n f) (hb : Form b z o m g) {B : ByteArray → Int} (hB : ∀ p, m < B p + (o p).getD 0 ∧ 0 ≤ B p)
    (h : ∀ p x, (x = 0 ∨ (x = B p ∧ z p = none)) → a.worth (leastAt o p x) ≤ b.worth (leastAt o p x)) : FLe n f m g := by
  have h0 : ∀ q, 0 ≤ (o q).getD 0 := fun q => by
    cases h : o q with
    | none => simp
    | some m => have := ho q m h; simp; omega
  refine ⟨fun p x hx => ?_, ?_⟩
  · have hzp := (ha.z p x hx).1
    have hxo := (ha.z p x hx).2.1
    have hx0 := h0 p
    have hBp := hB p
    have hf := leastAt_fits hz ho hd (p := p) hBp.2 (.inr hzp)
    have h1 := ha.val _ hf
    have h2 := hb.val _ hf
    have h3 := h p (B p) (.inr ⟨rfl, hzp⟩)
    have h4 := h1.2.1 p x hx
    rw [off_least, if_pos rfl] at h4
    rcases h2.2.2 with h5 | ⟨q, y, hy, h5⟩
    · omega
    · rw [off_least] at h5
      have hym := (hb.z q y hy).2.2
      by_cases hq : q = p
      · subst hq
        rw [if_pos rfl] at h5
        exact ⟨y, hy, by omega⟩
      · rw [if_neg hq] at h5; omega
  · have hf := leastAt_fits hz ho hd (p := .empty) (B := 0) (Int.le_refl _) (.inl rfl)
    have h1 := ha.val _ hf
    have h2 := hb.val _ hf
    have h3 := h .empty 0 (.inl rfl)
    have h4 := h1.1
    rcases h2.2.2 with h5 | ⟨q, y, hy, h5⟩
    · omega
    · rw [off_least] at h5
      have hym := (hb.z q y hy).2.2
      split at h5 <;> omega
/-- numbers, of few sorts, under which it is not so -/
def Cex (z o : MapF) (big : Int) (a b : Lev) : Prop := ∃ σ, Fits z o σ ∧ (∀ p, σ p = 0 ∨ σ p = 1 ∨ σ p = big) ∧ b.worth σ < a.worth σ
def bigOf (a b : Lev) : Int := 2 + a.succs + b.succs
theorem cex_of_not {a b : Lev} {z o : MapF} (hz : Ones z) (ho : Ones o) (hd : ∀ q, z q ≠ none → o q = none) {n m : Int} {f g : MapF} (ha : Form a z o n f) (hb : Form b z o m g) (h : ¬ FLe n f m g) : Cex z o (bigOf a b) a b := by
  have h01 : ∀ q, (o q).getD 0 = 0 ∨ (o q).getD 0 = 1 := fun q => by
    cases h : o q with
    | none => left; rfl
    | some m => right; exact ho q m h
  refine Classical.byContradiction fun hc => h (fle_of_sem hz ho hd ha hb (B := fun p => bigOf a b - (o p).getD 0) (fun p => ?_) fun p x hx => ?_)
  · have := hb.le
    have := h01 p
    unfold bigOf
    omega
  · refine Int.not_lt.1 fun hlt => hc ⟨leastAt o p x, ?_, fun q => ?_, hlt⟩
    · refine leastAt_fits hz ho hd ?_ (hx.imp (fun h => h) (fun h => h.2))
      have := h01 p
      rcases hx with rfl | ⟨rfl, _⟩
      · exact Int.le_refl _
      · unfold bigOf; omega
    · unfold leastAt
      have h1 := h01 q
      have h2 := h01 p
      split
      · rename_i e; subst e
        rcases hx with rfl | ⟨rfl, _⟩
        · omega
        · right; right; omega
      · omega
theorem Cex.zero {z o : MapF} {q : ByteArray} {big : Int} {a b : Lev} (h : Cex (updM z q 1) o big a b) : Cex z o big a b := by
  obtain ⟨σ, hσ, h1, h2⟩ := h
  refine ⟨σ, ⟨hσ.pos, fun p hp => hσ.zero p ?_, hσ.one⟩, h1, h2⟩
  simp only [updM]; split
  · simp
  · exact hp
theorem Cex.one {z o : MapF} {q : ByteArray} {big : Int} {a b : Lev} (h : Cex z (updM o q 1) big a b) : Cex z o big a b := by
  obtain ⟨σ, hσ, h1, h2⟩ := h
  refine ⟨σ, ⟨hσ.pos, hσ.zero, fun p hp => hσ.one p ?_⟩, h1, h2⟩
  simp only [updM]; split
  · simp
  · exact hp
theorem Cex.not {z o : MapF} {big : Int} {a b : Lev} (h : Cex z o big a b) : ¬ Sem z o a b := fun hs => by
  obtain ⟨σ, hσ, _, h2⟩ := h
  have := hs σ hσ
  omega
/-- what the program's leq answers -/
structure LeqA (z o : MapF) (a b : Lev) (c : Bool) : Prop where
  yes : c = true → Sem z o a b
  no : c = false → Cex z o (bigOf a b) a b
def noM : MapF := fun _ => none
noncomputable def semB (a b : Lev) : Bool := @decide (Sem noM noM a b) (Classical.propDecidable _)
theorem semB_iff {a b : Lev} : semB a b = true ↔ Sem noM noM a b := @decide_eq_true_iff _ (Classical.propDecidable _)
theorem LeqA.eq {a b : Lev} {c : Bool} (h : LeqA noM noM a b c) : c = semB a b := by
  cases c with
  | true => exact (semB_iff.2 (h.yes rfl)).symm
  | false =>
    cases hs : semB a b with
    | false => rfl
    | true => exact absurd (semB_iff.1 hs) (h.no rfl).not
def freeN (z o : MapF) (U : List ByteArray) : Nat := (U.filter fun p => (z p).isNone && (o p).isNone).length
theorem filter_less {α : Type} {P P' : α → Bool} {q : α} (hP : P q = true) (h : ∀ x, P' x = true → P x = true ∧ x ≠ q) {l : List α} (hq : q ∈ l) : (l.filter P').length < (l.filter P).length := by
  have le : ∀ l : List α, (l.filter P').length ≤ (l.filter P).length := by
    intro l
    induction l with
    | nil => simp
    | cons x l ih =>
      rw [List.filter_cons, List.filter_cons]
      cases h1 : P' x with
      | true => rw [if_pos (h x h1).1]; simp; exact ih
      | false => rw [if_neg (by simp)]; split <;> (try simp only [List.length_cons]) <;> omega
  induction l with
  | nil => cases hq
  | cons x l ih =>
    rw [List.filter_cons, List.filter_cons]
    by_cases hx : x = q
    · subst hx
      have h1 : P' x = false := by
        cases h1 : P' x with
        | false => rfl
        | true => exact absurd rfl (h x h1).2
      have := le l
      rw [h1, if_pos hP]
      simp; omega
    · have hq' : q ∈ l := (List.mem_cons.1 hq).resolve_left (Ne.symm hx)
      have := ih hq'
      cases h1 : P' x with
      | true => rw [if_pos (h x h1).1]; simp; exact this
      | false => rw [if_neg (by simp)]; split <;> (try simp only [List.length_cons]) <;> omega
theorem free_zero {z o : MapF} {U : List ByteArray} {q : ByteArray} (hq : q ∈ U) (h1 : z q = none) (h2 : o q = none) : freeN (updM z q 1) o U < freeN z o U := by
  refine filter_less (by simp [h1, h2]) (fun x hx => ?_) hq
  simp only [updM, Bool.and_eq_true] at hx
  by_cases e : x = q
  · rw [if_pos e] at hx; simp at hx
  · rw [if_neg e] at hx; exact ⟨by simp [hx.1, hx.2], e⟩
theorem free_one {z o : MapF} {U : List ByteArray} {q : ByteArray} (hq : q ∈ U) (h1 : z q = none) (h2 : o q = none) : freeN z (updM o q 1) U < freeN z o U := by
  refine filter_less (by simp [h1, h2]) (fun x hx => ?_) hq
  simp only [updM, Bool.and_eq_true] at hx
  by_cases e : x = q
  · rw [if_pos e] at hx; simp at hx
  · rw [if_neg e] at hx; exact ⟨by simp [hx.1, hx.2], e⟩
theorem disj_zero {z o : MapF} {q : ByteArray} (hd : ∀ q, z q ≠ none → o q = none) (h2 : o q = none) : ∀ p, updM z q 1 p ≠ none → o p = none := fun p hp => by
  by_cases e : p = q
  · rw [e]; exact h2
  · simp only [updM, if_neg e] at hp; exact hd p hp
theorem disj_one {z o : MapF} {q : ByteArray} (hd : ∀ q, z q ≠ none → o q = none) (h1 : z q = none) : ∀ p, z p ≠ none → updM o q 1 p = none := fun p hp => by
  by_cases e : p = q
  · rw [e] at hp; exact absurd h1 hp
  · simp only [updM, if_neg e]; exact hd p hp
/-- either it is 0, or at least 1 -/
theorem sem_split {z o : MapF} {q : ByteArray} (a b : Lev) : Sem z o a b ↔ (Sem (updM z q 1) o a b ∧ Sem z (updM o q 1) a b) := by
  constructor
  · intro h
    refine ⟨fun σ hσ => h σ ⟨hσ.pos, fun p hp => hσ.zero p ?_, hσ.one⟩, fun σ hσ => h σ ⟨hσ.pos, hσ.zero, fun p hp => hσ.one p ?_⟩⟩
    · simp only [updM]; split
      · simp
      · exact hp
    · simp only [updM]; split
      · simp
      · exact hp
  · rintro ⟨h1, h2⟩ σ hσ
    by_cases hq : σ q = 0
    · refine h1 σ ⟨hσ.pos, fun p hp => ?_, hσ.one⟩
      by_cases e : p = q
      · rw [e]; exact hq
      · simp only [updM, if_neg e] at hp; exact hσ.zero p hp
    · refine h2 σ ⟨hσ.pos, hσ.zero, fun p hp => ?_⟩
      by_cases e : p = q
      · rw [e]; have := hσ.pos q; omega
      · simp only [updM, if_neg e] at hp; exact hσ.one p hp
theorem upd_del {z : MapF} {q : ByteArray} (h : z q = none) : delM (updM z q 1) q = z := by
  funext p
  simp only [delM, updM]
  by_cases e : p = q
  · rw [if_pos e, e, h]
  · rw [if_neg e, if_neg e]
theorem ones_upd {z : MapF} {q : ByteArray} (h : Ones z) : Ones (updM z q 1) := fun p m e => by
  simp only [updM] at e
  split at e
  · cases e; rfl
  · exact h p m e

theorem nodup_len {α : Type} : ∀ {a b : List α}, a.Nodup → (∀ x ∈ a, x ∈ b) → a.length ≤ b.length
  | [], b, _, _ => by simp
  | x :: r, b, hn, hs => by
    obtain ⟨s, t, rfl⟩ := List.append_of_mem (hs x List.mem_cons_self)
    simp only [List.nodup_cons] at hn
    have := nodup_len (b := s ++ t) hn.2 fun y hy => by
      have h1 := hs y (List.mem_cons_of_mem _ hy)
      simp only [List.mem_append, List.mem_cons] at h1 ⊢
      rcases h1 with h1 | h1 | h1
      · exact .inl h1
      · subst h1; exact absurd hy hn.1
      · exact .inr h1
    simp only [List.length_append, List.length_cons] at this ⊢
    omega
theorem Lev.params_mono : ∀ (l : Lev) {ah : List ByteArray} {p : ByteArray}, p ∈ ah → p ∈ l.params ah
  | .zero, _, _, h => h
  | .succ a, _, _, h => a.params_mono h
  | .max a b, _, _, h => b.params_mono (a.params_mono h)
  | .imax a b, _, _, h => b.params_mono (a.params_mono h)
  | .param s, ah, p, h => by
    simp only [Lev.params]
    split
    · exact h
    · exact List.mem_append_left _ h
theorem Lev.has_params : ∀ (l : Lev) {ah : List ByteArray} {p : ByteArray}, l.has p → p ∈ l.params ah
  | .zero, _, _, h => h.elim
  | .succ a, _, _, h => a.has_params (show a.has _ from h)
  | .max a b, _, _, h => (show a.has _ ∨ b.has _ from h).elim (fun h => b.params_mono (a.has_params h)) (fun h => b.has_params h)
  | .imax a b, _, _, h => (show a.has _ ∨ b.has _ from h).elim (fun h => b.params_mono (a.has_params h)) (fun h => b.has_params h)
  | .param s, ah, p, h => by
    have e : p = s := h
    subst e
    simp only [Lev.params]
    split
    · rename_i h2; exact memB_iff.1 h2
    · simp
theorem putM_yes {f : MapF} {s : ByteArray} {n : Int} (h : (f s).isSome = false ∨ (f s).getD 0 < n) : updM f s n = putM f s n := by
  unfold putM
  cases hf : f s with
  | none => rfl
  | some m => rw [hf] at h; simp at h; simp only; rw [if_pos h]
theorem putM_no {f : MapF} {s : ByteArray} {n : Int} (h1 : (f s).isSome = true) (h2 : n ≤ (f s).getD 0) : f = putM f s n := by
  unfold putM
  cases hf : f s with
  | none => rw [hf] at h1; cases h1
  | some m => rw [hf] at h2; simp at h2; simp only; rw [if_neg (by omega)]
theorem joinL_step {g : MapF} {dn : List (ByteArray × Int)} {s : ByteArray} {v : Int} (h1 : (dn.map Prod.fst).Nodup) (h2 : ∀ p ∈ dn, g p.1 = some p.2) (hs : g s = some v) (hn : (s, v) ∉ dn) : (((s, v) :: dn).map Prod.fst).Nodup ∧ ∀ p ∈ (s, v) :: dn, g p.1 = some p.2 := by
  refine ⟨?_, fun p hp => ?_⟩
  · simp only [List.map_cons, List.nodup_cons]
    refine ⟨fun hm => ?_, h1⟩
    obtain ⟨⟨s', v'⟩, hp, e⟩ := List.mem_map.1 hm
    have e' : s' = s := e
    subst e'
    have := h2 _ hp
    rw [hs] at this
    cases this
    exact hn hp
  · rcases List.mem_cons.1 hp with rfl | hp
    · exact hs
    · exact h2 p hp
theorem dn_len {g : MapF} {dn : List (ByteArray × Int)} {L : List ByteArray} (h1 : (dn.map Prod.fst).Nodup) (h2 : ∀ p ∈ dn, g p.1 = some p.2) (hL : ∀ p m, g p = some m → p ∈ L) : dn.length ≤ L.length := by
  have := nodup_len h1 (b := L) fun x hx => by
    obtain ⟨p, hp, rfl⟩ := List.mem_map.1 hx
    exact hL _ _ (h2 p hp)
  simpa using this
end Go.Vd
