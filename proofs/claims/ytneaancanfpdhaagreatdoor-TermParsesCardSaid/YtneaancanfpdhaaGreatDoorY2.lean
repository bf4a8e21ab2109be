/-
  What is proved here: what it means that a state's objects lie in memory, and that they lie there still behind a step; over any program.
-/
import Derived.Test.YtneaancanfpdhaaGreatDoorY1
import Derived.Test.YtneaancanfpdhaaGreatDoorYMap
namespace Go.Vd
open Go Go.RowKit

def blkOf : Ob → Pl → Option Nat
  | .cells _ _, .loc b => some b
  | .mapI _, .loc b => some b
  | .itI _ _ _ _, .loc b => some b
  | .row _ _, .row b _ _ => b
  | _, _ => none

def ObOk (g : Gh) (w : World) : Ob → Pl → Prop
  | .cells l ty, .loc b => ∃ vs, w.heap[b]? = some (.cells ⟨vs⟩ ty (0, 0)) ∧ SDenL g l vs ∧ ∀ o, g.m b o = none
  | .row e k, .row b cap n => (∃ xs, w.ownsRow 0 e k (.slice (b.map fun c => ⟨c, 0, none⟩) n cap) n xs) ∧ ∀ c, b = some c → ∀ o, n * k ≤ o → g.m c o = none
  | .nilrow _ _, p => p = .row none 0 0
  | .mapI f, .loc b => MapSI w b f ∧ ∀ o, g.m b o = none
  | .itI i f dn cur, .loc b => ∃ c, g.gs[i]? = some (.loc c) ∧ (∃ k, ItSI w b c f dn k) ∧ (∀ s n, cur = some (s, n) → ItAt w b c s n) ∧ ∀ o, g.m b o = none
  | .dead, _ => True
  | _, _ => False

/-- whatever blocks an object's being there hangs on -/
def usesB (g : Gh) (o : Ob) (p : Pl) (b : Nat) : Prop := blkOf o p = some b ∨ ∃ i f dn cur, o = .itI i f dn cur ∧ g.gs[i]? = some (.loc b)

structure StoreOk (GL : Nat → List D) (ob : List Ob) (g : Gh) (w : World) : Prop where
  len : ob.length = g.gs.length
  obs : ∀ (i : Nat) o p, ob[i]? = some o → g.gs[i]? = some p → ObOk g w o p
  its : ∀ (j i : Nat) f dn cur, ob[j]? = some (.itI i f dn cur) → ob[i]? = some (.mapI f)
  disj : ∀ (i j : Nat) oi oj pi pj b, ob[i]? = some oi → ob[j]? = some oj → g.gs[i]? = some pi → g.gs[j]? = some pj → blkOf oi pi = some b → blkOf oj pj = some b → i = j
  sat : ∀ b o x, g.m b o = some x → w.cell? ⟨b, o, none⟩ = some x ∧ x.oneCell' = true
  glob : ∀ b, DenC g.m b 0 (GL b)

theorem StoreOk.place {GL : Nat → List D} {ob : List Ob} {g : Gh} {w : World} (h : StoreOk GL ob g w) {i : Nat} {o : Ob} (hi : ob[i]? = some o) : ∃ p, g.gs[i]? = some p := by
  have h1 := (List.getElem?_eq_some_iff.1 hi).1
  rw [h.len] at h1
  exact ⟨_, List.getElem?_eq_getElem h1⟩

/-- an object may be looked at as one of which less is known -/
def ObLe (g g' : Gh) : Ob → Ob → Prop
  | .cells l ty, .cells l' ty' => ty = ty' ∧ ∀ vs, SDenL g l vs → SDenL g' l' vs
  | .nilrow e k, .row e' k' => e = e' ∧ k = k'
  | .dead, .dead => True
  | _, .dead => True
  | .row e k, .row e' k' => e = e' ∧ k = k'
  | .nilrow e k, .nilrow e' k' => e = e' ∧ k = k'
  | .mapI f, .mapI f' => f = f'
  | .itI i f dn cur, .itI i' f' dn' cur' => i = i' ∧ f = f' ∧ dn = dn' ∧ (cur = cur' ∨ cur' = none)
  | _, _ => False

theorem ObLe.blk {g g' : Gh} {o o' : Ob} {p : Pl} {b : Nat} (h : ObLe g g' o o') (hb : blkOf o' p = some b) (hk : ∀ w, ObOk g w o p → True) : blkOf o p = some b ∨ ∃ e k, o = .nilrow e k := by
  cases o <;> cases o' <;> cases p <;> simp_all [ObLe, blkOf]

theorem ObOk.lt {g : Gh} {w : World} {o : Ob} {p : Pl} {b : Nat} (h : ObOk g w o p) (hb : blkOf o p = some b) : b < w.heap.size := by
  cases o <;> cases p <;> simp only [blkOf, Option.some.injEq, reduceCtorEq] at hb
  case cells.loc => subst hb; obtain ⟨vs, h, _⟩ := h; exact (Array.getElem?_eq_some_iff.1 h).1
  case mapI.loc => subst hb; exact h.1.lt
  case itI.loc => subst hb; obtain ⟨c, _, ⟨k, h⟩, _⟩ := h; exact h.lt.1
  case row.row => subst hb; obtain ⟨⟨xs, h⟩, _⟩ := h; exact (h.lt b rfl).2

theorem ObOk.keep {g g' : Gh} {w w' : World} {o o' : Ob} {p : Pl} (hle : ObLe g g' o o') (hat : ∀ (i b : Nat), g.gs[i]? = some (.loc b) → g'.gs[i]? = some (.loc b))
    (hb : ∀ b, usesB g o p b → w'.heap[b]? = w.heap[b]?) (hm : ∀ b, blkOf o p = some b → ∀ i, g.m b i = none → g'.m b i = none) (h : ObOk g w o p) : ObOk g' w' o' p := by
  cases o <;> cases o' <;> simp only [ObLe] at hle <;> try (first | exact hle.elim | trivial)
  case cells.cells l ty l' ty' =>
    cases p with
    | loc b =>
      obtain ⟨rfl, hl⟩ := hle
      obtain ⟨vs, h1, h2, h3⟩ := h
      exact ⟨vs, (hb b (.inl rfl)).trans h1, hl vs h2, fun i => hm b rfl i (h3 i)⟩
    | row b c n => exact h.elim
  case row.row e k e' k' =>
    cases p with
    | loc b => exact h.elim
    | row b c n =>
      obtain ⟨rfl, rfl⟩ := hle
      obtain ⟨⟨xs, h1⟩, h2⟩ := h
      refine ⟨⟨xs, h1.1, ?_⟩, fun c hc o ho => hm c hc o (h2 c hc o ho)⟩
      rcases h1.2 with h3 | ⟨g0, cap, cur, e1, h3, h4, h5⟩
      · exact .inl h3
      · refine .inr ⟨g0, cap, cur, e1, h3, ?_, h5⟩
        rw [hb g0 (.inl ?_)]; exact h4
        cases b with
        | none => simp at e1
        | some b => simp at e1; simp [blkOf, e1.1]
  case nilrow.row e k e' k' =>
    obtain ⟨rfl, rfl⟩ := hle
    simp only [ObOk] at h
    subst h
    exact ⟨⟨[], by simp, .inl ⟨rfl, rfl⟩⟩, fun c hc => by cases hc⟩
  case mapI.mapI f f' =>
    cases p with
    | loc b => subst hle; exact ⟨h.1.keep (hb b (.inl rfl)), fun i => hm b rfl i (h.2 i)⟩
    | row b c n => exact h.elim
  case itI.itI i f dn cur i' f' dn' cur' =>
    cases p with
    | loc b =>
      obtain ⟨rfl, rfl, rfl, hcur⟩ := hle
      obtain ⟨c, h1, ⟨k, h2⟩, h3, h4⟩ := h
      have hc := hb c (.inr ⟨_, _, _, _, rfl, h1⟩)
      have hb' := hb b (.inl rfl)
      refine ⟨c, hat _ _ h1, ⟨k, h2.keep hb' hc⟩, fun s n e => ?_, fun i => hm b rfl i (h4 i)⟩
      rcases hcur with rfl | rfl
      · obtain ⟨es, clock, seen, en, a1, a2, r⟩ := h3 s n e
        exact ⟨es, clock, seen, en, hb'.trans a1, hc.trans a2, r⟩
      · cases e
    | row b c n => exact h.elim

/-- one step of the store: the objects that p names are new or turned, the others are looked at as before (or as less) -/
theorem StoreOk.step {GL : Nat → List D} {ob ob' : List Ob} {g g' : Gh} {w w' : World} (h : StoreOk GL ob g w) (p : Nat → Prop) (hmm : Mle g.m g'.m) (hat : ∀ (i b : Nat), g.gs[i]? = some (.loc b) → g'.gs[i]? = some (.loc b))
    (hpl : ∀ (i : Nat) q, ¬ p i → g.gs[i]? = some q → g'.gs[i]? = some q)
    (hsat : ∀ b o x, g'.m b o = some x → w'.cell? ⟨b, o, none⟩ = some x ∧ x.oneCell' = true) (hlen : ob'.length = g'.gs.length)
    (hsame : ∀ (j : Nat) o', ¬ p j → ob'[j]? = some o' → ∃ o, ob[j]? = some o ∧ ObLe g g' o o')
    (hits : ∀ (j i : Nat) f dn cur, ob'[j]? = some (.itI i f dn cur) → ob'[i]? = some (.mapI f))
    (hitp : ∀ (j i : Nat) f dn cur, ¬ p j → ob'[j]? = some (.itI i f dn cur) → ¬ p i)
    (hkeep : ∀ (j : Nat) o q b, ¬ p j → ob[j]? = some o → g.gs[j]? = some q → blkOf o q = some b → w'.heap[b]? = w.heap[b]? ∧ ∀ i, g.m b i = none → g'.m b i = none)
    (htou : ∀ (j : Nat) o', p j → ob'[j]? = some o' → ∃ q', g'.gs[j]? = some q' ∧ ObOk g' w' o' q')
    (hblo : ∀ (j : Nat) o' q' b, p j → ob'[j]? = some o' → g'.gs[j]? = some q' → blkOf o' q' = some b → (∃ i o q, p i ∧ ob[i]? = some o ∧ g.gs[i]? = some q ∧ blkOf o q = some b) ∨ w.heap.size ≤ b)
    (hdis : ∀ (i j : Nat) oi oj pi pj b, p i → p j → ob'[i]? = some oi → ob'[j]? = some oj → g'.gs[i]? = some pi → g'.gs[j]? = some pj → blkOf oi pi = some b → blkOf oj pj = some b → i = j) :
    StoreOk GL ob' g' w' := by
  have old : ∀ (j : Nat) o' q' b, ¬ p j → ob'[j]? = some o' → g'.gs[j]? = some q' → blkOf o' q' = some b → ∃ o, ob[j]? = some o ∧ ObLe g g' o o' ∧ g.gs[j]? = some q' ∧ blkOf o q' = some b := by
    intro j o' q' b hp ho' hq' hb
    obtain ⟨o, ho, hle⟩ := hsame j o' hp ho'
    obtain ⟨q, hq⟩ := h.place ho
    have hqq := hpl j q hp hq
    rw [hq'] at hqq; cases hqq
    have hok := h.obs j o q' ho hq
    refine ⟨o, ho, hle, hq, ?_⟩
    rcases hle.blk hb (fun _ _ => trivial) with h1 | ⟨e, k, rfl⟩
    · exact h1
    · simp only [ObOk] at hok; subst hok
      cases o' <;> simp [blkOf] at hb
  refine ⟨hlen, fun j o' q' ho' hq' => ?_, hits, fun i j oi oj pi pj b h1 h2 h3 h4 h5 h6 => ?_, hsat, fun b => DenC.mono hmm _ (h.glob b)⟩
  · by_cases hp : p j
    · obtain ⟨q, hq, hok⟩ := htou j o' hp ho'
      rw [hq'] at hq; cases hq; exact hok
    · obtain ⟨o, ho, hle⟩ := hsame j o' hp ho'
      obtain ⟨q, hq⟩ := h.place ho
      have hqq := hpl j q hp hq
      rw [hq'] at hqq; cases hqq
      by_cases hdead : o' = .dead
      · subst hdead; cases q' <;> trivial
      refine (h.obs j o q' ho hq).keep hle hat (fun b hb => ?_) (fun b hb => (hkeep j o q' b hp ho hq hb).2)
      rcases hb with hb | ⟨i, f, dn, cur, rfl, hi⟩
      · exact (hkeep j o q' b hp ho hq hb).1
      · have hm := h.its j i f dn cur ho
        cases o' <;> simp only [ObLe] at hle <;> try (exact hle.elim)
        case dead => exact absurd rfl hdead
        obtain ⟨rfl, rfl, rfl, _⟩ := hle
        exact (hkeep i _ _ b (hitp j _ _ _ _ hp ho') hm hi rfl).1
  · by_cases hpi : p i
    · by_cases hpj : p j
      · exact hdis i j oi oj pi pj b hpi hpj h1 h2 h3 h4 h5 h6
      · obtain ⟨o, ho, _, hq, hb⟩ := old j oj pj b hpj h2 h4 h6
        rcases hblo i oi pi b hpi h1 h3 h5 with ⟨k, ok, qk, hpk, hok, hqk, hbk⟩ | hge
        · have := h.disj k j ok o qk pj b hok ho hqk hq hbk hb
          subst this; exact absurd hpk hpj
        · have := (h.obs j o pj ho hq).lt hb; omega
    · obtain ⟨o, ho, _, hq, hb⟩ := old i oi pi b hpi h1 h3 h5
      by_cases hpj : p j
      · rcases hblo j oj pj b hpj h2 h4 h6 with ⟨k, ok, qk, hpk, hok, hqk, hbk⟩ | hge
        · have := h.disj k i ok o qk pi b hok ho hqk hq hbk hb
          subst this; exact absurd hpk hpi
        · have := (h.obs i o pi ho hq).lt hb; omega
      · obtain ⟨o2, ho2, _, hq2, hb2⟩ := old j oj pj b hpj h2 h4 h6
        exact h.disj i j o o2 pi pj b ho ho2 hq hq2 hb hb2

/-! states -/
structure St where
  n : Nat
  sl : List (Nat × SV)
  ob : List Ob

def slk (t : Nat) : List (Nat × SV) → SV
  | [] => .junk
  | (k, s) :: r => cond (Nat.beq k t) s (slk t r)
def evS (GL : Nat → List D) (sl : List (Nat × SV)) : Operand → SV
  | .tmp t => slk t sl
  | .const v => .d (.v v)
  | .global b => .d (.cp (GL b))
  | .func f => .d (.v (.func (.func f) #[] #[]))

/-- where a function began: the ghost, the world, the blocks that it may write, the number of objects that it was given -/
structure Bs where
  g : Gh
  w : World
  X : Nat → Prop
  n0 : Nat
  df : List Deferred

structure Stp (B : Bs) (ob : List Ob) (g : Gh) (w : World) : Prop where
  fr : Fr B.X B.w w
  mem : Mle B.g.m g.m
  new : ∀ b o x, g.m b o = some x → B.g.m b o = none → B.X b ∨ B.w.heap.size ≤ b
  own : ∀ (i : Nat) o p b, ob[i]? = some o → g.gs[i]? = some p → blkOf o p = some b → B.X b ∨ B.w.heap.size ≤ b
  at' : ∀ (i b : Nat), i < B.n0 → B.g.gs[i]? = some (.loc b) → g.gs[i]? = some (.loc b)

structure RelG (GL : Nat → List D) (B : Bs) (σ : St) (g : Gh) (a : Act) (w : World) : Prop where
  defers : a.defers = B.df
  size : a.tmps.size = σ.n
  slots : ∀ t, (slk t σ.sl).Den g (a.tmps.getD t undef)
  store : StoreOk GL σ.ob g w
  stp : Stp B σ.ob g w
def Rel (GL : Nat → List D) (B : Bs) (σ : St) (a : Act) (w : World) : Prop := ∃ g, RelG GL B σ g a w

theorem RelG.ev {GL : Nat → List D} {B : Bs} {σ : St} {g : Gh} {a : Act} {w : World} (h : RelG GL B σ g a w) (x : Operand) : (evS GL σ.sl x).Den g (a.eval x) := by
  cases x with
  | tmp t => exact h.slots t
  | const v => rfl
  | global b => exact ⟨b, 0, rfl, h.store.glob b⟩
  | func f => rfl

theorem slk_cons (t k : Nat) (s : SV) (r : List (Nat × SV)) : slk t ((k, s) :: r) = if k = t then s else slk t r := by
  show cond (Nat.beq k t) s (slk t r) = _
  by_cases h : k = t
  · subst h; simp
  · have : Nat.beq k t = false := by rw [← Bool.not_eq_true, Nat.beq_eq]; exact h
    rw [this, if_neg h]; rfl

theorem RelG.put {GL : Nat → List D} {B : Bs} {σ : St} {g : Gh} {a : Act} {w : World} (h : RelG GL B σ g a w) {t : Nat} (ht : Nat.blt t σ.n = true) {s : SV} {x : Value} (hx : s.Den g x) : RelG GL B ⟨σ.n, (t, s) :: σ.sl, σ.ob⟩ g (a.put (some t) x) w := by
  have hn : t < σ.n := by simpa [Nat.blt_eq] using ht
  refine ⟨h.defers, by simp [Act.put, h.size], fun u => ?_, h.store, h.stp⟩
  show (slk u ((t, s) :: σ.sl)).Den g ((a.tmps.setIfInBounds t x).getD u undef)
  rw [slk_cons]
  by_cases htu : t = u
  · subst htu
    rw [if_pos rfl]
    have : (a.tmps.setIfInBounds t x).getD t undef = x := by
      have hs : t < a.tmps.size := by rw [h.size]; exact hn
      simp [hs]
    rw [this]; exact hx
  · rw [if_neg htu]
    have : (a.tmps.setIfInBounds t x).getD u undef = a.tmps.getD u undef := by
      simp only [Array.getD_eq_getD_getElem?]
      rw [Array.getElem?_setIfInBounds_ne htu]
    rw [this]; exact h.slots u
theorem RelG.known {GL : Nat → List D} {B : Bs} {σ : St} {g : Gh} {a : Act} {w : World} (h : RelG GL B σ g a w) {t : Nat} {s : SV} (hx : s.Den g (a.tmps.getD t undef)) : RelG GL B ⟨σ.n, (t, s) :: σ.sl, σ.ob⟩ g a w := by
  refine ⟨h.defers, h.size, fun u => ?_, h.store, h.stp⟩
  show (slk u ((t, s) :: σ.sl)).Den g _
  rw [slk_cons]
  split
  · rename_i e; subst e; exact hx
  · exact h.slots u
end Go.Vd
