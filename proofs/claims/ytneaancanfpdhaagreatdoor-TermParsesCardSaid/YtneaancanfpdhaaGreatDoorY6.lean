/-
  What is proved here: contracts of functions, in which no address stands, and what a call by one does to a state; over any program.
-/
import Derived.Test.YtneaancanfpdhaaGreatDoorY5
namespace Go.Vd
open Go Go.RowKit

inductive Out where
  | ret (s : SV)
  | pan (s : SV)

def noIt : List Ob → Bool
  | [] => true
  | .itI _ _ _ _ :: _ => false
  | .cells _ _ :: r => noIt r
  | .row _ _ :: r => noIt r
  | .nilrow _ _ :: r => noIt r
  | .mapI _ :: r => noIt r
  | .dead :: r => noIt r
theorem noIt_get : ∀ {ob : List Ob}, noIt ob = true → ∀ (j i : Nat) f dn cur, ob[j]? ≠ some (.itI i f dn cur)
  | [], _, j, i, f, dn, cur => by simp
  | o :: r, h, 0, i, f, dn, cur => by intro e; simp at e; subst e; cases h
  | o :: r, h, j + 1, i, f, dn, cur => by
    have : noIt r = true := by cases o <;> first | exact h | cases h
    simpa using noIt_get this j i f dn cur

def blocksOf (ob : List Ob) (g : Gh) (b : Nat) : Prop := ∃ (i : Nat) (o : Ob) (p : Pl), ob[i]? = some o ∧ g.gs[i]? = some p ∧ blkOf o p = some b

/-- what is promised of a call: of its end, and of what its objects then hold -/
def Tri (P : Program) (GL : Nat → List D) (f : FuncId) (ob : List Ob) (args : List SV) (Q : Out → List Ob → Prop) : Prop :=
  ∀ (g : Gh) (w : World) (vs : List Value), StoreOk GL ob g w → SDenL g args vs →
    Calls P f ⟨vs⟩ w fun e w' => ∃ g' ob', StoreOk GL ob' g' w' ∧ Stp ⟨g, w, blocksOf ob g, ob.length, []⟩ ob' g' w' ∧ ob.length ≤ ob'.length ∧ noIt ob' = true ∧
      (match e with
       | .returned v => ∃ s, s.Den g' v ∧ Q (.ret s) ob'
       | .panicked c => ∃ v s, c = [{ v := v, recovered := false }] ∧ s.Den g' v ∧ Q (.pan s) ob'
       | .outgrown => False)
theorem Tri.mono {P : Program} {GL : Nat → List D} {f : FuncId} {ob : List Ob} {args : List SV} {Q Q' : Out → List Ob → Prop} (h : Tri P GL f ob args Q) (hq : ∀ o b, Q o b → Q' o b) : Tri P GL f ob args Q' := fun g w vs hs hd =>
  (h g w vs hs hd).mono fun e w' ⟨g', ob', h1, h2, h3, h4, h5⟩ => ⟨g', ob', h1, h2, h3, h4, by
    cases e with
    | returned v => obtain ⟨s, h6, h7⟩ := h5; exact ⟨s, h6, hq _ _ h7⟩
    | panicked c => obtain ⟨v, s, h6, h7, h8⟩ := h5; exact ⟨v, s, h6, h7, hq _ _ h8⟩
    | outgrown => exact h5⟩

/-! names of objects: the callee's, and the caller's -/
mutual
def SV.ren (ρ : List Nat) : SV → Option SV
  | .d x => some (.d x)
  | .blk i off => (nthO i ρ).bind fun j => some (.blk j off)
  | .agg l => (renL ρ l).bind fun l' => some (.agg l')
  | .tup l => (renL ρ l).bind fun l' => some (.tup l')
  | .own i k ls => (nthO i ρ).bind fun j => some (.own j k ls)
  | .fn f a b => (renL ρ a).bind fun a' => (renL ρ b).bind fun b' => some (.fn f a' b')
  | .ifc T s => (s.ren ρ).bind fun s' => some (.ifc T s')
  | .map i => (nthO i ρ).bind fun j => some (.map j)
  | .rp i => (nthO i ρ).bind fun j => some (.rp j)
  | .junk => some .junk
def renL (ρ : List Nat) : List SV → Option (List SV)
  | [] => some []
  | s :: r => (s.ren ρ).bind fun s' => (renL ρ r).bind fun r' => some (s' :: r')
end
/-- places under other names -/
def RenG (ρ : List Nat) (g g' : Gh) : Prop := Mle g.m g'.m ∧ ∀ (i j : Nat) p, ρ[i]? = some j → g.gs[i]? = some p → g'.gs[j]? = some p
mutual
theorem SV.ren_den {ρ : List Nat} {g g' : Gh} (h : RenG ρ g g') : ∀ (s : SV) {t : SV} {y : Value}, s.ren ρ = some t → s.Den g y → t.Den g' y
  | .d x, t, y, hr, hd => by simp [SV.ren] at hr; subst hr; exact D.Den.mono h.1 x hd
  | .blk i off, t, y, hr, ⟨b, hb, e⟩ => by
    simp only [SV.ren, Option.bind_eq_some_iff, Option.some.injEq] at hr
    obtain ⟨j, hj, rfl⟩ := hr
    exact ⟨b, h.2 i j _ (nthO_eq hj) hb, e⟩
  | .agg l, t, y, hr, ⟨vs, e, hd⟩ => by
    simp only [SV.ren, Option.bind_eq_some_iff, Option.some.injEq] at hr
    obtain ⟨l', hl, rfl⟩ := hr
    exact ⟨vs, e, renL_den h l hl hd⟩
  | .tup l, t, y, hr, ⟨vs, e, hd⟩ => by
    simp only [SV.ren, Option.bind_eq_some_iff, Option.some.injEq] at hr
    obtain ⟨l', hl, rfl⟩ := hr
    exact ⟨vs, e, renL_den h l hl hd⟩
  | .own i k ls, t, y, hr, ⟨b, cap, hb, e, hc, hd⟩ => by
    simp only [SV.ren, Option.bind_eq_some_iff, Option.some.injEq] at hr
    obtain ⟨j, hj, rfl⟩ := hr
    exact ⟨b, cap, h.2 i j _ (nthO_eq hj) hb, e, hc, fun hn => by obtain ⟨c, e2, h2⟩ := hd hn; exact ⟨c, e2, DenR.mono h.1 ls h2⟩⟩
  | .fn f a b, t, y, hr, ⟨vs, us, e, h1, h2⟩ => by
    simp only [SV.ren, Option.bind_eq_some_iff, Option.some.injEq] at hr
    obtain ⟨a', ha, b', hb, rfl⟩ := hr
    exact ⟨vs, us, e, renL_den h a ha h1, renL_den h b hb h2⟩
  | .ifc T s, t, y, hr, ⟨x, e, hd⟩ => by
    simp only [SV.ren, Option.bind_eq_some_iff, Option.some.injEq] at hr
    obtain ⟨s', hs, rfl⟩ := hr
    exact ⟨x, e, SV.ren_den h s hs hd⟩
  | .map i, t, y, hr, ⟨b, hb, e⟩ => by
    simp only [SV.ren, Option.bind_eq_some_iff, Option.some.injEq] at hr
    obtain ⟨j, hj, rfl⟩ := hr
    exact ⟨b, h.2 i j _ (nthO_eq hj) hb, e⟩
  | .rp i, t, y, hr, ⟨b, cap, n, hb, e⟩ => by
    simp only [SV.ren, Option.bind_eq_some_iff, Option.some.injEq] at hr
    obtain ⟨j, hj, rfl⟩ := hr
    exact ⟨b, cap, n, h.2 i j _ (nthO_eq hj) hb, e⟩
  | .junk, t, y, hr, _ => by simp [SV.ren] at hr; subst hr; trivial
theorem renL_den {ρ : List Nat} {g g' : Gh} (h : RenG ρ g g') : ∀ (l : List SV) {l' : List SV} {vs : List Value}, renL ρ l = some l' → SDenL g l vs → SDenL g' l' vs
  | [], l', vs, hr, hd => by simp [renL] at hr; subst hr; exact hd
  | s :: r, l', vs, hr, ⟨x, v', e, h1, h2⟩ => by
    simp only [renL, Option.bind_eq_some_iff, Option.some.injEq] at hr
    obtain ⟨s', hs, r', hr', rfl⟩ := hr
    exact ⟨x, v', e, SV.ren_den h s hs h1, renL_den h r hr' h2⟩
end
/-- the same, back -/
def RenB (ρ : List Nat) (g g' : Gh) : Prop := Mle g'.m g.m ∧ ∀ (i j : Nat) p, ρ[i]? = some j → g'.gs[j]? = some p → g.gs[i]? = some p
mutual
theorem SV.ren_back {ρ : List Nat} {g g' : Gh} (h : RenB ρ g g') : ∀ (s : SV) {t : SV} {y : Value}, s.ren ρ = some t → t.Den g' y → s.Den g y
  | .d x, t, y, hr, hd => by simp [SV.ren] at hr; subst hr; exact D.Den.mono h.1 x hd
  | .blk i off, t, y, hr, hd => by
    simp only [SV.ren, Option.bind_eq_some_iff, Option.some.injEq] at hr
    obtain ⟨j, hj, rfl⟩ := hr
    obtain ⟨b, hb, e⟩ := hd
    exact ⟨b, h.2 i j _ (nthO_eq hj) hb, e⟩
  | .agg l, t, y, hr, hd => by
    simp only [SV.ren, Option.bind_eq_some_iff, Option.some.injEq] at hr
    obtain ⟨l', hl, rfl⟩ := hr
    obtain ⟨vs, e, hd⟩ := hd
    exact ⟨vs, e, renL_back h l hl hd⟩
  | .tup l, t, y, hr, hd => by
    simp only [SV.ren, Option.bind_eq_some_iff, Option.some.injEq] at hr
    obtain ⟨l', hl, rfl⟩ := hr
    obtain ⟨vs, e, hd⟩ := hd
    exact ⟨vs, e, renL_back h l hl hd⟩
  | .own i k ls, t, y, hr, hd => by
    simp only [SV.ren, Option.bind_eq_some_iff, Option.some.injEq] at hr
    obtain ⟨j, hj, rfl⟩ := hr
    obtain ⟨b, cap, hb, e, hc, hd⟩ := hd
    exact ⟨b, cap, h.2 i j _ (nthO_eq hj) hb, e, hc, fun hn => by obtain ⟨c, e2, h2⟩ := hd hn; exact ⟨c, e2, DenR.mono h.1 ls h2⟩⟩
  | .fn f a b, t, y, hr, hd => by
    simp only [SV.ren, Option.bind_eq_some_iff, Option.some.injEq] at hr
    obtain ⟨a', ha, b', hb, rfl⟩ := hr
    obtain ⟨vs, us, e, h1, h2⟩ := hd
    exact ⟨vs, us, e, renL_back h a ha h1, renL_back h b hb h2⟩
  | .ifc T s, t, y, hr, hd => by
    simp only [SV.ren, Option.bind_eq_some_iff, Option.some.injEq] at hr
    obtain ⟨s', hs, rfl⟩ := hr
    obtain ⟨x, e, hd⟩ := hd
    exact ⟨x, e, SV.ren_back h s hs hd⟩
  | .map i, t, y, hr, hd => by
    simp only [SV.ren, Option.bind_eq_some_iff, Option.some.injEq] at hr
    obtain ⟨j, hj, rfl⟩ := hr
    obtain ⟨b, hb, e⟩ := hd
    exact ⟨b, h.2 i j _ (nthO_eq hj) hb, e⟩
  | .rp i, t, y, hr, hd => by
    simp only [SV.ren, Option.bind_eq_some_iff, Option.some.injEq] at hr
    obtain ⟨j, hj, rfl⟩ := hr
    obtain ⟨b, cap, n, hb, e⟩ := hd
    exact ⟨b, cap, n, h.2 i j _ (nthO_eq hj) hb, e⟩
  | .junk, t, y, hr, _ => trivial
theorem renL_back {ρ : List Nat} {g g' : Gh} (h : RenB ρ g g') : ∀ (l : List SV) {l' : List SV} {vs : List Value}, renL ρ l = some l' → SDenL g' l' vs → SDenL g l vs
  | [], l', vs, hr, hd => by simp [renL] at hr; subst hr; exact hd
  | s :: r, l', vs, hr, hd => by
    simp only [renL, Option.bind_eq_some_iff, Option.some.injEq] at hr
    obtain ⟨s', hs, r', hr', rfl⟩ := hr
    obtain ⟨x, v', e, h1, h2⟩ := hd
    exact ⟨x, v', e, SV.ren_back h s hs h1, renL_back h r hr' h2⟩
end

mutual
/-- data may be looked at as other data: nil as a slice that holds nothing -/
inductive DLe : D → D → Prop
  | refl (x : D) : DLe x x
  | nil {k : Nat} : DLe (.v (.slice none 0 0)) (.sl k [])
  | agg {l l' : List D} (h : DLeL l l') : DLe (.agg l) (.agg l')
  | tup {l l' : List D} (h : DLeL l l') : DLe (.tup l) (.tup l')
  | cp {l l' : List D} (h : DLeL l l') : DLe (.cp l) (.cp l')
  | sl {k : Nat} {l l' : List (List D)} (h : DLeLL l l') : DLe (.sl k l) (.sl k l')
inductive DLeL : List D → List D → Prop
  | nil : DLeL [] []
  | cons {x y : D} {l m : List D} (h : DLe x y) (r : DLeL l m) : DLeL (x :: l) (y :: m)
inductive DLeLL : List (List D) → List (List D) → Prop
  | nil : DLeLL [] []
  | cons {x y : List D} {l m : List (List D)} (h : DLeL x y) (r : DLeLL l m) : DLeLL (x :: l) (y :: m)
end
theorem DLeL.length : ∀ {l m : List D}, DLeL l m → m.length = l.length
  | _, _, .nil => rfl
  | _, _, .cons _ r => by simp [DLeL.length r]
theorem DLeLL.length : ∀ {l m : List (List D)}, DLeLL l m → m.length = l.length
  | _, _, .nil => rfl
  | _, _, .cons _ r => by simp [DLeLL.length r]
mutual
theorem DLe.den {m : Mem} : ∀ {x y : D}, DLe x y → ∀ {v : Value}, x.Den m v → y.Den m v
  | _, _, .refl _, _, hd => hd
  | _, _, .nil, _, hd => by simp only [D.Den] at hd; exact ⟨none, 0, by rw [hd]; rfl, by simp, fun h => absurd rfl h⟩
  | _, _, .agg h, _, ⟨vs, e, hd⟩ => ⟨vs, e, DLeL.den h hd⟩
  | _, _, .tup h, _, ⟨vs, e, hd⟩ => ⟨vs, e, DLeL.den h hd⟩
  | _, _, .cp h, _, ⟨b, off, e, hd⟩ => ⟨b, off, e, DLeL.denC h hd⟩
  | _, _, .sl h, _, ⟨a, cap, e, hc, hd⟩ => ⟨a, cap, by rw [h.length]; exact e, by rw [h.length]; exact hc, fun hn => by
      obtain ⟨b, off, e2, h2⟩ := hd (fun h0 => by subst h0; cases h; exact hn rfl)
      exact ⟨b, off, e2, DLeLL.denR h h2⟩⟩
theorem DLeL.den {m : Mem} : ∀ {x y : List D}, DLeL x y → ∀ {vs : List Value}, DenL m x vs → DenL m y vs
  | _, _, .nil, _, hd => hd
  | _, _, .cons h r, _, ⟨x, l', e, h1, h2⟩ => ⟨x, l', e, DLe.den h h1, DLeL.den r h2⟩
theorem DLeL.denC {m : Mem} : ∀ {x y : List D}, DLeL x y → ∀ {b off : Nat}, DenC m b off x → DenC m b off y
  | _, _, .nil, _, _, _ => trivial
  | _, _, .cons h r, _, _, ⟨⟨x, h1, h2⟩, h3⟩ => ⟨⟨x, h1, DLe.den h h2⟩, DLeL.denC r h3⟩
theorem DLeLL.denR {m : Mem} : ∀ {x y : List (List D)}, DLeLL x y → ∀ {k b off : Nat}, DenR m k b off x → DenR m k b off y
  | _, _, .nil, _, _, _, _ => trivial
  | _, _, .cons h r, _, _, _, ⟨⟨h0, h1⟩, h2⟩ => ⟨⟨by rw [h.length]; exact h0, DLeL.denC h h1⟩, DLeLL.denR r h2⟩
end

/-- a value may be looked at as another one: as data; nil as a row of one's own -/
inductive Fit (ob : List Ob) : SV → SV → Prop
  | refl (s : SV) : Fit ob s s
  | toD {s : SV} {x : D} (h : s.toD = some x) : Fit ob s (.d x)
  | nil {i k : Nat} {e : TypeId} (h : nthO i ob = some (.nilrow e k)) : Fit ob (.d (.v (.slice none 0 0))) (.own i k [])
  | nilD {k : Nat} : Fit ob (.d (.v (.slice none 0 0))) (.d (.sl k []))
  | junk (s : SV) : Fit ob s .junk
  | dle {s : SV} {x y : D} (h : s.toD = some x) (hl : DLe x y) : Fit ob s (.d y)
  | own {i k : Nat} {ls ls' : List (List D)} (h : DLeLL ls ls') : Fit ob (.own i k ls) (.own i k ls')
inductive FitL (ob : List Ob) : List SV → List SV → Prop
  | nil : FitL ob [] []
  | cons {s t : SV} {l m : List SV} (h : Fit ob s t) (r : FitL ob l m) : FitL ob (s :: l) (t :: m)

section
variable {GL : Nat → List D}
theorem Fit.den {ob : List Ob} {g : Gh} {w : World} (hs : StoreOk GL ob g w) {s t : SV} (h : Fit ob s t) {y : Value} (hd : s.Den g y) : t.Den g y := by
  cases h with
  | refl => exact hd
  | toD h => exact SV.Den.toD s hd h
  | junk => trivial
  | dle h hl => exact hl.den (SV.Den.toD s hd h)
  | own h =>
    obtain ⟨b, cap, e1, e2, e3, e4⟩ := hd
    exact ⟨b, cap, by rw [h.length]; exact e1, by rw [h.length]; exact e2, by rw [h.length]; exact e3, fun hn => by
      obtain ⟨c, e5, e6⟩ := e4 (fun h0 => by subst h0; cases h; exact hn rfl)
      exact ⟨c, e5, DLeLL.denR h e6⟩⟩
  | nil h =>
    have ho := nthO_eq h
    obtain ⟨p, hp⟩ := hs.place ho
    have hok := hs.obs _ _ _ ho hp
    simp only [ObOk] at hok; subst hok
    simp only [SV.Den, D.Den] at hd
    exact ⟨none, 0, hp, by rw [hd]; rfl, by simp, fun h => absurd rfl h⟩
  | nilD =>
    simp only [SV.Den, D.Den] at hd
    exact ⟨none, 0, by rw [hd]; rfl, by simp, fun h => absurd rfl h⟩
theorem FitL.den {ob : List Ob} {g : Gh} {w : World} (hs : StoreOk GL ob g w) : ∀ {l m : List SV}, FitL ob l m → ∀ {vs : List Value}, SDenL g l vs → SDenL g m vs
  | _, _, .nil, _, hd => hd
  | _, _, .cons h r, _, ⟨x, l', e, h1, h2⟩ => ⟨x, l', e, h.den hs h1, r.den hs h2⟩

/-- the callee's object is what the caller's is -/
inductive ObFit (ob : List Ob) (ρ : List Nat) : Ob → Ob → Prop
  | cells {lc l m : List SV} {ty : TypeId} (h : renL ρ lc = some m) (hf : FitL ob l m) : ObFit ob ρ (.cells lc ty) (.cells l ty)
  | row {e : TypeId} {k : Nat} : ObFit ob ρ (.row e k) (.row e k)
  | nrow {e : TypeId} {k : Nat} : ObFit ob ρ (.row e k) (.nilrow e k)
  | nnrow {e : TypeId} {k : Nat} : ObFit ob ρ (.nilrow e k) (.nilrow e k)
  | mapI {f : ByteArray → Option Int} : ObFit ob ρ (.mapI f) (.mapI f)
  | dead {o : Ob} : ObFit ob ρ .dead o
  | itI {k i : Nat} {f : ByteArray → Option Int} {dn : List (ByteArray × Int)} {cur cur' : Option (ByteArray × Int)} (hk : nthO k ρ = some i) (hc : cur = cur' ∨ cur = none) : ObFit ob ρ (.itI k f dn cur) (.itI i f dn cur')
/-- ρ names for each of obc's objects the one of ob that it is -/
inductive ObFits (ob : List Ob) (ρ : List Nat) : List Ob → List Nat → Prop
  | nil : ObFits ob ρ [] []
  | cons {oc o : Ob} {r : List Ob} {i : Nat} {is : List Nat} (hi : nthO i ob = some o) (h : ObFit ob ρ oc o) (hr : ObFits ob ρ r is) : ObFits ob ρ (oc :: r) (i :: is)

theorem ObFits.get {ob : List Ob} {ρ : List Nat} : ∀ {obc : List Ob} {is : List Nat}, ObFits ob ρ obc is → obc.length = is.length ∧ ∀ (k : Nat) oc, obc[k]? = some oc → ∃ i o, is[k]? = some i ∧ ob[i]? = some o ∧ ObFit ob ρ oc o
  | _, _, .nil => ⟨rfl, by simp⟩
  | _, _, .cons hi h hr => by
    have ih := hr.get
    refine ⟨by simp [ih.1], fun k oc hk => ?_⟩
    cases k with
    | zero => simp at hk; subst hk; exact ⟨_, _, rfl, nthO_eq hi, h⟩
    | succ k => simpa using ih.2 k oc (by simpa using hk)

theorem ObFit.blk {ob : List Ob} {ρ : List Nat} {oc o : Ob} {p : Pl} {b : Nat} (h : ObFit ob ρ oc o) (hb : blkOf oc p = some b) : blkOf o p = some b ∨ ∃ e k, o = .nilrow e k := by
  cases h <;> cases p <;> simp_all [blkOf]

/-- some of the objects, under other names -/
theorem StoreOk.sub {ob obc : List Ob} {ρ : List Nat} {g : Gh} {w : World} (h : StoreOk GL ob g w) (hf : ObFits ob ρ obc ρ) (hnd : ρ.Nodup) (hno : ∀ (j i : Nat) f dn cur, obc[j]? = some (.itI i f dn cur) → obc[i]? = some (.mapI f)) :
    StoreOk GL obc ⟨g.m, ρ.map fun i => g.gs.getD i (.loc 0)⟩ w ∧ RenB ρ ⟨g.m, ρ.map fun i => g.gs.getD i (.loc 0)⟩ g ∧ (∀ b, blocksOf obc ⟨g.m, ρ.map fun i => g.gs.getD i (.loc 0)⟩ b → ∃ (i k : Nat) (o : Ob) (p : Pl), ρ[k]? = some i ∧ ob[i]? = some o ∧ g.gs[i]? = some p ∧ blkOf o p = some b) := by
  have hget := hf.get
  have hpl : ∀ (k i : Nat) p, ρ[k]? = some i → g.gs[i]? = some p → (ρ.map fun i => g.gs.getD i (.loc 0))[k]? = some p := fun k i p h1 h2 => by
    rw [List.getElem?_map, h1]; simp [List.getD_eq_getElem?_getD, h2]
  have hrb : RenB ρ ⟨g.m, ρ.map fun i => g.gs.getD i (.loc 0)⟩ g := ⟨Mle.refl _, fun i j p h1 h2 => hpl i j p h1 h2⟩
  have hob : ∀ (k : Nat) oc p, obc[k]? = some oc → (ρ.map fun i => g.gs.getD i (.loc 0))[k]? = some p → ∃ i o, ρ[k]? = some i ∧ ob[i]? = some o ∧ g.gs[i]? = some p ∧ ObFit ob ρ oc o := fun k oc p h1 h2 => by
    obtain ⟨i, o, h3, h4, h5⟩ := hget.2 k oc h1
    obtain ⟨q, hq⟩ := h.place h4
    have := hpl k i q h3 hq
    rw [h2] at this; cases this
    exact ⟨i, o, h3, h4, hq, h5⟩
  have hblk : ∀ {oc o : Ob} {i : Nat} {p : Pl} {b : Nat}, ob[i]? = some o → g.gs[i]? = some p → ObFit ob ρ oc o → blkOf oc p = some b → blkOf o p = some b := fun {oc o i p b} h1 h2 h3 h4 => by
    rcases h3.blk h4 with h5 | ⟨e, k, rfl⟩
    · exact h5
    · have := h.obs _ _ _ h1 h2
      simp only [ObOk] at this; subst this
      cases oc <;> simp [blkOf] at h4
  refine ⟨⟨by simp [hget.1], fun k oc p h1 h2 => ?_, hno, fun i j oi oj pi pj b h1 h2 h3 h4 h5 h6 => ?_, h.sat, h.glob⟩, hrb, fun b hb => ?_⟩
  · obtain ⟨i, o, h3, h4, h5, h6⟩ := hob k oc p h1 h2
    have hok := h.obs i o p h4 h5
    cases h6 with
    | cells hr hfl =>
      cases p with
      | loc b =>
        obtain ⟨vs, e1, e2, e3⟩ := hok
        exact ⟨vs, e1, renL_back hrb _ hr (hfl.den h e2), e3⟩
      | row b c n => exact hok.elim
    | row => cases p with
      | loc b => exact hok.elim
      | row b c n => exact hok
    | nrow =>
      simp only [ObOk] at hok; subst hok
      exact ⟨⟨[], by simp, .inl ⟨rfl, rfl⟩⟩, fun c hc => by cases hc⟩
    | nnrow => exact hok
    | mapI => cases p with
      | loc b => exact hok
      | row b c n => exact hok.elim
    | dead => cases p <;> trivial
    | itI hk hc => cases p with
      | loc b =>
        obtain ⟨c, e1, e2, e3, e4⟩ := hok
        refine ⟨c, hrb.2 _ _ _ (nthO_eq hk) e1, e2, fun s n e => ?_, e4⟩
        rcases hc with rfl | rfl
        · exact e3 s n e
        · cases e
      | row b c n => exact hok.elim
  · obtain ⟨i1, o1, a1, a2, a3, a4⟩ := hob i oi pi h1 h3
    obtain ⟨i2, o2, b1, b2, b3, b4⟩ := hob j oj pj h2 h4
    have e := h.disj i1 i2 o1 o2 pi pj b a2 b2 a3 b3 (hblk a2 a3 a4 h5) (hblk b2 b3 b4 h6)
    subst e
    exact (List.getElem?_inj (List.getElem?_eq_some_iff.1 a1).1 hnd).1 (a1.trans b1.symm)
  · obtain ⟨k, oc, p, h1, h2, h3⟩ := hb
    obtain ⟨i, o, a1, a2, a3, a4⟩ := hob k oc p h1 h2
    exact ⟨i, k, o, p, a1, a2, a3, hblk a2 a3 a4 h3⟩

/-! what comes back -/
def appO {α : Type} : List α → List α → Option (List α)
  | [], m => some m
  | x :: l, m => (appO l m).bind fun r => some (x :: r)
theorem appO_eq {α : Type} : ∀ {l m r : List α}, appO l m = some r → r = l ++ m
  | [], m, r, h => by simp [appO] at h; simp [h]
  | x :: l, m, r, h => by
    simp only [appO, Option.bind_eq_some_iff, Option.some.injEq] at h
    obtain ⟨r', h1, rfl⟩ := h
    simp [appO_eq h1]
def set1 {α : Type} : Nat → α → List α → Option (List α)
  | _, _, [] => none
  | 0, y, _ :: l => some (y :: l)
  | n + 1, y, x :: l => (set1 n y l).bind fun r => some (x :: r)
theorem set1_eq {α : Type} : ∀ {n : Nat} {y : α} {l r : List α}, set1 n y l = some r → r = l.set n y ∧ n < l.length
  | 0, y, [], r, h => by cases h
  | n + 1, y, [], r, h => by cases h
  | 0, y, x :: l, r, h => by simp [set1] at h; subst h; simp
  | n + 1, y, x :: l, r, h => by
    simp only [set1, Option.bind_eq_some_iff, Option.some.injEq] at h
    obtain ⟨r', h1, rfl⟩ := h
    have := set1_eq h1
    simp [this.1, this.2]
def mergeO {α : Type} : List Nat → List α → List α → Option (List α)
  | [], l, rs => appO l rs
  | i :: ix, l, r :: rs => (set1 i r l).bind fun l' => mergeO ix l' rs
  | _ :: _, _, [] => none
/-- the names of what comes back: the given ones', then the next ones -/
def names (ix : List Nat) (n : Nat) : Nat → List Nat
  | 0 => ix
  | m + 1 => names (ix ++ [n]) (n + 1) m
theorem merge_get {α : Type} : ∀ {ix : List Nat} {l rs r : List α}, mergeO ix l rs = some r → ix.Nodup → ix.length ≤ rs.length ∧ (∀ i ∈ ix, i < l.length) ∧ r.length = l.length + (rs.length - ix.length) ∧
    (∀ (k i : Nat) x, ix[k]? = some i → rs[k]? = some x → r[i]? = some x) ∧ (∀ (i : Nat), i ∉ ix → i < l.length → r[i]? = l[i]?) ∧ (∀ k, ix.length ≤ k → r[l.length + (k - ix.length)]? = rs[k]?)
  | [], l, rs, r, h, _ => by
    have := appO_eq h
    subst this
    refine ⟨by simp, by simp, by simp, by simp, fun i _ hi => List.getElem?_append_left hi, fun k _ => ?_⟩
    rw [List.getElem?_append_right (by simp)]
    simp
  | i :: ix, l, [], r, h, _ => by cases h
  | i :: ix, l, y :: rs, r, h, hnd => by
    simp only [mergeO, Option.bind_eq_some_iff] at h
    obtain ⟨l', h1, h2⟩ := h
    obtain ⟨rfl, hil⟩ := set1_eq h1
    have hnd' := List.nodup_cons.1 hnd
    obtain ⟨a1, a2, a3, a4, a5, a6⟩ := merge_get h2 hnd'.2
    simp only [List.length_set] at a2 a3 a5 a6
    refine ⟨by simp; exact a1, ?_, by simp [a3], ?_, ?_, ?_⟩
    · intro j hj
      rcases List.mem_cons.1 hj with rfl | hj
      · exact hil
      · exact a2 j hj
    · intro k j x hk hx
      cases k with
      | zero =>
        simp at hk hx; subst hk hx
        rw [a5 i hnd'.1 hil]; simp [hil]
      | succ k => exact a4 k j x (by simpa using hk) (by simpa using hx)
    · intro j hj hl
      simp only [List.mem_cons, not_or] at hj
      rw [a5 j hj.2 hl, List.getElem?_set_ne (Ne.symm hj.1)]
    · intro k hk
      cases k with
      | zero => simp at hk
      | succ k =>
        have := a6 k (by simpa using hk)
        simp only [List.length_cons, Nat.add_sub_add_right]
        simpa using this
theorem names_len (ix : List Nat) (n : Nat) : ∀ m, (names ix n m).length = ix.length + m := by
  intro m
  induction m generalizing ix n with
  | zero => rfl
  | succ m ih => simp [names, ih]; omega
theorem names_get (ix : List Nat) (n : Nat) : ∀ m (k : Nat), k < ix.length + m → (names ix n m)[k]? = some (if h : k < ix.length then ix[k] else n + (k - ix.length)) := by
  intro m
  induction m generalizing ix n with
  | zero => intro k hk; simp at hk; simp [names, hk]
  | succ m ih =>
    intro k hk
    rw [names, ih (ix ++ [n]) (n + 1) k (by simp; omega)]
    simp only [List.length_append, List.length_singleton]
    by_cases h1 : k < ix.length
    · have : k < ix.length + 1 := by omega
      simp [h1, this]
    · by_cases h2 : k = ix.length
      · subst h2; simp
      · have : ¬ k < ix.length + 1 := by omega
        simp [h1, this]; omega

def Ob.ren (ρ : List Nat) : Ob → Option Ob
  | .cells l ty => (renL ρ l).bind fun l' => some (.cells l' ty)
  | .row e k => some (.row e k)
  | .nilrow e k => some (.nilrow e k)
  | .mapI f => some (.mapI f)
  | .itI _ _ _ _ => none
  | .dead => some .dead
def renOb (ρ : List Nat) : List Ob → Option (List Ob)
  | [] => some []
  | o :: r => (o.ren ρ).bind fun o' => (renOb ρ r).bind fun r' => some (o' :: r')
theorem renOb_get {ρ : List Nat} : ∀ {l l' : List Ob}, renOb ρ l = some l' → l'.length = l.length ∧ ∀ (j : Nat) o', l'[j]? = some o' → ∃ o, l[j]? = some o ∧ o.ren ρ = some o'
  | [], l', h => by simp [renOb] at h; subst h; simp
  | o :: r, l', h => by
    simp only [renOb, Option.bind_eq_some_iff, Option.some.injEq] at h
    obtain ⟨a', h1, b', h2, rfl⟩ := h
    have ih := renOb_get h2
    refine ⟨by simp [ih.1], fun j o' hj => ?_⟩
    cases j with
    | zero => simp at hj; subst hj; exact ⟨o, rfl, h1⟩
    | succ j => simpa using ih.2 j o' (by simpa using hj)
theorem ObOk.ren {ρ : List Nat} {g g' : Gh} {w : World} {o o' : Ob} {p : Pl} (h : RenG ρ g g') (hm : g'.m = g.m) (hr : o.ren ρ = some o') (hok : ObOk g w o p) : ObOk g' w o' p ∧ (∀ b, blkOf o' p = some b → blkOf o p = some b) := by
  cases o <;> simp only [Ob.ren, Option.bind_eq_some_iff, Option.some.injEq, reduceCtorEq] at hr
  case cells l ty =>
    obtain ⟨l', h1, rfl⟩ := hr
    cases p with
    | loc b => obtain ⟨vs, e1, e2, e3⟩ := hok; exact ⟨⟨vs, e1, renL_den h _ h1 e2, by rw [hm]; exact e3⟩, fun _ h => h⟩
    | row b c n => exact hok.elim
  case row e k =>
    subst hr
    cases p with
    | loc b => exact hok.elim
    | row b c n => exact ⟨by simpa only [ObOk, hm] using hok, fun _ h => h⟩
  case nilrow e k => subst hr; exact ⟨hok, fun _ h => h⟩
  case mapI f =>
    subst hr
    cases p with
    | loc b => exact ⟨by simpa only [ObOk, hm] using hok, fun _ h => h⟩
    | row b c n => exact hok.elim
  case dead => subst hr; exact ⟨by cases p <;> trivial, fun _ h => h⟩

def kSlL : List Nat → List (Nat × SV) → Option (List (Nat × SV))
  | [], l => some l
  | i :: ix, l => (kSl i l).bind fun l' => kSlL ix l'
def kObL : List Nat → List Ob → Option (List Ob)
  | [], l => some l
  | i :: ix, l => (kOb i l).bind fun l' => kObL ix l'
end
end Go.Vd
