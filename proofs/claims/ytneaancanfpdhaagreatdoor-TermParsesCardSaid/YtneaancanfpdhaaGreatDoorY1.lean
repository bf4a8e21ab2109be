/-
  What is proved here: data in memory that stays as it is, states of a function in which no address stands, and how both are tied to the model's world; over any program.
-/
import Derived.WalkKit
namespace Go.Vd
open Go Go.RowKit

/-- w' is w but for blocks of X, and new ones. -/
structure Fr (X : Nat → Prop) (w w' : World) : Prop where
  os : w'.os = w.os
  tape : w'.tape = w.tape
  output : w'.output = w.output
  size : w.heap.size ≤ w'.heap.size
  block : ∀ c, c < w.heap.size → ¬ X c → w'.heap[c]? = w.heap[c]?

theorem Fr.refl (X : Nat → Prop) (w : World) : Fr X w w := ⟨rfl, rfl, rfl, Nat.le_refl _, fun _ _ _ => rfl⟩
theorem Fr.mono {X Y : Nat → Prop} {a b : World} (h : Fr X a b) (hx : ∀ c, c < a.heap.size → X c → Y c) : Fr Y a b :=
  ⟨h.os, h.tape, h.output, h.size, fun c hc hy => h.block c hc (fun x => hy (hx c hc x))⟩
/-- two moves, the second one in blocks of the first's or in new ones -/
theorem Fr.then {X Y : Nat → Prop} {a b c : World} (h : Fr X a b) (k : Fr Y b c) (hy : ∀ i, Y i → X i ∨ a.heap.size ≤ i) : Fr X a c :=
  ⟨k.os.trans h.os, k.tape.trans h.tape, k.output.trans h.output, Nat.le_trans h.size k.size, fun i hi hx =>
    (k.block i (Nat.lt_of_lt_of_le hi h.size) (fun hyi => (hy i hyi).elim hx (fun hge => absurd hi (by omega)))).trans (h.block i hi hx)⟩
theorem Fr.trans {X : Nat → Prop} {a b c : World} (h : Fr X a b) (k : Fr X b c) : Fr X a c :=
  ⟨k.os.trans h.os, k.tape.trans h.tape, k.output.trans h.output, Nat.le_trans h.size k.size,
   fun i hi hx => (k.block i (Nat.lt_of_lt_of_le hi h.size) hx).trans (h.block i hi hx)⟩
theorem Fr.none {X : Nat → Prop} {a b : World} (h : Fr (fun _ => False) a b) : Fr X a b := h.mono fun _ _ x => x.elim
theorem Fr.alloc {X : Nat → Prop} {a b : World} (h : Fr X a b) (o : Obj) : Fr X a (b.alloc o) :=
  h.trans ⟨rfl, rfl, rfl, by simp, fun c hc _ => Below.heap_alloc b o c hc⟩
theorem Fr.drew {X : Nat → Prop} {a b : World} (h : Fr X a b) : Fr X a b.drew := ⟨h.os, h.tape, h.output, h.size, h.block⟩

/-! data that stays -/
inductive D where
  | v (x : Value)
  | agg (l : List D)
  | tup (l : List D)
  | sl (k : Nat) (l : List (List D))
  | cp (l : List D)
  | ifc (T : TypeId) (d : D)

abbrev Mem := Nat → Nat → Option Value

mutual
def D.Den (m : Mem) : D → Value → Prop
  | .v x, y => y = x
  | .agg l, y => ∃ vs, y = .agg ⟨vs⟩ ∧ DenL m l vs
  | .tup l, y => ∃ vs, y = .tuple ⟨vs⟩ ∧ DenL m l vs
  | .sl k ls, y => ∃ a cap, y = .slice a ls.length cap ∧ ls.length ≤ cap ∧ (ls ≠ [] → ∃ b off, a = some ⟨b, off, none⟩ ∧ DenR m k b off ls)
  | .cp l, y => ∃ b off, y = .pointer (some ⟨b, off, none⟩) ∧ DenC m b off l
  | .ifc T d, y => ∃ x, y = .iface T x ∧ d.Den m x
def DenL (m : Mem) : List D → List Value → Prop
  | [], l => l = []
  | d :: r, l => ∃ x l', l = x :: l' ∧ d.Den m x ∧ DenL m r l'
/-- the cells of block b, from off on -/
def DenC (m : Mem) (b : Nat) : Nat → List D → Prop
  | _, [] => True
  | off, d :: r => (∃ x, m b off = some x ∧ d.Den m x) ∧ DenC m b (off + 1) r
/-- elements of k cells each -/
def DenR (m : Mem) (k : Nat) (b : Nat) : Nat → List (List D) → Prop
  | _, [] => True
  | off, e :: r => (e.length = k ∧ DenC m b off e) ∧ DenR m k b (off + k) r
end

def Mle (m m' : Mem) : Prop := ∀ b o x, m b o = some x → m' b o = some x
theorem Mle.refl (m : Mem) : Mle m m := fun _ _ _ h => h
theorem Mle.trans {a b c : Mem} (h : Mle a b) (k : Mle b c) : Mle a c := fun i o x hx => k i o x (h i o x hx)

mutual
theorem D.Den.mono {m m' : Mem} (hm : Mle m m') : ∀ (d : D) {y : Value}, d.Den m y → d.Den m' y
  | .v x, y, h => h
  | .agg l, y, ⟨vs, e, h⟩ => ⟨vs, e, DenL.mono hm l h⟩
  | .tup l, y, ⟨vs, e, h⟩ => ⟨vs, e, DenL.mono hm l h⟩
  | .sl k ls, y, ⟨a, cap, e, hc, h⟩ => ⟨a, cap, e, hc, fun hn => by obtain ⟨b, off, e2, h2⟩ := h hn; exact ⟨b, off, e2, DenR.mono hm ls h2⟩⟩
  | .cp l, y, ⟨b, off, e, h⟩ => ⟨b, off, e, DenC.mono hm l h⟩
  | .ifc T d, y, ⟨x, e, h⟩ => ⟨x, e, D.Den.mono hm d h⟩
theorem DenL.mono {m m' : Mem} (hm : Mle m m') : ∀ (l : List D) {vs : List Value}, DenL m l vs → DenL m' l vs
  | [], _, h => h
  | d :: r, _, ⟨x, l', e, h1, h2⟩ => ⟨x, l', e, D.Den.mono hm d h1, DenL.mono hm r h2⟩
theorem DenC.mono {m m' : Mem} (hm : Mle m m') : ∀ (l : List D) {b off : Nat}, DenC m b off l → DenC m' b off l
  | [], _, _, _ => trivial
  | d :: r, _, _, ⟨⟨x, h1, h2⟩, h3⟩ => ⟨⟨x, hm _ _ _ h1, D.Den.mono hm d h2⟩, DenC.mono hm r h3⟩
theorem DenR.mono {m m' : Mem} (hm : Mle m m') {k : Nat} : ∀ (l : List (List D)) {b off : Nat}, DenR m k b off l → DenR m' k b off l
  | [], _, _, _ => trivial
  | e :: r, _, _, ⟨⟨h0, h1⟩, h2⟩ => ⟨⟨h0, DenC.mono hm e h1⟩, DenR.mono hm r h2⟩
end

theorem DenL.length {m : Mem} : ∀ {l : List D} {vs : List Value}, DenL m l vs → vs.length = l.length
  | [], _, h => by cases h; rfl
  | d :: r, _, ⟨x, l', e, _, h⟩ => by subst e; simp [DenL.length h]
theorem DenL.get {m : Mem} : ∀ {l : List D} {vs : List Value}, DenL m l vs → ∀ {i : Nat} {d : D}, l[i]? = some d → ∃ x, vs[i]? = some x ∧ d.Den m x
  | [], _, _, i, d, h => by simp at h
  | c :: r, _, ⟨x, l', e, hx, hl⟩, i, d, h => by
    subst e
    cases i with
    | zero => simp at h; subst h; exact ⟨x, by simp, hx⟩
    | succ i => simp at h; simpa using DenL.get hl h
theorem DenL.append {m : Mem} : ∀ {l : List D} {vs : List Value}, DenL m l vs → ∀ {l2 : List D} {vs2 : List Value}, DenL m l2 vs2 → DenL m (l ++ l2) (vs ++ vs2)
  | [], _, h, _, _, h2 => by cases h; exact h2
  | d :: r, _, ⟨x, l', e, hx, hl⟩, _, _, h2 => by subst e; exact ⟨x, l' ++ _, rfl, hx, DenL.append hl h2⟩
theorem DenC.get {m : Mem} {b : Nat} : ∀ {l : List D} {off : Nat}, DenC m b off l → ∀ {i : Nat} {d : D}, l[i]? = some d → ∃ x, m b (off + i) = some x ∧ d.Den m x
  | [], _, _, i, d, h => by simp at h
  | c :: r, off, ⟨h1, h2⟩, 0, d, h => by simp at h; subst h; simpa using h1
  | c :: r, off, ⟨h1, h2⟩, i + 1, d, h => by
    have := DenC.get h2 (i := i) (d := d) (by simpa using h)
    rwa [show off + 1 + i = off + (i + 1) by omega] at this
theorem DenC.drop {m : Mem} {b : Nat} : ∀ {l : List D} {off : Nat} (n : Nat), DenC m b off l → DenC m b (off + n) (l.drop n)
  | l, off, 0, h => by simpa using h
  | [], off, n + 1, h => by simp [DenC]
  | c :: r, off, n + 1, ⟨_, h⟩ => by
    have := DenC.drop n h
    rwa [show off + 1 + n = off + (n + 1) by omega] at this
theorem DenC.take {m : Mem} {b : Nat} : ∀ {l : List D} {off : Nat} (n : Nat), DenC m b off l → DenC m b off (l.take n)
  | l, off, 0, h => by simp [DenC]
  | [], off, n + 1, h => by simp [DenC]
  | c :: r, off, n + 1, ⟨h1, h⟩ => ⟨h1, DenC.take n h⟩
theorem DenC.append {m : Mem} {b : Nat} : ∀ {l : List D} {off : Nat}, DenC m b off l → ∀ {l2 : List D}, DenC m b (off + l.length) l2 → DenC m b off (l ++ l2)
  | [], off, _, l2, h => by simpa using h
  | c :: r, off, ⟨h1, h2⟩, l2, h => ⟨h1, DenC.append h2 (by rwa [show off + 1 + r.length = off + (c :: r).length by simp; omega])⟩
/-- the values of a row of cells -/
theorem DenC.vals {m : Mem} {b : Nat} : ∀ {l : List D} {off : Nat}, DenC m b off l → ∃ vs, DenL m l vs ∧ ∀ i x, vs[i]? = some x → m b (off + i) = some x
  | [], off, _ => ⟨[], rfl, by simp⟩
  | c :: r, off, ⟨⟨x, h1, h2⟩, h3⟩ => by
    obtain ⟨vs, h4, h5⟩ := DenC.vals h3
    refine ⟨x :: vs, ⟨x, vs, rfl, h2, h4⟩, fun i y hy => ?_⟩
    cases i with
    | zero => simp at hy; subst hy; exact h1
    | succ i => simp at hy; have := h5 i y hy; rwa [show off + 1 + i = off + (i + 1) by omega] at this
theorem DenC.of_vals {m : Mem} {b : Nat} : ∀ {l : List D} {vs : List Value} {off : Nat}, DenL m l vs → (∀ i x, vs[i]? = some x → m b (off + i) = some x) → DenC m b off l
  | [], _, _, _, _ => trivial
  | d :: r, _, off, ⟨x, l', e, h1, h2⟩, h => by
    subst e
    refine ⟨⟨x, by simpa using h 0 x rfl, h1⟩, DenC.of_vals h2 fun i y hy => ?_⟩
    have := h (i + 1) y (by simpa using hy)
    rwa [show off + (i + 1) = off + 1 + i by omega] at this
theorem DenR.get {m : Mem} {k b : Nat} : ∀ {l : List (List D)} {off : Nat}, DenR m k b off l → ∀ {i : Nat} {e : List D}, l[i]? = some e → e.length = k ∧ DenC m b (off + i * k) e
  | [], _, _, i, e, h => by simp at h
  | c :: r, off, ⟨h1, h2⟩, 0, e, h => by simp at h; subst h; simpa using h1
  | c :: r, off, ⟨h1, h2⟩, i + 1, e, h => by
    have := DenR.get h2 (i := i) (e := e) (by simpa using h)
    rwa [show off + k + i * k = off + (i + 1) * k by rw [Nat.add_mul]; omega] at this
theorem DenR.drop {m : Mem} {k b : Nat} : ∀ {l : List (List D)} {off : Nat} (n : Nat), DenR m k b off l → DenR m k b (off + n * k) (l.drop n)
  | l, off, 0, h => by simpa using h
  | [], off, n + 1, h => by simp [DenR]
  | c :: r, off, n + 1, ⟨_, h⟩ => by
    have := DenR.drop n h
    rwa [show off + k + n * k = off + (n + 1) * k by rw [Nat.add_mul]; omega] at this
theorem DenR.take {m : Mem} {k b : Nat} : ∀ {l : List (List D)} {off : Nat} (n : Nat), DenR m k b off l → DenR m k b off (l.take n)
  | l, off, 0, h => by simp [DenR]
  | [], off, n + 1, h => by simp [DenR]
  | c :: r, off, n + 1, ⟨h1, h⟩ => ⟨h1, DenR.take n h⟩
theorem DenR.append {m : Mem} {k b : Nat} : ∀ {l : List (List D)} {off : Nat}, DenR m k b off l → ∀ {l2 : List (List D)}, DenR m k b (off + l.length * k) l2 → DenR m k b off (l ++ l2)
  | [], off, _, l2, h => by simpa using h
  | c :: r, off, ⟨h1, h2⟩, l2, h => ⟨h1, DenR.append h2 (by
      rwa [show off + k + r.length * k = off + (c :: r).length * k by simp [Nat.add_mul]; omega])⟩

/-! values in a state -/
inductive Pl where
  | loc (b : Nat)
  | row (b : Option Nat) (cap n : Nat)

structure Gh where
  m : Mem
  gs : List Pl

inductive SV where
  | d (x : D)
  | blk (i off : Nat)
  | agg (l : List SV)
  | tup (l : List SV)
  | own (i k : Nat) (ls : List (List D))
  | fn (f : Fn) (first caps : List SV)
  | ifc (T : TypeId) (s : SV)
  | map (i : Nat)
  | rp (i : Nat)
  | junk

mutual
def SV.Den (g : Gh) : SV → Value → Prop
  | .d x, y => x.Den g.m y
  | .blk i off, y => ∃ b, g.gs[i]? = some (.loc b) ∧ y = .pointer (some ⟨b, off, none⟩)
  | .agg l, y => ∃ vs, y = .agg ⟨vs⟩ ∧ SDenL g l vs
  | .tup l, y => ∃ vs, y = .tuple ⟨vs⟩ ∧ SDenL g l vs
  | .own i k ls, y => ∃ b cap, g.gs[i]? = some (.row b cap ls.length) ∧ y = .slice (b.map fun b => ⟨b, 0, none⟩) ls.length cap ∧ ls.length ≤ cap ∧ (ls ≠ [] → ∃ c, b = some c ∧ DenR g.m k c 0 ls)
  | .fn f first caps, y => ∃ vs us, y = .func f ⟨vs⟩ ⟨us⟩ ∧ SDenL g first vs ∧ SDenL g caps us
  | .ifc T s, y => ∃ x, y = .iface T x ∧ s.Den g x
  | .map i, y => ∃ b, g.gs[i]? = some (.loc b) ∧ y = .map (some b)
  | .rp i, y => ∃ b cap n, g.gs[i]? = some (.row (some b) cap n) ∧ y = .pointer (some ⟨b, 0, none⟩)
  | .junk, _ => True
def SDenL (g : Gh) : List SV → List Value → Prop
  | [], l => l = []
  | s :: r, l => ∃ x l', l = x :: l' ∧ s.Den g x ∧ SDenL g r l'
end

theorem SDenL.length {g : Gh} : ∀ {l : List SV} {vs : List Value}, SDenL g l vs → vs.length = l.length
  | [], _, h => by cases h; rfl
  | d :: r, _, ⟨x, l', e, _, h⟩ => by subst e; simp [SDenL.length h]
theorem SDenL.get {g : Gh} : ∀ {l : List SV} {vs : List Value}, SDenL g l vs → ∀ {i : Nat} {d : SV}, l[i]? = some d → ∃ x, vs[i]? = some x ∧ d.Den g x
  | [], _, _, i, d, h => by simp at h
  | c :: r, _, ⟨x, l', e, hx, hl⟩, i, d, h => by
    subst e
    cases i with
    | zero => simp at h; subst h; exact ⟨x, by simp, hx⟩
    | succ i => simp at h; simpa using SDenL.get hl h
theorem SDenL.set {g : Gh} : ∀ {cs : List SV} {l : List Value}, SDenL g cs l → ∀ (i : Nat) {s : SV} {x : Value}, s.Den g x → SDenL g (cs.set i s) (l.set i x)
  | [], _, d, i, s, x, _ => by cases d; simp [SDenL]
  | c :: r, _, ⟨y, l', e, dy, dl⟩, i, s, x, dx => by
    subst e
    cases i with
    | zero => exact ⟨x, l', by simp, dx, dl⟩
    | succ i => exact ⟨y, l'.set i x, by simp, dy, SDenL.set dl i dx⟩
theorem SDenL.take {g : Gh} : ∀ {cs : List SV} {l : List Value}, SDenL g cs l → ∀ n, SDenL g (cs.take n) (l.take n)
  | [], _, d, n => by cases d; simp [SDenL]
  | c :: r, _, ⟨y, l', e, dy, dl⟩, n => by
    subst e
    cases n with
    | zero => simp [SDenL]
    | succ n => exact ⟨y, l'.take n, by simp, dy, SDenL.take dl n⟩
theorem SDenL.drop {g : Gh} : ∀ {cs : List SV} {l : List Value}, SDenL g cs l → ∀ n, SDenL g (cs.drop n) (l.drop n)
  | [], _, d, n => by cases d; simp [SDenL]
  | c :: r, _, ⟨y, l', e, dy, dl⟩, n => by
    subst e
    cases n with
    | zero => exact ⟨y, l', rfl, dy, dl⟩
    | succ n => simpa using SDenL.drop dl n
theorem SDenL.append {g : Gh} : ∀ {cs : List SV} {l : List Value}, SDenL g cs l → ∀ {ds : List SV} {m : List Value}, SDenL g ds m → SDenL g (cs ++ ds) (l ++ m)
  | [], _, d, ds, m, dm => by cases d; simpa using dm
  | c :: r, _, ⟨y, l', e, dy, dl⟩, ds, m, dm => by subst e; exact ⟨y, l' ++ m, rfl, dy, SDenL.append dl dm⟩
theorem SDenL.ofd {g : Gh} : ∀ {l : List D} {vs : List Value}, DenL g.m l vs → SDenL g (l.map SV.d) vs
  | [], _, h => h
  | d :: r, _, ⟨x, l', e, h1, h2⟩ => ⟨x, l', e, h1, SDenL.ofd h2⟩
theorem SDenL.ofv {g : Gh} : ∀ (l : List Value), SDenL g (l.map fun x => SV.d (.v x)) l
  | [] => rfl
  | x :: r => ⟨x, r, rfl, rfl, SDenL.ofv r⟩

/-- where is what it was, the value means the same -/
structure Gle (g g' : Gh) : Prop where
  m : Mle g.m g'.m
  gs : ∀ (i : Nat) p, g.gs[i]? = some p → g'.gs[i]? = some p
theorem Gle.refl (g : Gh) : Gle g g := ⟨Mle.refl _, fun _ _ h => h⟩
mutual
theorem SV.Den.mono {g g' : Gh} (h : Gle g g') : ∀ (s : SV) {y : Value}, s.Den g y → s.Den g' y
  | .d x, y, hd => D.Den.mono h.m x hd
  | .blk i off, y, ⟨b, hb, e⟩ => ⟨b, h.gs _ _ hb, e⟩
  | .agg l, y, ⟨vs, e, hd⟩ => ⟨vs, e, SDenL.mono h l hd⟩
  | .tup l, y, ⟨vs, e, hd⟩ => ⟨vs, e, SDenL.mono h l hd⟩
  | .own i k ls, y, ⟨b, cap, hb, e, hc, hd⟩ => ⟨b, cap, h.gs _ _ hb, e, hc, fun hn => by obtain ⟨c, e2, h2⟩ := hd hn; exact ⟨c, e2, DenR.mono h.m ls h2⟩⟩
  | .fn f first caps, y, ⟨vs, us, e, h1, h2⟩ => ⟨vs, us, e, SDenL.mono h first h1, SDenL.mono h caps h2⟩
  | .ifc T s, y, ⟨x, e, hd⟩ => ⟨x, e, SV.Den.mono h s hd⟩
  | .map i, y, ⟨b, hb, e⟩ => ⟨b, h.gs _ _ hb, e⟩
  | .rp i, y, ⟨b, cap, n, hb, e⟩ => ⟨b, cap, n, h.gs _ _ hb, e⟩
  | .junk, _, _ => trivial
theorem SDenL.mono {g g' : Gh} (h : Gle g g') : ∀ (l : List SV) {vs : List Value}, SDenL g l vs → SDenL g' l vs
  | [], _, hd => hd
  | s :: r, _, ⟨x, l', e, h1, h2⟩ => ⟨x, l', e, SV.Den.mono h s h1, SDenL.mono h r h2⟩
end

theorem own_sl {g : Gh} {i k : Nat} {ls : List (List D)} {y : Value} (h : (SV.own i k ls).Den g y) : (D.sl k ls).Den g.m y := by
  obtain ⟨b, cap, hb, e, hc, hd⟩ := h
  exact ⟨_, cap, e, hc, fun hn => by obtain ⟨c, e2, h2⟩ := hd hn; subst e2; exact ⟨c, 0, rfl, h2⟩⟩

mutual
/-- row i is no longer the state's to write -/
def SV.kill (p : Nat → Bool) : SV → SV
  | .own i k ls => cond (p i) (.d (.sl k ls)) (.own i k ls)
  | .agg l => .agg (killL p l)
  | .tup l => .tup (killL p l)
  | .fn f first caps => .fn f (killL p first) (killL p caps)
  | .ifc T s => .ifc T (s.kill p)
  | .d x => .d x
  | .blk i off => .blk i off
  | .map i => .map i
  | .rp i => cond (p i) .junk (.rp i)
  | .junk => .junk
def killL (p : Nat → Bool) : List SV → List SV
  | [] => []
  | s :: r => s.kill p :: killL p r
end
/-- places but those of p's rows stay -/
structure Gkl (p : Nat → Bool) (g g' : Gh) : Prop where
  m : Mle g.m g'.m
  gs : ∀ (i : Nat) q, g.gs[i]? = some q → p i = false → g'.gs[i]? = some q
  at' : ∀ (i b : Nat), g.gs[i]? = some (.loc b) → g'.gs[i]? = some (.loc b)
mutual
theorem SV.Den.kill {p : Nat → Bool} {g g' : Gh} (h : Gkl p g g') : ∀ (s : SV) {y : Value}, s.Den g y → (s.kill p).Den g' y
  | .d x, y, hd => D.Den.mono h.m x hd
  | .blk i off, y, ⟨b, hb, e⟩ => ⟨b, h.at' _ _ hb, e⟩
  | .agg l, y, ⟨vs, e, hd⟩ => ⟨vs, e, SDenL.kill h l hd⟩
  | .tup l, y, ⟨vs, e, hd⟩ => ⟨vs, e, SDenL.kill h l hd⟩
  | .own i k ls, y, hd => by
    unfold SV.kill
    cases hp : p i with
    | true => exact D.Den.mono h.m _ (own_sl hd)
    | false =>
      obtain ⟨b, cap, hb, e, hc, hd⟩ := hd
      exact ⟨b, cap, h.gs _ _ hb hp, e, hc, fun hn => by obtain ⟨c, e2, h2⟩ := hd hn; exact ⟨c, e2, DenR.mono h.m ls h2⟩⟩
  | .fn f first caps, y, ⟨vs, us, e, h1, h2⟩ => ⟨vs, us, e, SDenL.kill h first h1, SDenL.kill h caps h2⟩
  | .ifc T s, y, ⟨x, e, hd⟩ => ⟨x, e, SV.Den.kill h s hd⟩
  | .map i, y, ⟨b, hb, e⟩ => ⟨b, h.at' _ _ hb, e⟩
  | .rp i, y, hd => by
    unfold SV.kill
    cases hp : p i with
    | true => trivial
    | false => obtain ⟨b, cap, n, hb, e⟩ := hd; exact ⟨b, cap, n, h.gs _ _ hb hp, e⟩
  | .junk, _, _ => trivial
theorem SDenL.kill {p : Nat → Bool} {g g' : Gh} (h : Gkl p g g') : ∀ (l : List SV) {vs : List Value}, SDenL g l vs → SDenL g' (killL p l) vs
  | [], _, hd => hd
  | s :: r, _, ⟨x, l', e, h1, h2⟩ => ⟨x, l', e, SV.Den.kill h s h1, SDenL.kill h r h2⟩
end

mutual
/-- a value in which nothing of the state's own stands -/
def SV.toD : SV → Option D
  | .d x => some x
  | .agg l => (toDL l).bind fun l' => some (.agg l')
  | .tup l => (toDL l).bind fun l' => some (.tup l')
  | .own _ k ls => some (.sl k ls)
  | .ifc T s => s.toD.bind fun d => some (.ifc T d)
  | _ => none
def toDL : List SV → Option (List D)
  | [] => some []
  | s :: r => s.toD.bind fun d => (toDL r).bind fun l => some (d :: l)
end
mutual
theorem SV.Den.toD {g : Gh} : ∀ (s : SV) {y : Value} {x : D}, s.Den g y → s.toD = some x → x.Den g.m y
  | .d x, y, x', hd, h => by simp [SV.toD] at h; subst h; exact hd
  | .agg l, y, x, ⟨vs, e, hd⟩, h => by
    simp only [SV.toD, Option.bind_eq_some_iff, Option.some.injEq] at h
    obtain ⟨l', hl, rfl⟩ := h
    exact ⟨vs, e, SDenL.toD l hd hl⟩
  | .tup l, y, x, ⟨vs, e, hd⟩, h => by
    simp only [SV.toD, Option.bind_eq_some_iff, Option.some.injEq] at h
    obtain ⟨l', hl, rfl⟩ := h
    exact ⟨vs, e, SDenL.toD l hd hl⟩
  | .own i k ls, y, x, hd, h => by simp [SV.toD] at h; subst h; exact own_sl hd
  | .ifc T s, y, x, ⟨z, e, hd⟩, h => by
    simp only [SV.toD, Option.bind_eq_some_iff, Option.some.injEq] at h
    obtain ⟨d, hd', rfl⟩ := h
    exact ⟨z, e, SV.Den.toD s hd hd'⟩
  | .blk _ _, _, _, _, h => by simp [SV.toD] at h
  | .fn _ _ _, _, _, _, h => by simp [SV.toD] at h
  | .map _, _, _, _, h => by simp [SV.toD] at h
  | .rp _, _, _, _, h => by simp [SV.toD] at h
  | .junk, _, _, _, h => by simp [SV.toD] at h
theorem SDenL.toD {g : Gh} : ∀ (l : List SV) {vs : List Value} {ds : List D}, SDenL g l vs → toDL l = some ds → DenL g.m ds vs
  | [], vs, ds, hd, h => by simp [toDL] at h; subst h; exact hd
  | s :: r, vs, ds, ⟨x, l', e, h1, h2⟩, h => by
    simp only [toDL, Option.bind_eq_some_iff, Option.some.injEq] at h
    obtain ⟨d, hd, l2, hl2, rfl⟩ := h
    exact ⟨x, l', e, SV.Den.toD s h1 hd, SDenL.toD r h2 hl2⟩
end

/-! the state's own objects -/
inductive Ob where
  | cells (l : List SV) (ty : TypeId)
  | row (e : TypeId) (k : Nat)
  | nilrow (e : TypeId) (k : Nat)
  | mapI (f : ByteArray → Option Int)
  | itI (i : Nat) (f : ByteArray → Option Int) (dn : List (ByteArray × Int)) (cur : Option (ByteArray × Int))
  | dead
end Go.Vd
