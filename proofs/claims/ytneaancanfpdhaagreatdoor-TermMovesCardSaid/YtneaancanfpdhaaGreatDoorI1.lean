/-
  What is proved here, text by text: data in memory that stays as it is, states of a function in which no address stands, and how both are tied to the model's world; over any program. maps from texts to numbers in memory: what a look-up, a store, a deletion and a range over one do; over any program P. what it means that a state's objects lie in memory, and that they lie there still behind a step; over any program. what the rules ask of a type, and what a load does where the cells are known; over any program. rules for the operations that only look, over any program. rules for loads and structs, and for the operations that make or write memory, over any program. what a slice literal and an append do to memory; over any program. how a state goes on when its objects are made, written, appended to or given up; over any program. contracts of functions, in which no address stands, and what a call by one does to a state; over any program. a call by a contract takes a state to the next one; over any program. rules for regions, branches, blocks, loops, calls and whole functions; over any program.
-/
import Derived.WalkKit
import Derived.Carry
import Derived.MapKept
import Derived.Laws.IdiomRangeMap
import Derived.Great.BuildSlice
import Derived.Laws.AppendOwn
namespace Go.Vd
open Go Go.RowKit
/-- w' is w but for blocks of X, and new ones. -/
structure Fr (X : Nat → Prop) (w w' : World) : Prop where
  os : w'.os = w.os
  tape : w'.tape = w.tape
  output : w'.output = w.output
  size : w.heap.size ≤ w'.heap.size
  block : ∀ c, c < w.heap.size → ¬ X c → w'.heap[c]? = w.heap[c]?
theorem Fr.refl (X : Nat → Prop) (w : World) : Fr X w w := ⟨rfl, rfl, rfl, Nat.le_refl _, fun _ _ _ => rfl⟩
theorem Fr.mono {X Y : Nat → Prop} {a b : World} (h : Fr X a b) (hx : ∀ c, c < a.heap.size → X c → Y c) : Fr Y a b :=
  ⟨h.os, h.tape, h.output, h.size, fun c hc hy => h.block c hc (fun x => hy (hx c hc x))⟩
/-- two moves, the second one in blocks of the first's or in new ones -/
theorem Fr.then {X Y : Nat → Prop} {a b c : World} (h : Fr X a b) (k : Fr Y b c) (hy : ∀ i, Y i → X i ∨ a.heap.size ≤ i) : Fr X a c :=
  ⟨k.os.trans h.os, k.tape.trans h.tape, k.output.trans h.output, Nat.le_trans h.size k.size, fun i hi hx =>
    (k.block i (Nat.lt_of_lt_of_le hi h.size) (fun hyi => (hy i hyi).elim hx (fun hge => absurd hi (by omega)))).trans (h.block i hi hx)⟩
theorem Fr.trans {X : Nat → Prop} {a b c : World} (h : Fr X a b) (k : Fr X b c) : Fr X a c :=
  ⟨k.os.trans h.os, k.tape.trans h.tape, k.output.trans h.output, Nat.le_trans h.size k.size,
   fun i hi hx => (k.block i (Nat.lt_of_lt_of_le hi h.size) hx).trans (h.block i hi hx)⟩
theorem Fr.none {X : Nat → Prop} {a b : World} (h : Fr (fun _ => False) a b) : Fr X a b := h.mono fun _ _ x => x.elim
theorem Fr.alloc {X : Nat → Prop} {a b : World} (h : Fr X a b) (o : Obj) : Fr X a (b.alloc o) :=
  h.trans ⟨rfl, rfl, rfl, by simp, fun c hc _ => Below.heap_alloc b o c hc⟩
theorem Fr.drew {X : Nat → Prop} {a b : World} (h : Fr X a b) : Fr X a b.drew := ⟨h.os, h.tape, h.output, h.size, h.block⟩
/-! data that stays -/
inductive D where
  | v (x : Value)
  | agg (l : List D)
  | tup (l : List D)
  | sl (k : Nat) (l : List (List D))
  | cp (l : List D)
  | ifc (T : TypeId) (d : D)
abbrev Mem := Nat → Nat → Option Value
mutual
def D.Den (m : Mem) : D → Value → Prop
  | .v x, y => y = x
  | .agg l, y => ∃ vs, y = .agg ⟨vs⟩ ∧ DenL m l vs
  | .tup l, y => ∃ vs, y = .tuple ⟨vs⟩ ∧ DenL m l vs
  | .sl k ls, y => ∃ a cap, y = .slice a ls.length cap ∧ ls.length ≤ cap ∧ (ls ≠ [] → ∃ b off, a = some ⟨b, off, none⟩ ∧ DenR m k b off ls)
  | .cp l, y => ∃ b off, y = .pointer (some ⟨b, off, none⟩) ∧ DenC m b off l
  | .ifc T d, y => ∃ x, y = .iface T x ∧ d.Den m x
def DenL (m : Mem) : List D → List Value → Prop
  | [], l => l = []
  | d :: r, l => ∃ x l', l = x :: l' ∧ d.Den m x ∧ DenL m r l'
/-- the cells of block b, from off on -/
def DenC (m : Mem) (b : Nat) : Nat → List D → Prop
  | _, [] => True
  | off, d :: r => (∃ x, m b off = some x ∧ d.Den m x) ∧ DenC m b (off + 1) r
/-- elements of k cells each -/
def DenR (m : Mem) (k : Nat) (b : Nat) : Nat → List (List D) → Prop
  | _, [] => True
  | off, e :: r => (e.length = k ∧ DenC m b off e) ∧ DenR m k b (off + k) r
end
def Mle (m m' : Mem) : Prop := ∀ b o x, m b o = some x → m' b o = some x
theorem Mle.refl (m : Mem) : Mle m m := fun _ _ _ h => h
theorem Mle.trans {a b c : Mem} (h : Mle a b) (k : Mle b c) : Mle a c := fun i o x hx => k i o x (h i o x hx)
mutual
theorem D.Den.mono {m m' : Mem} (hm : Mle m m') : ∀ (d : D) {y : Value}, d.Den m y → d.Den m' y
  | .v x, y, h => h
  | .agg l, y, ⟨vs, e, h⟩ => ⟨vs, e, DenL.mono hm l h⟩
  | .tup l, y, ⟨vs, e, h⟩ => ⟨vs, e, DenL.mono hm l h⟩
  | .sl k ls, y, ⟨a, cap, e, hc, h⟩ => ⟨a, cap, e, hc, fun hn => by obtain ⟨b, off, e2, h2⟩ := h hn; exact ⟨b, off, e2, DenR.mono hm ls h2⟩⟩
  | .cp l, y, ⟨b, off, e, h⟩ => ⟨b, off, e, DenC.mono hm l h⟩
  | .ifc T d, y, ⟨x, e, h⟩ => ⟨x, e, D.Den.mono hm d h⟩
theorem DenL.mono {m m' : Mem} (hm : Mle m m') : ∀ (l : List D) {vs : List Value}, DenL m l vs → DenL m' l vs
  | [], _, h => h
  | d :: r, _, ⟨x, l', e, h1, h2⟩ => ⟨x, l', e, D.Den.mono hm d h1, DenL.mono hm r h2⟩
theorem DenC.mono {m m' : Mem} (hm : Mle m m') : ∀ (l : List D) {b off : Nat}, DenC m b off l → DenC m' b off l
  | [], _, _, _ => trivial
  | d :: r, _, _, ⟨⟨x, h1, h2⟩, h3⟩ => ⟨⟨x, hm _ _ _ h1, D.Den.mono hm d h2⟩, DenC.mono hm r h3⟩
theorem DenR.mono {m m' : Mem} (hm : Mle m m') {k : Nat} : ∀ (l : List (List D)) {b off : Nat}, DenR m k b off l → DenR m' k b off l
  | [], _, _, _ => trivial
  | e :: r, _, _, ⟨⟨h0, h1⟩, h2⟩ => ⟨⟨h0, DenC.mono hm e h1⟩, DenR.mono hm r h2⟩
end
theorem DenL.length {m : Mem} : ∀ {l : List D} {vs : List Value}, DenL m l vs → vs.length = l.length
  | [], _, h => by cases h; rfl
  | d :: r, _, ⟨x, l', e, _, h⟩ => by subst e; simp [DenL.length h]
theorem DenL.get {m : Mem} : ∀ {l : List D} {vs : List Value}, DenL m l vs → ∀ {i : Nat} {d : D}, l[i]? = some d → ∃ x, vs[i]? = some x ∧ d.Den m x
  | [], _, _, i, d, h => by simp at h
  | c :: r, _, ⟨x, l', e, hx, hl⟩, i, d, h => by
    subst e
    cases i with
    | zero => simp at h; subst h; exact ⟨x, by simp, hx⟩
    | succ i => simp at h; simpa using DenL.get hl h
theorem DenL.append {m : Mem} : ∀ {l : List D} {vs : List Value}, DenL m l vs → ∀ {l2 : List D} {vs2 : List Value}, DenL m l2 vs2 → DenL m (l ++ l2) (vs ++ vs2)
  | [], _, h, _, _, h2 => by cases h; exact h2
  | d :: r, _, ⟨x, l', e, hx, hl⟩, _, _, h2 => by subst e; exact ⟨x, l' ++ _, rfl, hx, DenL.append hl h2⟩
theorem DenC.get {m : Mem} {b : Nat} : ∀ {l : List D} {off : Nat}, DenC m b off l → ∀ {i : Nat} {d : D}, l[i]? = some d → ∃ x, m b (off + i) = some x ∧ d.Den m x
  | [], _, _, i, d, h => by simp at h
  | c :: r, off, ⟨h1, h2⟩, 0, d, h => by simp at h; subst h; simpa using h1
  | c :: r, off, ⟨h1, h2⟩, i + 1, d, h => by
    have := DenC.get h2 (i := i) (d := d) (by simpa using h)
    rwa [show off + 1 + i = off + (i + 1) by omega] at this
theorem DenC.drop {m : Mem} {b : Nat} : ∀ {l : List D} {off : Nat} (n : Nat), DenC m b off l → DenC m b (off + n) (l.drop n)
  | l, off, 0, h => by simpa using h
  | [], off, n + 1, h => by simp [DenC]
  | c :: r, off, n + 1, ⟨_, h⟩ => by
    have := DenC.drop n h
    rwa [show off + 1 + n = off + (n + 1) by omega] at this
theorem DenC.take {m : Mem} {b : Nat} : ∀ {l : List D} {off : Nat} (n : Nat), DenC m b off l → DenC m b off (l.take n)
  | l, off, 0, h => by simp [DenC]
  | [], off, n + 1, h => by simp [DenC]
  | c :: r, off, n + 1, ⟨h1, h⟩ => ⟨h1, DenC.take n h⟩
theorem DenC.append {m : Mem} {b : Nat} : ∀ {l : List D} {off : Nat}, DenC m b off l → ∀ {l2 : List D}, DenC m b (off + l.length) l2 → DenC m b off (l ++ l2)
  | [], off, _, l2, h => by simpa using h
  | c :: r, off, ⟨h1, h2⟩, l2, h => ⟨h1, DenC.append h2 (by rwa [show off + 1 + r.length = off + (c :: r).length by simp; omega])⟩
/-- the values of a row of cells -/
theorem DenC.vals {m : Mem} {b : Nat} : ∀ {l : List D} {off : Nat}, DenC m b off l → ∃ vs, DenL m l vs ∧ ∀ i x, vs[i]? = some x → m b (off + i) = some x
  | [], off, _ => ⟨[], rfl, by simp⟩
  | c :: r, off, ⟨⟨x, h1, h2⟩, h3⟩ => by
    obtain ⟨vs, h4, h5⟩ := DenC.vals h3
    refine ⟨x :: vs, ⟨x, vs, rfl, h2, h4⟩, fun i y hy => ?_⟩
    cases i with
    | zero => simp at hy; subst hy; exact h1
    | succ i => simp at hy; have := h5 i y hy; rwa [show off + 1 + i = off + (i + 1) by omega] at this
theorem DenC.of_vals {m : Mem} {b : Nat} : ∀ {l : List D} {vs : List Value} {off : Nat}, DenL m l vs → (∀ i x, vs[i]? = some x → m b (off + i) = some x) → DenC m b off l
  | [], _, _, _, _ => trivial
  | d :: r, _, off, ⟨x, l', e, h1, h2⟩, h => by
    subst e
    refine ⟨⟨x, by simpa using h 0 x rfl, h1⟩, DenC.of_vals h2 fun i y hy => ?_⟩
    have := h (i + 1) y (by simpa using hy)
    rwa [show off + (i + 1) = off + 1 + i by omega] at this
theorem DenR.get {m : Mem} {k b : Nat} : ∀ {l : List (List D)} {off : Nat}, DenR m k b off l → ∀ {i : Nat} {e : List D}, l[i]? = some e → e.length = k ∧ DenC m b (off + i * k) e
  | [], _, _, i, e, h => by simp at h
  | c :: r, off, ⟨h1, h2⟩, 0, e, h => by simp at h; subst h; simpa using h1
  | c :: r, off, ⟨h1, h2⟩, i + 1, e, h => by
    have := DenR.get h2 (i := i) (e := e) (by simpa using h)
    rwa [show off + k + i * k = off + (i + 1) * k by rw [Nat.add_mul]; omega] at this
theorem DenR.drop {m : Mem} {k b : Nat} : ∀ {l : List (List D)} {off : Nat} (n : Nat), DenR m k b off l → DenR m k b (off + n * k) (l.drop n)
  | l, off, 0, h => by simpa using h
  | [], off, n + 1, h => by simp [DenR]
  | c :: r, off, n + 1, ⟨_, h⟩ => by
    have := DenR.drop n h
    rwa [show off + k + n * k = off + (n + 1) * k by rw [Nat.add_mul]; omega] at this
theorem DenR.take {m : Mem} {k b : Nat} : ∀ {l : List (List D)} {off : Nat} (n : Nat), DenR m k b off l → DenR m k b off (l.take n)
  | l, off, 0, h => by simp [DenR]
  | [], off, n + 1, h => by simp [DenR]
  | c :: r, off, n + 1, ⟨h1, h⟩ => ⟨h1, DenR.take n h⟩
theorem DenR.append {m : Mem} {k b : Nat} : ∀ {l : List (List D)} {off : Nat}, DenR m k b off l → ∀ {l2 : List (List D)}, DenR m k b (off + l.length * k) l2 → DenR m k b off (l ++ l2)
  | [], off, _, l2, h => by simpa using h
  | c :: r, off, ⟨h1, h2⟩, l2, h => ⟨h1, DenR.append h2 (by
      rwa [show off + k + r.length * k = off + (c :: r).length * k by simp [Nat.add_mul]; omega])⟩
/-! values in a state -/
inductive Pl where
  | loc (b : Nat)
  | row (b : Option Nat) (cap n : Nat)
structure Gh where
  m : Mem
  gs : List Pl
inductive SV where
  | d (x : D)
  | blk (i off : Nat)
  | agg (l : List SV)
  | tup (l : List SV)
  | own (i k : Nat) (ls : List (List D))
  | fn (f : Fn) (first caps : List SV)
  | ifc (T : TypeId) (s : SV)
  | map (i : Nat)
  | rp (i : Nat)
  | arr (i n : Nat)
  | bp (i off : Nat)
  | ful (k : Nat) (ls : List (List D))
  | junk
mutual
def SV.Den (g : Gh) : SV → Value → Prop
  | .d x, y => x.Den g.m y
  | .blk i off, y => ∃ b, g.gs[i]? = some (.loc b) ∧ y = .pointer (some ⟨b, off, none⟩)
  | .agg l, y => ∃ vs, y = .agg ⟨vs⟩ ∧ SDenL g l vs
  | .tup l, y => ∃ vs, y = .tuple ⟨vs⟩ ∧ SDenL g l vs
  | .own i k ls, y => ∃ b cap, g.gs[i]? = some (.row b cap ls.length) ∧ y = .slice (b.map fun b => ⟨b, 0, none⟩) ls.length cap ∧ ls.length ≤ cap ∧ (ls ≠ [] → ∃ c, b = some c ∧ DenR g.m k c 0 ls)
  | .fn f first caps, y => ∃ vs us, y = .func f ⟨vs⟩ ⟨us⟩ ∧ SDenL g first vs ∧ SDenL g caps us
  | .ifc T s, y => ∃ x, y = .iface T x ∧ s.Den g x
  | .map i, y => ∃ b, g.gs[i]? = some (.loc b) ∧ y = .map (some b)
  | .rp i, y => ∃ b cap n, g.gs[i]? = some (.row (some b) cap n) ∧ y = .pointer (some ⟨b, 0, none⟩)
  | .arr i n, y => ∃ b cap, g.gs[i]? = some (.row b cap n) ∧ y = .slice (b.map fun b => ⟨b, 0, none⟩) n cap
  | .bp i off, y => ∃ b cap n, g.gs[i]? = some (.row (some b) cap n) ∧ y = .pointer (some ⟨b, off, none⟩)
  | .ful k ls, y => ∃ a, y = .slice a ls.length ls.length ∧ (ls ≠ [] → ∃ b off, a = some ⟨b, off, none⟩ ∧ DenR g.m k b off ls)
  | .junk, _ => True
def SDenL (g : Gh) : List SV → List Value → Prop
  | [], l => l = []
  | s :: r, l => ∃ x l', l = x :: l' ∧ s.Den g x ∧ SDenL g r l'
end
theorem SDenL.length {g : Gh} : ∀ {l : List SV} {vs : List Value}, SDenL g l vs → vs.length = l.length
  | [], _, h => by cases h; rfl
  | d :: r, _, ⟨x, l', e, _, h⟩ => by subst e; simp [SDenL.length h]
theorem SDenL.get {g : Gh} : ∀ {l : List SV} {vs : List Value}, SDenL g l vs → ∀ {i : Nat} {d : SV}, l[i]? = some d → ∃ x, vs[i]? = some x ∧ d.Den g x
  | [], _, _, i, d, h => by simp at h
  | c :: r, _, ⟨x, l', e, hx, hl⟩, i, d, h => by
    subst e
    cases i with
    | zero => simp at h; subst h; exact ⟨x, by simp, hx⟩
    | succ i => simp at h; simpa using SDenL.get hl h
theorem SDenL.set {g : Gh} : ∀ {cs : List SV} {l : List Value}, SDenL g cs l → ∀ (i : Nat) {s : SV} {x : Value}, s.Den g x → SDenL g (cs.set i s) (l.set i x)
  | [], _, d, i, s, x, _ => by cases d; simp [SDenL]
  | c :: r, _, ⟨y, l', e, dy, dl⟩, i, s, x, dx => by
    subst e
    cases i with
    | zero => exact ⟨x, l', by simp, dx, dl⟩
    | succ i => exact ⟨y, l'.set i x, by simp, dy, SDenL.set dl i dx⟩
theorem SDenL.take {g : Gh} : ∀ {cs : List SV} {l : List Value}, SDenL g cs l → ∀ n, SDenL g (cs.take n) (l.take n)
  | [], _, d, n => by cases d; simp [SDenL]
  | c :: r, _, ⟨y, l', e, dy, dl⟩, n => by
    subst e
    cases n with
    | zero => simp [SDenL]
    | succ n => exact ⟨y, l'.take n, by simp, dy, SDenL.take dl n⟩
theorem SDenL.drop {g : Gh} : ∀ {cs : List SV} {l : List Value}, SDenL g cs l → ∀ n, SDenL g (cs.drop n) (l.drop n)
  | [], _, d, n => by cases d; simp [SDenL]
  | c :: r, _, ⟨y, l', e, dy, dl⟩, n => by
    subst e
    cases n with
    | zero => exact ⟨y, l', rfl, dy, dl⟩
    | succ n => simpa using SDenL.drop dl n
theorem SDenL.append {g : Gh} : ∀ {cs : List SV} {l : List Value}, SDenL g cs l → ∀ {ds : List SV} {m : List Value}, SDenL g ds m → SDenL g (cs ++ ds) (l ++ m)
  | [], _, d, ds, m, dm => by cases d; simpa using dm
  | c :: r, _, ⟨y, l', e, dy, dl⟩, ds, m, dm => by subst e; exact ⟨y, l' ++ m, rfl, dy, SDenL.append dl dm⟩
theorem SDenL.ofd {g : Gh} : ∀ {l : List D} {vs : List Value}, DenL g.m l vs → SDenL g (l.map SV.d) vs
  | [], _, h => h
  | d :: r, _, ⟨x, l', e, h1, h2⟩ => ⟨x, l', e, h1, SDenL.ofd h2⟩
theorem SDenL.ofv {g : Gh} : ∀ (l : List Value), SDenL g (l.map fun x => SV.d (.v x)) l
  | [] => rfl
  | x :: r => ⟨x, r, rfl, rfl, SDenL.ofv r⟩
/-- where is what it was, the value means the same -/
structure Gle (g g' : Gh) : Prop where
  m : Mle g.m g'.m
  gs : ∀ (i : Nat) p, g.gs[i]? = some p → g'.gs[i]? = some p
theorem Gle.refl (g : Gh) : Gle g g := ⟨Mle.refl _, fun _ _ h => h⟩
mutual
theorem SV.Den.mono {g g' : Gh} (h : Gle g g') : ∀ (s : SV) {y : Value}, s.Den g y → s.Den g' y
  | .d x, y, hd => D.Den.mono h.m x hd
  | .blk i off, y, ⟨b, hb, e⟩ => ⟨b, h.gs _ _ hb, e⟩
  | .agg l, y, ⟨vs, e, hd⟩ => ⟨vs, e, SDenL.mono h l hd⟩
  | .tup l, y, ⟨vs, e, hd⟩ => ⟨vs, e, SDenL.mono h l hd⟩
  | .own i k ls, y, ⟨b, cap, hb, e, hc, hd⟩ => ⟨b, cap, h.gs _ _ hb, e, hc, fun hn => by obtain ⟨c, e2, h2⟩ := hd hn; exact ⟨c, e2, DenR.mono h.m ls h2⟩⟩
  | .fn f first caps, y, ⟨vs, us, e, h1, h2⟩ => ⟨vs, us, e, SDenL.mono h first h1, SDenL.mono h caps h2⟩
  | .ifc T s, y, ⟨x, e, hd⟩ => ⟨x, e, SV.Den.mono h s hd⟩
  | .map i, y, ⟨b, hb, e⟩ => ⟨b, h.gs _ _ hb, e⟩
  | .rp i, y, ⟨b, cap, n, hb, e⟩ => ⟨b, cap, n, h.gs _ _ hb, e⟩
  | .arr i n, y, ⟨b, cap, hb, e⟩ => ⟨b, cap, h.gs _ _ hb, e⟩
  | .bp i off, y, ⟨b, cap, n, hb, e⟩ => ⟨b, cap, n, h.gs _ _ hb, e⟩
  | .ful k ls, y, ⟨a, e, hd⟩ => ⟨a, e, fun hn => by obtain ⟨b, off, e2, h2⟩ := hd hn; exact ⟨b, off, e2, DenR.mono h.m ls h2⟩⟩
  | .junk, _, _ => trivial
theorem SDenL.mono {g g' : Gh} (h : Gle g g') : ∀ (l : List SV) {vs : List Value}, SDenL g l vs → SDenL g' l vs
  | [], _, hd => hd
  | s :: r, _, ⟨x, l', e, h1, h2⟩ => ⟨x, l', e, SV.Den.mono h s h1, SDenL.mono h r h2⟩
end
theorem ful_sl {g : Gh} {k : Nat} {ls : List (List D)} {y : Value} (h : (SV.ful k ls).Den g y) : (D.sl k ls).Den g.m y := by
  obtain ⟨a, e, hd⟩ := h
  exact ⟨a, _, e, Nat.le_refl _, hd⟩
theorem own_sl {g : Gh} {i k : Nat} {ls : List (List D)} {y : Value} (h : (SV.own i k ls).Den g y) : (D.sl k ls).Den g.m y := by
  obtain ⟨b, cap, hb, e, hc, hd⟩ := h
  exact ⟨_, cap, e, hc, fun hn => by obtain ⟨c, e2, h2⟩ := hd hn; subst e2; exact ⟨c, 0, rfl, h2⟩⟩
mutual
/-- row i is no longer the state's to write -/
def SV.kill (p : Nat → Bool) : SV → SV
  | .own i k ls => cond (p i) (.d (.sl k ls)) (.own i k ls)
  | .agg l => .agg (killL p l)
  | .tup l => .tup (killL p l)
  | .fn f first caps => .fn f (killL p first) (killL p caps)
  | .ifc T s => .ifc T (s.kill p)
  | .d x => .d x
  | .blk i off => .blk i off
  | .map i => .map i
  | .rp i => cond (p i) .junk (.rp i)
  | .arr i n => cond (p i) .junk (.arr i n)
  | .bp i off => cond (p i) .junk (.bp i off)
  | .ful k ls => .ful k ls
  | .junk => .junk
def killL (p : Nat → Bool) : List SV → List SV
  | [] => []
  | s :: r => s.kill p :: killL p r
end
/-- places but those of p's rows stay -/
structure Gkl (p : Nat → Bool) (g g' : Gh) : Prop where
  m : Mle g.m g'.m
  gs : ∀ (i : Nat) q, g.gs[i]? = some q → p i = false → g'.gs[i]? = some q
  at' : ∀ (i b : Nat), g.gs[i]? = some (.loc b) → g'.gs[i]? = some (.loc b)
mutual
theorem SV.Den.kill {p : Nat → Bool} {g g' : Gh} (h : Gkl p g g') : ∀ (s : SV) {y : Value}, s.Den g y → (s.kill p).Den g' y
  | .d x, y, hd => D.Den.mono h.m x hd
  | .blk i off, y, ⟨b, hb, e⟩ => ⟨b, h.at' _ _ hb, e⟩
  | .agg l, y, ⟨vs, e, hd⟩ => ⟨vs, e, SDenL.kill h l hd⟩
  | .tup l, y, ⟨vs, e, hd⟩ => ⟨vs, e, SDenL.kill h l hd⟩
  | .own i k ls, y, hd => by
    unfold SV.kill
    cases hp : p i with
    | true => exact D.Den.mono h.m _ (own_sl hd)
    | false =>
      obtain ⟨b, cap, hb, e, hc, hd⟩ := hd
      exact ⟨b, cap, h.gs _ _ hb hp, e, hc, fun hn => by obtain ⟨c, e2, h2⟩ := hd hn; exact ⟨c, e2, DenR.mono h.m ls h2⟩⟩
  | .fn f first caps, y, ⟨vs, us, e, h1, h2⟩ => ⟨vs, us, e, SDenL.kill h first h1, SDenL.kill h caps h2⟩
  | .ifc T s, y, ⟨x, e, hd⟩ => ⟨x, e, SV.Den.kill h s hd⟩
  | .map i, y, ⟨b, hb, e⟩ => ⟨b, h.at' _ _ hb, e⟩
  | .rp i, y, hd => by
    unfold SV.kill
    cases hp : p i with
    | true => trivial
    | false => obtain ⟨b, cap, n, hb, e⟩ := hd; exact ⟨b, cap, n, h.gs _ _ hb hp, e⟩
  | .arr i n, y, hd => by
    unfold SV.kill
    cases hp : p i with
    | true => trivial
    | false => obtain ⟨b, cap, hb, e⟩ := hd; exact ⟨b, cap, h.gs _ _ hb hp, e⟩
  | .bp i off, y, hd => by
    unfold SV.kill
    cases hp : p i with
    | true => trivial
    | false => obtain ⟨b, cap, n, hb, e⟩ := hd; exact ⟨b, cap, n, h.gs _ _ hb hp, e⟩
  | .ful k ls, y, ⟨a, e, hd⟩ => ⟨a, e, fun hn => by obtain ⟨b, off, e2, h2⟩ := hd hn; exact ⟨b, off, e2, DenR.mono h.m ls h2⟩⟩
  | .junk, _, _ => trivial
theorem SDenL.kill {p : Nat → Bool} {g g' : Gh} (h : Gkl p g g') : ∀ (l : List SV) {vs : List Value}, SDenL g l vs → SDenL g' (killL p l) vs
  | [], _, hd => hd
  | s :: r, _, ⟨x, l', e, h1, h2⟩ => ⟨x, l', e, SV.Den.kill h s h1, SDenL.kill h r h2⟩
end
mutual
/-- a value in which nothing of the state's own stands -/
def SV.toD : SV → Option D
  | .d x => some x
  | .agg l => (toDL l).bind fun l' => some (.agg l')
  | .tup l => (toDL l).bind fun l' => some (.tup l')
  | .own _ k ls => some (.sl k ls)
  | .ful k ls => some (.sl k ls)
  | .ifc T s => s.toD.bind fun d => some (.ifc T d)
  | _ => none
def toDL : List SV → Option (List D)
  | [] => some []
  | s :: r => s.toD.bind fun d => (toDL r).bind fun l => some (d :: l)
end
mutual
theorem SV.Den.toD {g : Gh} : ∀ (s : SV) {y : Value} {x : D}, s.Den g y → s.toD = some x → x.Den g.m y
  | .d x, y, x', hd, h => by simp [SV.toD] at h; subst h; exact hd
  | .agg l, y, x, ⟨vs, e, hd⟩, h => by
    simp only [SV.toD, Option.bind_eq_some_iff, Option.some.injEq] at h
    obtain ⟨l', hl, rfl⟩ := h
    exact ⟨vs, e, SDenL.toD l hd hl⟩
  | .tup l, y, x, ⟨vs, e, hd⟩, h => by
    simp only [SV.toD, Option.bind_eq_some_iff, Option.some.injEq] at h
    obtain ⟨l', hl, rfl⟩ := h
    exact ⟨vs, e, SDenL.toD l hd hl⟩
  | .own i k ls, y, x, hd, h => by simp [SV.toD] at h; subst h; exact own_sl hd
  | .ful k ls, y, x, hd, h => by simp [SV.toD] at h; subst h; exact ful_sl hd
  | .ifc T s, y, x, ⟨z, e, hd⟩, h => by
    simp only [SV.toD, Option.bind_eq_some_iff, Option.some.injEq] at h
    obtain ⟨d, hd', rfl⟩ := h
    exact ⟨z, e, SV.Den.toD s hd hd'⟩
  | .blk _ _, _, _, _, h => by simp [SV.toD] at h
  | .fn _ _ _, _, _, _, h => by simp [SV.toD] at h
  | .map _, _, _, _, h => by simp [SV.toD] at h
  | .rp _, _, _, _, h => by simp [SV.toD] at h
  | .arr _ _, _, _, _, h => by simp [SV.toD] at h
  | .bp _ _, _, _, _, h => by simp [SV.toD] at h
  | .junk, _, _, _, h => by simp [SV.toD] at h
theorem SDenL.toD {g : Gh} : ∀ (l : List SV) {vs : List Value} {ds : List D}, SDenL g l vs → toDL l = some ds → DenL g.m ds vs
  | [], vs, ds, hd, h => by simp [toDL] at h; subst h; exact hd
  | s :: r, vs, ds, ⟨x, l', e, h1, h2⟩, h => by
    simp only [toDL, Option.bind_eq_some_iff, Option.some.injEq] at h
    obtain ⟨d, hd, l2, hl2, rfl⟩ := h
    exact ⟨x, l', e, SV.Den.toD s h1 hd, SDenL.toD r h2 hl2⟩
end
/-! the state's own objects -/
inductive Ob where
  | cells (l : List SV) (ty : TypeId)
  | row (e : TypeId) (k : Nat)
  | nilrow (e : TypeId) (k : Nat)
  | buf (e : TypeId) (k : Nat) (ls : List (List D)) (q : Option (Option Nat × Nat))
  | mapI (f : ByteArray → Option Int)
  | itI (i : Nat) (f : ByteArray → Option Int) (dn : List (ByteArray × Int)) (cur : Option (ByteArray × Int))
  | dead
end Go.Vd
namespace Go.Vd
open Go Go.RowKit Go.MapKept
/-- block b is a map from texts to numbers -/
def MapSI (w : World) (b : Nat) (M : ByteArray → Option Int) : Prop :=
  ∃ es clock, w.heap[b]? = some (.map es clock) ∧ Stamped es clock ∧ (∀ e ∈ es.toList, ∃ s n, e.key = .string s ∧ e.val = .int .i64 n) ∧
    ∀ s n, M s = some n ↔ ∃ e ∈ es.toList, e.key = .string s ∧ e.val = .int .i64 n
def updM (M : ByteArray → Option Int) (s : ByteArray) (n : Int) : ByteArray → Option Int := fun t => if t = s then some n else M t
def delM (M : ByteArray → Option Int) (s : ByteArray) : ByteArray → Option Int := fun t => if t = s then none else M t
theorem MapSI.lt {w : World} {b : Nat} {M : ByteArray → Option Int} (h : MapSI w b M) : b < w.heap.size := by
  obtain ⟨es, clock, hb, _⟩ := h
  exact (Array.getElem?_eq_some_iff.1 hb).1
theorem MapSI.keep {w w' : World} {b : Nat} {M : ByteArray → Option Int} (h : MapSI w b M) (k : w'.heap[b]? = w.heap[b]?) : MapSI w' b M := by
  obtain ⟨es, clock, hb, r⟩ := h
  exact ⟨es, clock, k.trans hb, r⟩
theorem MapSI.fr {X : Nat → Prop} {w w' : World} {b : Nat} {M : ByteArray → Option Int} (h : MapSI w b M) (f : Fr X w w') (hx : ¬ X b) : MapSI w' b M := h.keep (f.block b h.lt hx)
theorem MapSI.made (w : World) : MapSI (w.alloc (.map #[] 0)) w.heap.size fun _ => none :=
  ⟨#[], 0, (MapKept.heap_alloc w _).1, stamped_empty 0, by simp, by simp⟩
section
variable {P : Program} {w : World} {b : Nat} {M : ByteArray → Option Int} {t k e : TypeId}
theorem one_of_key {es : Array MapEntry} {clock : Nat} (hs : Stamped es clock) {x y : MapEntry} (hx : x ∈ es.toList) (hy : y ∈ es.toList) (h : x.key = y.key) : x = y := by
  have hn := hs.2.2
  have key : ∀ l : List MapEntry, (l.map (·.key)).Nodup → x ∈ l → y ∈ l → x = y := by
    intro l
    induction l with
    | nil => intro _ h; cases h
    | cons a r ih =>
      intro hn hx hy
      simp only [List.map_cons, List.nodup_cons] at hn
      cases hx with
      | head =>
        cases hy with
        | head => rfl
        | tail _ hy => exact absurd (by rw [h]; exact List.mem_map.2 ⟨y, hy, rfl⟩) hn.1
      | tail _ hx =>
        cases hy with
        | head => exact absurd (by rw [← h]; exact List.mem_map.2 ⟨x, hx, rfl⟩) hn.1
        | tail _ hy => exact ih hn.2 hx hy
  exact key _ hn hx hy
theorem run_zero_int (hz : (P.info? e).bind (·.zero) = some (.int .i64 0)) : (zeroValue e).run P w = .ok (.int .i64 0) w := by
  cases hi : P.info? e with
  | none => simp [hi] at hz
  | some i =>
    rw [hi] at hz
    simp only [Option.bind_some] at hz
    simp [zeroValue, typeInfo, hi, hz, Result.andThen]
theorem MapSI.lookup (h : MapSI w b M) (ht : P.underlying t = some (.map k e)) (hk : P.underlying k = some .string) (hz : (P.info? e).bind (·.zero) = some (.int .i64 0)) (s : ByteArray) (c : Bool) :
    (Instr.lookup t (.map (some b)) (.string s) c).run P w = .ok (if c then .tuple #[.int .i64 ((M s).getD 0), .bool (M s).isSome] else .int .i64 ((M s).getD 0)) w := by
  obtain ⟨es, clock, hb, hs, hks, hM⟩ := h
  have hkey : IsKey .string (.string s) := trivial
  have hall : ∀ x ∈ es.toList, IsKey .string x.key := fun x hx => by obtain ⟨s', n, h1, _⟩ := hks x hx; rw [h1]; trivial
  rcases findNow_spec hkey es.toList 0 hall with ⟨h1, h2⟩ | ⟨j, e0, h1, h2, h3⟩
  · have : M s = none := by
      cases hm : M s with
      | none => rfl
      | some n => obtain ⟨x, hx, hxk, _⟩ := (hM s n).1 hm; exact absurd hxk (h2 x hx)
    rw [this]
    cases c <;> simp [Instr.lookup, run_underlying ht, MapKept.run_getObj_map hb, run_checkKey hk hkey, run_findKey hk h1, run_zero_int hz, Result.andThen]
  · have hm := List.mem_of_getElem? h2
    obtain ⟨s', n, h4, h5⟩ := hks e0 hm
    have : M s = some n := (hM s n).2 ⟨e0, hm, h3, h5⟩
    rw [this]
    cases c <;> simp [Instr.lookup, run_underlying ht, MapKept.run_getObj_map hb, run_checkKey hk hkey, run_findKey hk h1, h5, Result.andThen]
theorem fr_set {X : Nat → Prop} {w : World} {b : Nat} {o : Obj} (hx : X b) : Fr X w { w with heap := w.heap.setIfInBounds b o } :=
  ⟨rfl, rfl, rfl, by simp, fun c _ hc => by simp [show ¬ b = c from fun e => hc (e ▸ hx)]⟩
theorem MapSI.update (h : MapSI w b M) (ht : P.underlying t = some (.map k e)) (hk : P.underlying k = some .string) (s : ByteArray) (n : Int) :
    ∃ w', (Instr.mapUpdate t (.map (some b)) (.string s) (.int .i64 n)).run P w = .ok () w' ∧ MapSI w' b (updM M s n) ∧ Fr (fun c => c = b) w w' := by
  obtain ⟨es, clock, hb, hs, hks, hM⟩ := h
  have hkey : IsKey .string (.string s) := trivial
  have hall : ∀ x ∈ es.toList, IsKey .string x.key := fun x hx => by obtain ⟨s', n, h1, _⟩ := hks x hx; rw [h1]; trivial
  rcases findNow_spec hkey es.toList 0 hall with ⟨h1, h2⟩ | ⟨j, e0, h1, h2, h3⟩
  · refine ⟨{ w with heap := w.heap.setIfInBounds b (.map (es.push { key := .string s, val := .int .i64 n, born := clock }) (clock + 1)) }, ?_, ⟨_, _, (heap_set hb).1, stamped_push hs h2, ?_, ?_⟩, fr_set rfl⟩
    · simp [Instr.mapUpdate, run_underlying ht, MapKept.run_getObj_map hb, run_checkKey hk hkey, run_findKey hk h1, MapKept.run_setObj_map _ hb, Result.andThen]
    · intro x hx
      simp only [Array.toList_push, List.mem_append, List.mem_singleton] at hx
      rcases hx with hx | rfl
      · exact hks x hx
      · exact ⟨s, n, rfl, rfl⟩
    · intro s' n'
      simp only [Array.toList_push, List.mem_append, List.mem_singleton, updM]
      by_cases he : s' = s
      · subst he
        rw [if_pos rfl]
        constructor
        · intro hh; cases hh; exact ⟨_, .inr rfl, rfl, rfl⟩
        · rintro ⟨x, hx | rfl, hk1, hv1⟩
          · exact absurd hk1 (h2 x hx)
          · simp at hv1; rw [hv1]
      · rw [if_neg he, hM]
        constructor
        · rintro ⟨x, hx, hr⟩; exact ⟨x, .inl hx, hr⟩
        · rintro ⟨x, hx | rfl, hk1, hv1⟩
          · exact ⟨x, hx, hk1, hv1⟩
          · simp at hk1; exact absurd hk1.symm he
  · have hj : es[j]? = some e0 := by simpa using h2
    have hkk : ∀ e', es[j]? = some e' → ({ e' with key := .string s, val := .int .i64 n } : MapEntry).key = e'.key := fun e' he' => by rw [hj] at he'; cases he'; exact h3.symm
    have hmm : ∀ x, x ∈ (es.modify j fun e => { e with key := .string s, val := .int .i64 n }).toList ↔ (x ∈ es.toList ∧ x.key ≠ .string s) ∨ x = { e0 with key := .string s, val := .int .i64 n } := by
      intro x
      have hjl : j < es.size := (Array.getElem?_eq_some_iff.1 hj).1
      constructor
      · intro hx
        obtain ⟨i, hi⟩ := List.mem_iff_getElem?.1 hx
        rw [Array.getElem?_toList, Array.getElem?_modify] at hi
        by_cases hij : j = i
        · subst hij
          rw [if_pos rfl, hj] at hi
          simp at hi
          exact .inr hi.symm
        · rw [if_neg hij] at hi
          have hxm : x ∈ es.toList := Array.mem_toList_iff.2 (Array.mem_of_getElem? hi)
          refine .inl ⟨hxm, fun hk1 => hij ?_⟩
          have hnd := hs.2.2
          have e1 : (es.toList.map (·.key))[j]? = some (.string s) := by simp [hj, h3]
          have e2 : (es.toList.map (·.key))[i]? = some (.string s) := by simp [hi, hk1]
          exact (List.getElem?_inj (by simpa using hjl) hnd).1 (e1.trans e2.symm)
      · rintro (⟨hx, hk1⟩ | rfl)
        · obtain ⟨i, hi⟩ := List.mem_iff_getElem?.1 hx
          refine List.mem_iff_getElem?.2 ⟨i, ?_⟩
          rw [Array.getElem?_toList, Array.getElem?_modify]
          have hij : ¬ j = i := fun e => by subst e; rw [h2] at hi; cases hi; exact hk1 h3
          rw [if_neg hij]; simpa using hi
        · refine List.mem_iff_getElem?.2 ⟨j, ?_⟩
          rw [Array.getElem?_toList, Array.getElem?_modify, if_pos rfl, hj]; rfl
    refine ⟨{ w with heap := w.heap.setIfInBounds b (.map (es.modify j fun e => { e with key := .string s, val := .int .i64 n }) clock) }, ?_, ⟨_, _, (heap_set hb).1, stamped_modify hs _ _ (fun _ _ => rfl) (fun e' _ he' => hkk e' he'), ?_, ?_⟩, fr_set rfl⟩
    · simp [Instr.mapUpdate, run_underlying ht, MapKept.run_getObj_map hb, run_checkKey hk hkey, run_findKey hk h1, hj, h3, run_keyThatStays hkey, MapKept.run_setObj_map _ hb, Result.andThen]
    · intro x hx
      rcases (hmm x).1 hx with ⟨h, _⟩ | rfl
      · exact hks x h
      · exact ⟨s, n, rfl, rfl⟩
    · intro s' n'
      simp only [updM]
      by_cases he : s' = s
      · subst he
        rw [if_pos rfl]
        constructor
        · intro hh; cases hh; exact ⟨_, (hmm _).2 (.inr rfl), rfl, rfl⟩
        · rintro ⟨x, hx, hk1, hv1⟩
          rcases (hmm x).1 hx with ⟨_, h⟩ | rfl
          · exact absurd hk1 h
          · simp at hv1; rw [hv1]
      · rw [if_neg he, hM]
        constructor
        · rintro ⟨x, hx, hk1, hv1⟩; exact ⟨x, (hmm x).2 (.inl ⟨hx, by rw [hk1]; simpa using he⟩), hk1, hv1⟩
        · rintro ⟨x, hx, hk1, hv1⟩
          rcases (hmm x).1 hx with ⟨h, _⟩ | rfl
          · exact ⟨x, h, hk1, hv1⟩
          · simp at hk1; exact absurd hk1.symm he
theorem MapSI.delete {ty : TypeId} (h : MapSI w b M) (ht : P.underlying t = some (.map k e)) (hk : P.underlying k = some .string) (s : ByteArray) :
    ∃ w', (Builtin.delete_ #[t, k] ty #[.map (some b), .string s]).run P w = .ok (.tuple #[]) w' ∧ MapSI w' b (delM M s) ∧ Fr (fun c => c = b) w w' := by
  obtain ⟨es, clock, hb, hs, hks, hM⟩ := h
  have hkey : IsKey .string (.string s) := trivial
  have hall : ∀ x ∈ es.toList, IsKey .string x.key := fun x hx => by obtain ⟨s', n, h1, _⟩ := hks x hx; rw [h1]; trivial
  rcases findNow_spec hkey es.toList 0 hall with ⟨h1, h2⟩ | ⟨j, e0, h1, h2, h3⟩
  · refine ⟨{ w with heap := w.heap.setIfInBounds b (.map es clock) }, ?_, ⟨_, _, (heap_set hb).1, hs, hks, ?_⟩, fr_set rfl⟩
    · simp [Builtin.delete_, run_underlying ht, MapKept.run_getObj_map hb, run_checkKey hk hkey, run_findKey hk h1, MapKept.run_setObj_map _ hb, Result.andThen]
    · intro s' n'
      simp only [delM]
      by_cases he : s' = s
      · subst he
        rw [if_pos rfl]
        exact ⟨fun h => (by cases h), fun ⟨x, hx, hk1, _⟩ => absurd hk1 (h2 x hx)⟩
      · rw [if_neg he, hM]
  · have hjl : j < es.toList.length := (List.getElem?_eq_some_iff.1 h2).1
    have hjs : j < es.size := by simpa using hjl
    have hsub : (es.eraseIdxIfInBounds j).toList = es.toList.eraseIdx j := by
      unfold Array.eraseIdxIfInBounds
      rw [dif_pos hjs]
      simp
    have hmm : ∀ x, x ∈ (es.eraseIdxIfInBounds j).toList ↔ x ∈ es.toList ∧ x.key ≠ .string s := by
      intro x
      rw [hsub]
      have hnd := hs.2.2
      constructor
      · intro hx
        refine ⟨(List.eraseIdx_sublist _ _).subset hx, fun hk1 => ?_⟩
        obtain ⟨i, hi⟩ := List.mem_iff_getElem?.1 hx
        rw [List.getElem?_eraseIdx] at hi
        have e1 : (es.toList.map (·.key))[j]? = some (.string s) := by rw [List.getElem?_map, h2]; simp [h3]
        split at hi
        · have e2 : (es.toList.map (·.key))[i]? = some (.string s) := by rw [List.getElem?_map, hi]; simp [hk1]
          have := (List.getElem?_inj (by simpa using hjs) hnd).1 (e1.trans e2.symm)
          omega
        · have e2 : (es.toList.map (·.key))[i + 1]? = some (.string s) := by rw [List.getElem?_map, hi]; simp [hk1]
          have := (List.getElem?_inj (by simpa using hjs) hnd).1 (e1.trans e2.symm)
          omega
      · rintro ⟨hx, hk1⟩
        obtain ⟨i, hi⟩ := List.mem_iff_getElem?.1 hx
        have hij : i ≠ j := fun e => by subst e; rw [h2] at hi; cases hi; exact hk1 h3
        rw [List.mem_iff_getElem?]
        by_cases hlt : i < j
        · exact ⟨i, by rw [List.getElem?_eraseIdx, if_pos hlt]; exact hi⟩
        · exact ⟨i - 1, by rw [List.getElem?_eraseIdx, if_neg (by omega), show i - 1 + 1 = i by omega]; exact hi⟩
    refine ⟨{ w with heap := w.heap.setIfInBounds b (.map (es.eraseIdxIfInBounds j) clock) }, ?_, ⟨_, _, (heap_set hb).1, stamped_erase hs j, ?_, ?_⟩, fr_set rfl⟩
    · simp [Builtin.delete_, run_underlying ht, MapKept.run_getObj_map hb, run_checkKey hk hkey, run_findKey hk h1, MapKept.run_setObj_map _ hb, Result.andThen]
    · intro x hx
      exact hks x ((hmm x).1 hx).1
    · intro s' n'
      simp only [delM]
      by_cases he : s' = s
      · subst he
        rw [if_pos rfl]
        exact ⟨fun h => (by cases h), fun ⟨x, hx, hk1, _⟩ => absurd hk1 ((hmm x).1 hx).2⟩
      · rw [if_neg he, hM]
        constructor
        · rintro ⟨x, hx, hk1, hv1⟩; exact ⟨x, (hmm x).2 ⟨hx, by rw [hk1]; simpa using he⟩, hk1, hv1⟩
        · rintro ⟨x, hx, hk1, hv1⟩; exact ⟨x, ((hmm x).1 hx).1, hk1, hv1⟩
/-- an iterator in block it over the map in block b: what has been handed out, how many are left -/
def ItSI (w : World) (it b : Nat) (M : ByteArray → Option Int) (dn : List (ByteArray × Int)) (k : Nat) : Prop :=
  ∃ es clock seen, w.heap[it]? = some (.mapIter (some b) clock seen clock) ∧ w.heap[b]? = some (.map es clock) ∧ Stamped es clock ∧ (∀ e ∈ es.toList, ∃ s n, e.key = .string s ∧ e.val = .int .i64 n) ∧
    (∀ s n, M s = some n ↔ ∃ e ∈ es.toList, e.key = .string s ∧ e.val = .int .i64 n) ∧ (leftOf es seen).size = k ∧
    ∀ s n, (s, n) ∈ dn ↔ ∃ e ∈ es.toList, e.key = .string s ∧ e.val = .int .i64 n ∧ seen.contains e.born = true
def ItAt (w : World) (it b : Nat) (s : ByteArray) (n : Int) : Prop :=
  ∃ (es : Array MapEntry) (clock : Nat) (seen : Array Nat) (e : MapEntry), w.heap[it]? = some (.mapIter (some b) clock (seen.push e.born) clock) ∧ w.heap[b]? = some (.map es clock) ∧ Stamped es clock ∧ e ∈ es.toList ∧ e.key = .string s ∧ e.val = .int .i64 n
theorem ItSI.keep {it : Nat} {dn : List (ByteArray × Int)} {k : Nat} {w' : World} (h : ItSI w it b M dn k) (h1 : w'.heap[it]? = w.heap[it]?) (h2 : w'.heap[b]? = w.heap[b]?) : ItSI w' it b M dn k := by
  obtain ⟨es, clock, seen, a, c, r⟩ := h
  exact ⟨es, clock, seen, h1.trans a, h2.trans c, r⟩
theorem ItSI.lt {it : Nat} {dn : List (ByteArray × Int)} {k : Nat} (h : ItSI w it b M dn k) : it < w.heap.size ∧ b < w.heap.size := by
  obtain ⟨es, clock, seen, a, c, r⟩ := h
  exact ⟨(Array.getElem?_eq_some_iff.1 a).1, (Array.getElem?_eq_some_iff.1 c).1⟩
theorem ItSI.fr {X : Nat → Prop} {it : Nat} {dn : List (ByteArray × Int)} {k : Nat} {w' : World} (h : ItSI w it b M dn k) (f : Fr X w w') (h1 : ¬ X it) (h2 : ¬ X b) : ItSI w' it b M dn k :=
  h.keep (f.block it h.lt.1 h1) (f.block b h.lt.2 h2)
theorem ItSI.map {it : Nat} {dn : List (ByteArray × Int)} {k : Nat} (h : ItSI w it b M dn k) : MapSI w b M := by
  obtain ⟨es, clock, seen, a, c, d, e, f, _⟩ := h
  exact ⟨es, clock, c, d, e, f⟩
theorem ItAt.lt {it : Nat} {s : ByteArray} {n : Int} (h : ItAt w it b s n) : it < w.heap.size ∧ b < w.heap.size := by
  obtain ⟨es, clock, seen, e, a, c, r⟩ := h
  exact ⟨(Array.getElem?_eq_some_iff.1 a).1, (Array.getElem?_eq_some_iff.1 c).1⟩
theorem ItAt.fr {X : Nat → Prop} {it : Nat} {s : ByteArray} {n : Int} {w' : World} (h : ItAt w it b s n) (f : Fr X w w') (h1 : ¬ X it) (h2 : ¬ X b) : ItAt w' it b s n := by
  have hl := h.lt
  obtain ⟨es, clock, seen, e, a, c, r⟩ := h
  exact ⟨es, clock, seen, e, (f.block it hl.1 h1).trans a, (f.block b hl.2 h2).trans c, r⟩
theorem MapSI.range (h : MapSI w b M) (ht : P.underlying t = some (.map k e)) :
    ∃ w' m, (Instr.range t (.map (some b))).run P w = .ok (.pointer (some ⟨w.heap.size, 0, none⟩)) w' ∧ ItSI w' w.heap.size b M [] m ∧ Fr (fun _ => False) w w' := by
  have hlt := h.lt
  obtain ⟨es, clock, hb, hs, hks, hM⟩ := h
  refine ⟨_, _, run_range_map w t k e b es clock ht hb, ⟨es, clock, #[], (MapKept.heap_alloc w _).1, by rw [(MapKept.heap_alloc w _).2 b hlt]; exact hb, hs, hks, hM, rfl, ?_⟩, (Fr.refl _ w).alloc _⟩
  intro s n
  simp
theorem ItSI.next {it : Nat} {dn : List (ByteArray × Int)} {m : Nat} {ty : TypeId} (h : ItSI w it b M dn m) :
    ((Instr.next (.pointer (some ⟨it, 0, none⟩)) false ty).run P w = .ok (.tuple #[.bool false]) w ∧ ∀ s n, M s = some n → (s, n) ∈ dn) ∨
    ∃ s n m' w', (Instr.next (.pointer (some ⟨it, 0, none⟩)) false ty).run P w = .ok (.tuple #[.bool true, .string s, .int .i64 n]) w' ∧ M s = some n ∧ (s, n) ∉ dn ∧ m' < m ∧
      ItSI w' it b M ((s, n) :: dn) m' ∧ ItAt w' it b s n ∧ Fr (fun c => c = it) w w' := by
  obtain ⟨es, clock, seen, hit, hb, hs, hks, hM, hm, hdn⟩ := h
  subst hm
  simp only [Instr.next, getObj, Sem.run_bind, Sem.run, hit, hb, Result.andThen, next_test_false seen es clock clock hs.1 (Nat.le_refl _), Bool.false_eq_true, if_false]
  have hmem : ∀ x ∈ (leftOf es seen).toList, x.born < clock := fun x hx => hs.1 x (mem_left hx).1
  have hmem2 : ∀ x ∈ (leftOf es seen).toList, x ∈ es.toList ∧ seen.contains x.born = false := fun x hx => mem_left hx
  have hleft : ∀ x ∈ es.toList, seen.contains x.born = false → x ∈ (leftOf es seen).toList := fun x hx hc => by
    unfold leftOf
    exact Array.mem_toList_iff.2 (Array.mem_filter.2 ⟨Array.mem_toList_iff.1 hx, by rw [hc]; rfl⟩)
  have hshr : ∀ x ∈ (leftOf es seen).toList, (leftOf es (seen.push x.born)).size < (leftOf es seen).size := fun x hx => left_shrinks es seen x hx
  have efold : Array.filter (fun e => !seen.contains e.born) es = leftOf es seen := rfl
  rw [efold]
  generalize hL : leftOf es seen = L at hmem hmem2 hleft hshr ⊢
  have e1 : L.filter (fun x => decide (x.born < clock)) = L := Array.filter_eq_self.2 (fun x hx => by simpa using hmem x (by simpa using hx))
  have e2 : L.filter (fun x => decide (x.born ≥ clock)) = #[] := by
    rw [Array.filter_eq_empty_iff]
    intro x hx
    have := hmem x (by simpa using hx)
    simp
    omega
  simp only [e1, e2, Array.append_empty]
  by_cases h0 : L.size = 0
  · left
    have : L = #[] := Array.eq_empty_of_size_eq_zero h0
    subst this
    refine ⟨?_, ?_⟩
    · simp [choose, Sem.run, Question.forced]
    · intro s n hsn
      obtain ⟨x, hx, hxk, hxv⟩ := (hM s n).1 hsn
      refine (hdn s n).2 ⟨x, hx, hxk, hxv, ?_⟩
      cases hc : seen.contains x.born with
      | true => rfl
      | false => exact absurd (hleft x hx hc) (by simp)
  · right
    have hne : L.isEmpty = false := by simp [Array.isEmpty, h0]
    simp only [hne, Bool.false_eq_true, if_false, Array.empty_append, Array.size_map]
    have hch : ∃ (j : Nat) (w1 : World), j < L.size ∧ w1.heap = w.heap ∧ Fr (fun _ => False) w w1 ∧ (choose (Question.mapNext L.size)).run P w = .ok j w1 := by
      by_cases hf : L.size ≤ 1
      · exact ⟨0, w, by omega, rfl, Fr.refl _ w, by simp [choose, Sem.run, Question.forced, hf]⟩
      · exact ⟨_, w.drew, Nat.mod_lt _ (by omega), rfl, (Fr.refl _ w).drew, by
          simp only [choose, Sem.run, Question.forced, decide_eq_true_eq, hf, if_false, Question.cut]
          rfl⟩
    obtain ⟨j, w1, hj, hheap, hfr, hrun⟩ := hch
    have hjm : L[j] ∈ L.toList := by simp
    obtain ⟨hje, hjs⟩ := hmem2 _ hjm
    obtain ⟨s, n, hk1, hv1⟩ := hks _ hje
    have hit1 : w1.heap[it]? = some (.mapIter (some b) clock seen clock) := by rw [hheap]; exact hit
    have hb1 : w1.heap[b]? = some (.map es clock) := by rw [hheap]; exact hb
    have hne2 : b ≠ it := fun e => by rw [e, hit1] at hb1; cases hb1
    refine ⟨s, n, _, { w1 with heap := w1.heap.setIfInBounds it (.mapIter (some b) clock (seen.push L[j].born) clock) }, ?_, (hM s n).2 ⟨_, hje, hk1, hv1⟩, ?_, hshr _ hjm,
      ⟨es, clock, _, (heap_set hit1).1, by rw [(heap_set hit1).2 b hne2]; exact hb1, hs, hks, hM, rfl, ?_⟩, ⟨es, clock, seen, L[j], (heap_set hit1).1, by rw [(heap_set hit1).2 b hne2]; exact hb1, hs, hje, hk1, hv1⟩, ?_⟩
    · simp only [hrun, Array.getElem?_map, Array.getElem?_eq_getElem hj, Option.map_some, Sem.run_bind, setObj, Sem.run, hit1, Result.andThen, hk1, hv1]
      rfl
    · intro hd
      obtain ⟨x, hx, hxk, hxv, hxs⟩ := (hdn s n).1 hd
      have := one_of_key hs hx hje (hxk.trans hk1.symm)
      rw [this, hjs] at hxs
      cases hxs
    · intro s' n'
      simp only [List.mem_cons, Prod.mk.injEq, contains_push, Bool.or_eq_true, beq_iff_eq]
      constructor
      · rintro (⟨rfl, rfl⟩ | hd)
        · exact ⟨_, hje, hk1, hv1, .inr rfl⟩
        · obtain ⟨x, hx, hxk, hxv, hxs⟩ := (hdn s' n').1 hd
          exact ⟨x, hx, hxk, hxv, .inl hxs⟩
      · rintro ⟨x, hx, hxk, hxv, hxs | hxs⟩
        · exact .inr ((hdn s' n').2 ⟨x, hx, hxk, hxv, hxs⟩)
        · have h1 := find_born x es.toList hs.2.1 hx
          have h2 := find_born L[j] es.toList hs.2.1 hje
          rw [hxs] at h1
          rw [h1] at h2
          cases h2
          rw [hk1] at hxk
          rw [hv1] at hxv
          simp at hxk hxv
          exact .inl ⟨hxk.symm, hxv.symm⟩
    · have f2 : Fr (fun c => c = it) w1 { w1 with heap := w1.heap.setIfInBounds it (.mapIter (some b) clock (seen.push L[j].born) clock) } := fr_set rfl
      exact hfr.none.trans f2
theorem ItAt.entry {it : Nat} {s : ByteArray} {n : Int} (h : ItAt w it b s n) : (Instr.entry (.pointer (some ⟨it, 0, none⟩))).run P w = .ok (.tuple #[.string s, .int .i64 n]) w := by
  obtain ⟨es, clock, seen, e, hit, hb, hs, he, hk, hv⟩ := h
  have hf : es.find? (·.born == e.born) = some e := by rw [← Array.find?_toList]; exact find_born e es.toList hs.2.1 he
  simp only [Instr.entry, getObj, Sem.run_bind, Sem.run, hit, hb, Result.andThen, Array.back?_push, bne_self_eq_false, Bool.false_eq_true, if_false, hf, hk, hv]
  rfl
end
end Go.Vd
namespace Go.Vd
open Go Go.RowKit
def blkOf : Ob → Pl → Option Nat
  | .cells _ _, .loc b => some b
  | .mapI _, .loc b => some b
  | .itI _ _ _ _, .loc b => some b
  | .row _ _, .row b _ _ => b
  | .buf _ _ _ _, .row b _ _ => b
  | _, _ => none
def ObOk (g : Gh) (w : World) : Ob → Pl → Prop
  | .cells l ty, .loc b => ∃ vs, w.heap[b]? = some (.cells ⟨vs⟩ ty (0, 0)) ∧ SDenL g l vs ∧ ∀ o, g.m b o = none
  | .row e k, .row b cap n => (∃ xs, w.ownsRow 0 e k (.slice (b.map fun c => ⟨c, 0, none⟩) n cap) n xs) ∧ ∀ c, b = some c → ∀ o, n * k ≤ o → g.m c o = none
  | .nilrow _ _, p => p = .row none 0 0
  | .buf e k ls q, .row b cap n => n = ls.length ∧ (∀ x ∈ ls, x.length = k) ∧ (∃ xs, w.ownsRow 0 e k (.slice (b.map fun c => ⟨c, 0, none⟩) n cap) n xs ∧ DenL g.m ls.flatten xs ∧ ∀ u ∈ xs, u.oneCell' = true) ∧ (∀ c, b = some c → ∀ o, g.m c o = none) ∧ ∀ r, q = some r → r = (b, cap)
  | .mapI f, .loc b => MapSI w b f ∧ ∀ o, g.m b o = none
  | .itI i f dn cur, .loc b => ∃ c, g.gs[i]? = some (.loc c) ∧ (∃ k, ItSI w b c f dn k) ∧ (∀ s n, cur = some (s, n) → ItAt w b c s n) ∧ ∀ o, g.m b o = none
  | .dead, _ => True
  | _, _ => False
/-- whatever blocks an object's being there hangs on -/
def usesB (g : Gh) (o : Ob) (p : Pl) (b : Nat) : Prop := blkOf o p = some b ∨ ∃ i f dn cur, o = .itI i f dn cur ∧ g.gs[i]? = some (.loc b)
structure StoreOk (GL : Nat → List D) (ob : List Ob) (g : Gh) (w : World) : Prop where
  len : ob.length = g.gs.length
  obs : ∀ (i : Nat) o p, ob[i]? = some o → g.gs[i]? = some p → ObOk g w o p
  its : ∀ (j i : Nat) f dn cur, ob[j]? = some (.itI i f dn cur) → ob[i]? = some (.mapI f)
  disj : ∀ (i j : Nat) oi oj pi pj b, ob[i]? = some oi → ob[j]? = some oj → g.gs[i]? = some pi → g.gs[j]? = some pj → blkOf oi pi = some b → blkOf oj pj = some b → i = j
  sat : ∀ b o x, g.m b o = some x → w.cell? ⟨b, o, none⟩ = some x ∧ x.oneCell' = true
  glob : ∀ b, DenC g.m b 0 (GL b)
theorem StoreOk.place {GL : Nat → List D} {ob : List Ob} {g : Gh} {w : World} (h : StoreOk GL ob g w) {i : Nat} {o : Ob} (hi : ob[i]? = some o) : ∃ p, g.gs[i]? = some p := by
  have h1 := (List.getElem?_eq_some_iff.1 hi).1
  rw [h.len] at h1
  exact ⟨_, List.getElem?_eq_getElem h1⟩
/-- an object may be looked at as one of which less is known -/
def ObLe (g g' : Gh) : Ob → Ob → Prop
  | .cells l ty, .cells l' ty' => ty = ty' ∧ ∀ vs, SDenL g l vs → SDenL g' l' vs
  | .nilrow e k, .row e' k' => e = e' ∧ k = k'
  | .dead, .dead => True
  | _, .dead => True
  | .row e k, .row e' k' => e = e' ∧ k = k'
  | .nilrow e k, .nilrow e' k' => e = e' ∧ k = k'
  | .buf e k ls q, .buf e' k' ls' q' => e = e' ∧ k = k' ∧ ls = ls' ∧ q = q' ∧ ∀ vs, DenL g.m ls.flatten vs → DenL g'.m ls.flatten vs
  | .mapI f, .mapI f' => f = f'
  | .itI i f dn cur, .itI i' f' dn' cur' => i = i' ∧ f = f' ∧ dn = dn' ∧ (cur = cur' ∨ cur' = none)
  | _, _ => False
theorem ObLe.blk {g g' : Gh} {o o' : Ob} {p : Pl} {b : Nat} (h : ObLe g g' o o') (hb : blkOf o' p = some b) (hk : ∀ w, ObOk g w o p → True) : blkOf o p = some b ∨ ∃ e k, o = .nilrow e k := by
  cases o <;> cases o' <;> cases p <;> simp_all [ObLe, blkOf]
theorem ObOk.lt {g : Gh} {w : World} {o : Ob} {p : Pl} {b : Nat} (h : ObOk g w o p) (hb : blkOf o p = some b) : b < w.heap.size := by
  cases o <;> cases p <;> simp only [blkOf, Option.some.injEq, reduceCtorEq] at hb
  case cells.loc => subst hb; obtain ⟨vs, h, _⟩ := h; exact (Array.getElem?_eq_some_iff.1 h).1
  case mapI.loc => subst hb; exact h.1.lt
  case itI.loc => subst hb; obtain ⟨c, _, ⟨k, h⟩, _⟩ := h; exact h.lt.1
  case row.row => subst hb; obtain ⟨⟨xs, h⟩, _⟩ := h; exact (h.lt b rfl).2
  case buf.row => subst hb; obtain ⟨_, _, ⟨xs, h, _⟩, _⟩ := h; exact (h.lt b rfl).2
theorem ObOk.keep {g g' : Gh} {w w' : World} {o o' : Ob} {p : Pl} (hle : ObLe g g' o o') (hat : ∀ (i b : Nat), g.gs[i]? = some (.loc b) → g'.gs[i]? = some (.loc b))
    (hb : ∀ b, usesB g o p b → w'.heap[b]? = w.heap[b]?) (hm : ∀ b, blkOf o p = some b → ∀ i, g.m b i = none → g'.m b i = none) (h : ObOk g w o p) : ObOk g' w' o' p := by
  cases o <;> cases o' <;> simp only [ObLe] at hle <;> try (first | exact hle.elim | trivial)
  case cells.cells l ty l' ty' =>
    cases p with
    | loc b =>
      obtain ⟨rfl, hl⟩ := hle
      obtain ⟨vs, h1, h2, h3⟩ := h
      exact ⟨vs, (hb b (.inl rfl)).trans h1, hl vs h2, fun i => hm b rfl i (h3 i)⟩
    | row b c n => exact h.elim
  case row.row e k e' k' =>
    cases p with
    | loc b => exact h.elim
    | row b c n =>
      obtain ⟨rfl, rfl⟩ := hle
      obtain ⟨⟨xs, h1⟩, h2⟩ := h
      refine ⟨⟨xs, h1.1, ?_⟩, fun c hc o ho => hm c hc o (h2 c hc o ho)⟩
      rcases h1.2 with h3 | ⟨g0, cap, cur, e1, h3, h4, h5⟩
      · exact .inl h3
      · refine .inr ⟨g0, cap, cur, e1, h3, ?_, h5⟩
        rw [hb g0 (.inl ?_)]; exact h4
        cases b with
        | none => simp at e1
        | some b => simp at e1; simp [blkOf, e1.1]
  case buf.buf e k ls q e' k' ls' q' =>
    cases p with
    | loc b => exact h.elim
    | row b c n =>
      obtain ⟨rfl, rfl, rfl, rfl, hd⟩ := hle
      obtain ⟨h0, h1, ⟨xs, h2, h3, h4⟩, h5, h9⟩ := h
      refine ⟨h0, h1, ⟨xs, ⟨h2.1, ?_⟩, hd _ h3, h4⟩, fun c hc o => hm c hc o (h5 c hc o), h9⟩
      rcases h2.2 with h6 | ⟨g0, cap, cur, e1, h6, h7, h8⟩
      · exact .inl h6
      · refine .inr ⟨g0, cap, cur, e1, h6, ?_, h8⟩
        rw [hb g0 (.inl ?_)]; exact h7
        cases b with
        | none => simp at e1
        | some b => simp at e1; simp [blkOf, e1.1]
  case nilrow.row e k e' k' =>
    obtain ⟨rfl, rfl⟩ := hle
    simp only [ObOk] at h
    subst h
    exact ⟨⟨[], by simp, .inl ⟨rfl, rfl⟩⟩, fun c hc => by cases hc⟩
  case mapI.mapI f f' =>
    cases p with
    | loc b => subst hle; exact ⟨h.1.keep (hb b (.inl rfl)), fun i => hm b rfl i (h.2 i)⟩
    | row b c n => exact h.elim
  case itI.itI i f dn cur i' f' dn' cur' =>
    cases p with
    | loc b =>
      obtain ⟨rfl, rfl, rfl, hcur⟩ := hle
      obtain ⟨c, h1, ⟨k, h2⟩, h3, h4⟩ := h
      have hc := hb c (.inr ⟨_, _, _, _, rfl, h1⟩)
      have hb' := hb b (.inl rfl)
      refine ⟨c, hat _ _ h1, ⟨k, h2.keep hb' hc⟩, fun s n e => ?_, fun i => hm b rfl i (h4 i)⟩
      rcases hcur with rfl | rfl
      · obtain ⟨es, clock, seen, en, a1, a2, r⟩ := h3 s n e
        exact ⟨es, clock, seen, en, hb'.trans a1, hc.trans a2, r⟩
      · cases e
    | row b c n => exact h.elim
/-- one step of the store: the objects that p names are new or turned, the others are looked at as before (or as less) -/
theorem StoreOk.step {GL : Nat → List D} {ob ob' : List Ob} {g g' : Gh} {w w' : World} (h : StoreOk GL ob g w) (p : Nat → Prop) (hmm : Mle g.m g'.m) (hat : ∀ (i b : Nat), g.gs[i]? = some (.loc b) → g'.gs[i]? = some (.loc b))
    (hpl : ∀ (i : Nat) q, ¬ p i → g.gs[i]? = some q → g'.gs[i]? = some q)
    (hsat : ∀ b o x, g'.m b o = some x → w'.cell? ⟨b, o, none⟩ = some x ∧ x.oneCell' = true) (hlen : ob'.length = g'.gs.length)
    (hsame : ∀ (j : Nat) o', ¬ p j → ob'[j]? = some o' → ∃ o, ob[j]? = some o ∧ ObLe g g' o o')
    (hits : ∀ (j i : Nat) f dn cur, ob'[j]? = some (.itI i f dn cur) → ob'[i]? = some (.mapI f))
    (hitp : ∀ (j i : Nat) f dn cur, ¬ p j → ob'[j]? = some (.itI i f dn cur) → ¬ p i)
    (hkeep : ∀ (j : Nat) o q b, ¬ p j → ob[j]? = some o → g.gs[j]? = some q → blkOf o q = some b → w'.heap[b]? = w.heap[b]? ∧ ∀ i, g.m b i = none → g'.m b i = none)
    (htou : ∀ (j : Nat) o', p j → ob'[j]? = some o' → ∃ q', g'.gs[j]? = some q' ∧ ObOk g' w' o' q')
    (hblo : ∀ (j : Nat) o' q' b, p j → ob'[j]? = some o' → g'.gs[j]? = some q' → blkOf o' q' = some b → (∃ i o q, p i ∧ ob[i]? = some o ∧ g.gs[i]? = some q ∧ blkOf o q = some b) ∨ w.heap.size ≤ b)
    (hdis : ∀ (i j : Nat) oi oj pi pj b, p i → p j → ob'[i]? = some oi → ob'[j]? = some oj → g'.gs[i]? = some pi → g'.gs[j]? = some pj → blkOf oi pi = some b → blkOf oj pj = some b → i = j) :
    StoreOk GL ob' g' w' := by
  have old : ∀ (j : Nat) o' q' b, ¬ p j → ob'[j]? = some o' → g'.gs[j]? = some q' → blkOf o' q' = some b → ∃ o, ob[j]? = some o ∧ ObLe g g' o o' ∧ g.gs[j]? = some q' ∧ blkOf o q' = some b := by
    intro j o' q' b hp ho' hq' hb
    obtain ⟨o, ho, hle⟩ := hsame j o' hp ho'
    obtain ⟨q, hq⟩ := h.place ho
    have hqq := hpl j q hp hq
    rw [hq'] at hqq; cases hqq
    have hok := h.obs j o q' ho hq
    refine ⟨o, ho, hle, hq, ?_⟩
    rcases hle.blk hb (fun _ _ => trivial) with h1 | ⟨e, k, rfl⟩
    · exact h1
    · simp only [ObOk] at hok; subst hok
      cases o' <;> simp [blkOf] at hb
  refine ⟨hlen, fun j o' q' ho' hq' => ?_, hits, fun i j oi oj pi pj b h1 h2 h3 h4 h5 h6 => ?_, hsat, fun b => DenC.mono hmm _ (h.glob b)⟩
  · by_cases hp : p j
    · obtain ⟨q, hq, hok⟩ := htou j o' hp ho'
      rw [hq'] at hq; cases hq; exact hok
    · obtain ⟨o, ho, hle⟩ := hsame j o' hp ho'
      obtain ⟨q, hq⟩ := h.place ho
      have hqq := hpl j q hp hq
      rw [hq'] at hqq; cases hqq
      by_cases hdead : o' = .dead
      · subst hdead; cases q' <;> trivial
      refine (h.obs j o q' ho hq).keep hle hat (fun b hb => ?_) (fun b hb => (hkeep j o q' b hp ho hq hb).2)
      rcases hb with hb | ⟨i, f, dn, cur, rfl, hi⟩
      · exact (hkeep j o q' b hp ho hq hb).1
      · have hm := h.its j i f dn cur ho
        cases o' <;> simp only [ObLe] at hle <;> try (exact hle.elim)
        case dead => exact absurd rfl hdead
        obtain ⟨rfl, rfl, rfl, _⟩ := hle
        exact (hkeep i _ _ b (hitp j _ _ _ _ hp ho') hm hi rfl).1
  · by_cases hpi : p i
    · by_cases hpj : p j
      · exact hdis i j oi oj pi pj b hpi hpj h1 h2 h3 h4 h5 h6
      · obtain ⟨o, ho, _, hq, hb⟩ := old j oj pj b hpj h2 h4 h6
        rcases hblo i oi pi b hpi h1 h3 h5 with ⟨k, ok, qk, hpk, hok, hqk, hbk⟩ | hge
        · have := h.disj k j ok o qk pj b hok ho hqk hq hbk hb
          subst this; exact absurd hpk hpj
        · have := (h.obs j o pj ho hq).lt hb; omega
    · obtain ⟨o, ho, _, hq, hb⟩ := old i oi pi b hpi h1 h3 h5
      by_cases hpj : p j
      · rcases hblo j oj pj b hpj h2 h4 h6 with ⟨k, ok, qk, hpk, hok, hqk, hbk⟩ | hge
        · have := h.disj k i ok o qk pi b hok ho hqk hq hbk hb
          subst this; exact absurd hpk hpi
        · have := (h.obs i o pi ho hq).lt hb; omega
      · obtain ⟨o2, ho2, _, hq2, hb2⟩ := old j oj pj b hpj h2 h4 h6
        exact h.disj i j o o2 pi pj b ho ho2 hq hq2 hb hb2
/-! states -/
structure St where
  n : Nat
  sl : List (Nat × SV)
  ob : List Ob
def slk (t : Nat) : List (Nat × SV) → SV
  | [] => .junk
  | (k, s) :: r => cond (Nat.beq k t) s (slk t r)
def evS (GL : Nat → List D) (sl : List (Nat × SV)) : Operand → SV
  | .tmp t => slk t sl
  | .const v => .d (.v v)
  | .global b => .d (.cp (GL b))
  | .func f => .d (.v (.func (.func f) #[] #[]))
/-- where a function began: the ghost, the world, the blocks that it may write, the number of objects that it was given -/
structure Bs where
  g : Gh
  w : World
  X : Nat → Prop
  n0 : Nat
  df : List Deferred
structure Stp (B : Bs) (ob : List Ob) (g : Gh) (w : World) : Prop where
  fr : Fr B.X B.w w
  mem : Mle B.g.m g.m
  new : ∀ b o x, g.m b o = some x → B.g.m b o = none → B.X b ∨ B.w.heap.size ≤ b
  own : ∀ (i : Nat) o p b, ob[i]? = some o → g.gs[i]? = some p → blkOf o p = some b → B.X b ∨ B.w.heap.size ≤ b
  at' : ∀ (i b : Nat), i < B.n0 → B.g.gs[i]? = some (.loc b) → g.gs[i]? = some (.loc b)
structure RelG (GL : Nat → List D) (B : Bs) (σ : St) (g : Gh) (a : Act) (w : World) : Prop where
  defers : a.defers = B.df
  size : a.tmps.size = σ.n
  slots : ∀ t, (slk t σ.sl).Den g (a.tmps.getD t undef)
  store : StoreOk GL σ.ob g w
  stp : Stp B σ.ob g w
def Rel (GL : Nat → List D) (B : Bs) (σ : St) (a : Act) (w : World) : Prop := ∃ g, RelG GL B σ g a w
theorem RelG.ev {GL : Nat → List D} {B : Bs} {σ : St} {g : Gh} {a : Act} {w : World} (h : RelG GL B σ g a w) (x : Operand) : (evS GL σ.sl x).Den g (a.eval x) := by
  cases x with
  | tmp t => exact h.slots t
  | const v => rfl
  | global b => exact ⟨b, 0, rfl, h.store.glob b⟩
  | func f => rfl
theorem slk_cons (t k : Nat) (s : SV) (r : List (Nat × SV)) : slk t ((k, s) :: r) = if k = t then s else slk t r := by
  show cond (Nat.beq k t) s (slk t r) = _
  by_cases h : k = t
  · subst h; simp
  · have : Nat.beq k t = false := by rw [← Bool.not_eq_true, Nat.beq_eq]; exact h
    rw [this, if_neg h]; rfl
theorem RelG.put {GL : Nat → List D} {B : Bs} {σ : St} {g : Gh} {a : Act} {w : World} (h : RelG GL B σ g a w) {t : Nat} (ht : Nat.blt t σ.n = true) {s : SV} {x : Value} (hx : s.Den g x) : RelG GL B ⟨σ.n, (t, s) :: σ.sl, σ.ob⟩ g (a.put (some t) x) w := by
  have hn : t < σ.n := by simpa [Nat.blt_eq] using ht
  refine ⟨h.defers, by simp [Act.put, h.size], fun u => ?_, h.store, h.stp⟩
  show (slk u ((t, s) :: σ.sl)).Den g ((a.tmps.setIfInBounds t x).getD u undef)
  rw [slk_cons]
  by_cases htu : t = u
  · subst htu
    rw [if_pos rfl]
    have : (a.tmps.setIfInBounds t x).getD t undef = x := by
      have hs : t < a.tmps.size := by rw [h.size]; exact hn
      simp [hs]
    rw [this]; exact hx
  · rw [if_neg htu]
    have : (a.tmps.setIfInBounds t x).getD u undef = a.tmps.getD u undef := by
      simp only [Array.getD_eq_getD_getElem?]
      rw [Array.getElem?_setIfInBounds_ne htu]
    rw [this]; exact h.slots u
theorem RelG.known {GL : Nat → List D} {B : Bs} {σ : St} {g : Gh} {a : Act} {w : World} (h : RelG GL B σ g a w) {t : Nat} {s : SV} (hx : s.Den g (a.tmps.getD t undef)) : RelG GL B ⟨σ.n, (t, s) :: σ.sl, σ.ob⟩ g a w := by
  refine ⟨h.defers, h.size, fun u => ?_, h.store, h.stp⟩
  show (slk u ((t, s) :: σ.sl)).Den g _
  rw [slk_cons]
  split
  · rename_i e; subst e; exact hx
  · exact h.slots u
end Go.Vd
namespace Go.Vd
open Go Go.RowKit
inductive Sh where
  | int (k : IntKind) | bool | str | slice | ptr | map | any
structure TI where
  ok : Bool
  size : Nat
  agg : Bool
  flds : List (Nat × Nat × Bool)
  fok : Bool
  zero : List Value
  zok : Bool
  elem : TypeId
  tup : Option (List TypeId)
  sh : List Sh
def shOf (P : Program) : Nat → TypeId → List Sh
  | 0, _ => []
  | n + 1, T => match P.underlying T with
    | some (.int k) => [.int k]
    | some .bool => [.bool]
    | some .string => [.str]
    | some (.slice _) => [.slice]
    | some (.pointer _) => [.ptr]
    | some (.map _ _) => [.map]
    | some (.struct fs) => fs.toList.flatMap fun f => shOf P n f.type
    | some (.array k e) => (List.replicate k (shOf P n e)).flatten
    | some _ => [.any]
    | none => []
def isAggD : Option TypeDesc → Bool
  | some (.struct _) => true
  | some (.array _ _) => true
  | _ => false
def tiOf (P : Program) (T : TypeId) : TI where
  ok := (P.info? T).isSome && (P.underlying T).isSome
  size := ((P.info? T).map (·.size)).getD 0
  agg := isAggD (P.underlying T)
  flds := match P.underlying T with
    | some (.struct fs) => fs.toList.map fun f => (f.offset, ((P.info? f.type).map (·.size)).getD 0, isAggD (P.underlying f.type))
    | _ => []
  fok := match P.underlying T with
    | some (.struct fs) => fs.toList.all fun f => (P.info? f.type).isSome
    | _ => false
  zero := (((P.info? T).bind (·.zero)).map (·.cells.toList)).getD []
  zok := ((P.info? T).bind (·.zero)).isSome
  elem := match P.underlying T with
    | some (.slice e) => e
    | some (.pointer e) => e
    | some (.array _ e) => e
    | _ => 0
  tup := match P.underlying T with
    | some (.tuple ts) => some ts.toList
    | _ => none
  sh := shOf P 6 T
section
variable {P : Program}
theorem ti_ok {T : TypeId} (h : (tiOf P T).ok = true) : ∃ i d, P.info? T = some i ∧ P.underlying T = some d ∧ (tiOf P T).size = i.size ∧ (tiOf P T).agg = isAggD (some d) := by
  simp only [tiOf, Bool.and_eq_true, Option.isSome_iff_exists] at h
  obtain ⟨⟨i, hi⟩, d, hd⟩ := h
  exact ⟨i, d, hi, hd, by simp [tiOf, hi], by simp [tiOf, hd]⟩
theorem run_isAgg {T : TypeId} {d : TypeDesc} (h : P.underlying T = some d) (w : World) : (isAgg T).run P w = .ok (isAggD (some d)) w := by
  cases d <;> simp [isAgg, run_underlying h, isAggD]
theorem Value.cells_one {x : Value} (h : x.oneCell' = true) : x.cells = #[x] := by cases x <;> simp_all [Value.cells, Value.oneCell']
theorem addr_add (b off i : Nat) : (⟨b, off, none⟩ : Addr).add i = ⟨b, off + i, none⟩ := by
  unfold Addr.add; split
  · subst_vars; rfl
  · rfl
/-- A load at an address where the cells are known. -/
theorem run_loadVar_cells {T : TypeId} (hT : (tiOf P T).ok = true) {w : World} {b off : Nat} {xs : List Value} (hl : xs.length = (tiOf P T).size)
    (h : ∀ j x, xs[j]? = some x → w.cell? ⟨b, off + j, none⟩ = some x) (h1 : (tiOf P T).agg = false → ∃ x, xs = [x]) :
    (loadVar T ⟨b, off, none⟩).run P w = .ok (if (tiOf P T).agg then .agg ⟨xs⟩ else xs.headD undef) w := by
  obtain ⟨i, d, hi, hd, hs, ha⟩ := ti_ok hT
  have hag := run_isAgg hd w
  rw [← ha] at hag
  cases hag2 : (tiOf P T).agg with
  | true =>
    rw [hag2] at hag
    have hload := run_loadCells_list (P := P) w ⟨b, off, none⟩ xs (fun j x hj => by rw [addr_add]; exact h j x hj)
    rw [hl, hs] at hload
    simp [loadVar, hag, sizeOf, typeInfo, hi, hload]
  | false =>
    rw [hag2] at hag
    obtain ⟨x, rfl⟩ := h1 hag2
    have h0 := h 0 x rfl
    simp at h0
    simp [loadVar, hag, h0]
end
end Go.Vd
namespace Go.Vd
open Go Go.RowKit
def CH (Hc : List (Addr × Value)) (w : World) : Prop := ∀ p ∈ Hc, w.cell? p.1 = some p.2
/-- what is held: cells that stay, or cells of the objects in L -/
def HeldBy (g : Gh) (L : List Nat) (Hc : List (Addr × Value)) : Prop :=
  ∀ p ∈ Hc, p.1.spot = none ∧ (g.m p.1.block p.1.off = some p.2 ∨ ∃ i b, i ∈ L ∧ g.gs[i]? = some (.loc b) ∧ p.1.block = b)
/-! looking up: what is found stands as it was put there -/
def slo (t : Nat) : List (Nat × SV) → Option SV
  | [] => none
  | (k, s) :: r => cond (Nat.beq k t) (some s) (slo t r)
theorem slo_slk {t : Nat} {s : SV} : ∀ {l : List (Nat × SV)}, slo t l = some s → slk t l = s
  | [], h => by cases h
  | (k, x) :: r, h => by
    change cond (Nat.beq k t) (some x) (slo t r) = some s at h
    show cond (Nat.beq k t) x (slk t r) = s
    cases hb : Nat.beq k t with
    | true => rw [hb] at h; simpa using h
    | false => rw [hb] at h; exact slo_slk h
def evO (GL : Nat → List D) (sl : List (Nat × SV)) : Operand → Option SV
  | .tmp t => slo t sl
  | .const v => some (.d (.v v))
  | .global b => some (.d (.cp (GL b)))
  | .func f => some (.d (.v (.func (.func f) #[] #[])))
theorem evO_evS {GL : Nat → List D} {sl : List (Nat × SV)} {x : Operand} {s : SV} (h : evO GL sl x = some s) : evS GL sl x = s := by
  cases x with
  | tmp t => exact slo_slk h
  | const v => simpa [evO, evS] using h
  | global b => simpa [evO, evS] using h
  | func f => simpa [evO, evS] using h
section
variable {P : Program} {GL : Nat → List D}
theorem RelG.evo {B : Bs} {σ : St} {g : Gh} {a : Act} {w : World} (h : RelG GL B σ g a w) {x : Operand} {s : SV} (hx : evO GL σ.sl x = some s) : s.Den g (a.eval x) := by
  have := h.ev x; rwa [evO_evS hx] at this
/-- an operation that only looks -/
def FloatR (P : Program) (GL : Nat → List D) (o : Oper) (σ : St) (K : SV → List Nat → Prop) : Prop :=
  ∀ B g a w, RelG GL B σ g a w → ∃ Hc s y L, (∀ w', CH Hc w' → (execOp a.eval o).run P w' = .ok (.value y) w') ∧ CH Hc w ∧ HeldBy g L Hc ∧ s.Den g y ∧ K s L
variable {o : Oper} {σ : St} {K : SV → List Nat → Prop}
/-- one that looks at no memory -/
theorem fl_of (h : ∀ B g a w, RelG GL B σ g a w → ∃ s y, (∀ w', (execOp a.eval o).run P w' = .ok (.value y) w') ∧ s.Den g y ∧ K s []) : FloatR P GL o σ K := fun B g a w hr => by
  obtain ⟨s, y, h1, h2, h3⟩ := h B g a w hr
  exact ⟨[], s, y, [], fun w' _ => h1 w', (fun p hp => by cases hp), (fun p hp => by cases hp), h2, h3⟩
theorem fl_move {x : Operand} {s : SV} (ho : o.op = .move x) (hx : evO GL σ.sl x = some s) (hK : K s []) : FloatR P GL o σ K := fl_of fun B g a w hr => ⟨s, a.eval x, fun w' => by simp [execOp, ho], hr.evo hx, hK⟩
theorem mv {x : Operand} {s : SV} (hK : K s []) (ho : o.op = .move x := by exact rfl) (hx : evO GL σ.sl x = some s := by exact rfl) : FloatR P GL o σ K := fl_move ho hx hK
theorem fl_assign {x : Operand} {s : SV} (ho : o.op = .assign x) (hx : evO GL σ.sl x = some s) (hK : K s []) : FloatR P GL o σ K := fl_of fun B g a w hr => ⟨s, a.eval x, fun w' => by simp [execOp, ho], hr.evo hx, hK⟩
theorem asg {x : Operand} {s : SV} (hK : K s []) (ho : o.op = .assign x := by exact rfl) (hx : evO GL σ.sl x = some s := by exact rfl) : FloatR P GL o σ K := fl_assign ho hx hK
theorem fl_pick_t {c x y : Operand} {s : SV} (ho : o.op = .pick c x y) (hc : evO GL σ.sl c = some (.d (.v (.bool true)))) (hx : evO GL σ.sl x = some s) (hK : K s []) : FloatR P GL o σ K := fl_of fun B g a w hr => by
  have h1 : a.eval c = .bool true := hr.evo hc
  exact ⟨s, a.eval x, fun w' => by simp [execOp, ho, h1, asBool], hr.evo hx, hK⟩
theorem f_pick_t {c x y : Operand} {s : SV} (hK : K s []) (ho : o.op = .pick c x y := by exact rfl) (hc : evO GL σ.sl c = some (.d (.v (.bool true))) := by exact rfl) (hx : evO GL σ.sl x = some s := by exact rfl) : FloatR P GL o σ K := fl_pick_t ho hc hx hK
theorem fl_pick_f {c x y : Operand} {s : SV} (ho : o.op = .pick c x y) (hc : evO GL σ.sl c = some (.d (.v (.bool false)))) (hy : evO GL σ.sl y = some s) (hK : K s []) : FloatR P GL o σ K := fl_of fun B g a w hr => by
  have h1 : a.eval c = .bool false := hr.evo hc
  exact ⟨s, a.eval y, fun w' => by simp [execOp, ho, h1, asBool], hr.evo hy, hK⟩
theorem f_pick_f {c x y : Operand} {s : SV} (hK : K s []) (ho : o.op = .pick c x y := by exact rfl) (hc : evO GL σ.sl c = some (.d (.v (.bool false))) := by exact rfl) (hy : evO GL σ.sl y = some s := by exact rfl) : FloatR P GL o σ K := fl_pick_f ho hc hy hK
theorem fl_nil_blk {x : Operand} {i off : Nat} (ho : o.op = .nilCheck x) (hx : evO GL σ.sl x = some (.blk i off)) (hK : K (.blk i off) []) : FloatR P GL o σ K := fl_of fun B g a w hr => by
  have h1 := hr.evo hx
  obtain ⟨b, hb, e⟩ := h1
  exact ⟨.blk i off, a.eval x, fun w' => by simp only [execOp, ho, e]; rfl, ⟨b, hb, e⟩, hK⟩
theorem ncb {x : Operand} {i off : Nat} (hK : K (.blk i off) []) (ho : o.op = .nilCheck x := by exact rfl) (hx : evO GL σ.sl x = some (.blk i off) := by exact rfl) : FloatR P GL o σ K := fl_nil_blk ho hx hK
/-! two operands -/
theorem toList_inj {a b : ByteArray} (h : a.toList = b.toList) : a = b := by
  rw [ByteArray.toList_eq, ByteArray.toList_eq] at h
  have := Array.toList_inj.1 h
  cases a; cases b; simp_all
theorem str_beq (a b : ByteArray) : (a.toList == b.toList) = decide (a = b) := by
  rw [Bool.eq_iff_iff]; simp only [beq_iff_eq, decide_eq_true_eq]
  exact ⟨toList_inj, fun h => by rw [h]⟩
theorem run_eqGuard_plain {op : BinOp} {T : TypeId} {x y : Operand} {a b : Value} (ha : a.oneCell' = true) (hn : ¬ (a = .nilIface ∧ b = .nilIface)) (w : World) :
    (eqGuard op T x y a b).run P w = .ok () w := by
  unfold eqGuard
  cases a <;> cases b <;> first
    | (exfalso; exact hn ⟨rfl, rfl⟩)
    | (exfalso; simp [Value.oneCell'] at ha; done)
    | (cases op <;> rfl)
theorem fl_bin {op : BinOp} {T T' : TypeId} {x y : Operand} {va vb r : Value} (ho : o.op = .binOp op T x y T') (hx : evO GL σ.sl x = some (.d (.v va))) (hy : evO GL σ.sl y = some (.d (.v vb))) (ha : va.oneCell' = true) (hn : ¬ (va = .nilIface ∧ vb = .nilIface))
    (hrun : ∀ w, (binOp op T va vb).run P w = .ok r w) (hK : K (.d (.v r)) []) : FloatR P GL o σ K := fl_of fun B g a w hr => by
  have h1 : a.eval x = va := hr.evo hx
  have h2 : a.eval y = vb := hr.evo hy
  exact ⟨.d (.v r), r, fun w' => by simp only [execOp, ho, h1, h2, Sem.run_bind, run_eqGuard_plain ha hn, hrun, Result.andThen_ok]; rfl, rfl, hK⟩
section
variable {T T' : TypeId} {x y : Operand} {k : IntKind} {m n : Int}
theorem fl_lss (ho : o.op = .binOp .lss T x y T') (hx : evO GL σ.sl x = some (.d (.v (.int k m)))) (hy : evO GL σ.sl y = some (.d (.v (.int k n)))) (hK : K (.d (.v (.bool (decide (m < n))))) []) : FloatR P GL o σ K :=
  fl_bin ho hx hy rfl (by simp) (fun w => by simp [binOp, Op.intCmp]) hK
theorem ilt  (hK : K (.d (.v (.bool (decide (m < n))))) []) (ho : o.op = .binOp .lss T x y T' := by exact rfl) (hx : evO GL σ.sl x = some (.d (.v (.int k m))) := by exact rfl) (hy : evO GL σ.sl y = some (.d (.v (.int k n))) := by exact rfl) : FloatR P GL o σ K := fl_lss ho hx hy hK
theorem fl_leq (ho : o.op = .binOp .leq T x y T') (hx : evO GL σ.sl x = some (.d (.v (.int k m)))) (hy : evO GL σ.sl y = some (.d (.v (.int k n)))) (hK : K (.d (.v (.bool (decide (m ≤ n))))) []) : FloatR P GL o σ K :=
  fl_bin ho hx hy rfl (by simp) (fun w => by simp [binOp, Op.intCmp]) hK
theorem ile  (hK : K (.d (.v (.bool (decide (m ≤ n))))) []) (ho : o.op = .binOp .leq T x y T' := by exact rfl) (hx : evO GL σ.sl x = some (.d (.v (.int k m))) := by exact rfl) (hy : evO GL σ.sl y = some (.d (.v (.int k n))) := by exact rfl) : FloatR P GL o σ K := fl_leq ho hx hy hK
theorem fl_gtr (ho : o.op = .binOp .gtr T x y T') (hx : evO GL σ.sl x = some (.d (.v (.int k m)))) (hy : evO GL σ.sl y = some (.d (.v (.int k n)))) (hK : K (.d (.v (.bool (decide (n < m))))) []) : FloatR P GL o σ K :=
  fl_bin ho hx hy rfl (by simp) (fun w => by simp [binOp, Op.intCmp]) hK
theorem igt  (hK : K (.d (.v (.bool (decide (n < m))))) []) (ho : o.op = .binOp .gtr T x y T' := by exact rfl) (hx : evO GL σ.sl x = some (.d (.v (.int k m))) := by exact rfl) (hy : evO GL σ.sl y = some (.d (.v (.int k n))) := by exact rfl) : FloatR P GL o σ K := fl_gtr ho hx hy hK
theorem fl_geq (ho : o.op = .binOp .geq T x y T') (hx : evO GL σ.sl x = some (.d (.v (.int k m)))) (hy : evO GL σ.sl y = some (.d (.v (.int k n)))) (hK : K (.d (.v (.bool (decide (n ≤ m))))) []) : FloatR P GL o σ K :=
  fl_bin ho hx hy rfl (by simp) (fun w => by simp [binOp, Op.intCmp]) hK
theorem ige  (hK : K (.d (.v (.bool (decide (n ≤ m))))) []) (ho : o.op = .binOp .geq T x y T' := by exact rfl) (hx : evO GL σ.sl x = some (.d (.v (.int k m))) := by exact rfl) (hy : evO GL σ.sl y = some (.d (.v (.int k n))) := by exact rfl) : FloatR P GL o σ K := fl_geq ho hx hy hK
theorem fl_eql (ho : o.op = .binOp .eql T x y T') (hx : evO GL σ.sl x = some (.d (.v (.int k m)))) (hy : evO GL σ.sl y = some (.d (.v (.int k n)))) (hK : K (.d (.v (.bool (decide (m = n))))) []) : FloatR P GL o σ K :=
  fl_bin ho hx hy rfl (by simp) (fun w => by simp [binOp, Op.intCmp]; by_cases h : m = n <;> simp [h]) hK
theorem ieq  (hK : K (.d (.v (.bool (decide (m = n))))) []) (ho : o.op = .binOp .eql T x y T' := by exact rfl) (hx : evO GL σ.sl x = some (.d (.v (.int k m))) := by exact rfl) (hy : evO GL σ.sl y = some (.d (.v (.int k n))) := by exact rfl) : FloatR P GL o σ K := fl_eql ho hx hy hK
theorem fl_neq (ho : o.op = .binOp .neq T x y T') (hx : evO GL σ.sl x = some (.d (.v (.int k m)))) (hy : evO GL σ.sl y = some (.d (.v (.int k n)))) (hK : K (.d (.v (.bool (!decide (m = n))))) []) : FloatR P GL o σ K :=
  fl_bin ho hx hy rfl (by simp) (fun w => by simp [binOp, Op.intCmp, bne]; by_cases h : m = n <;> simp [h]) hK
theorem ine  (hK : K (.d (.v (.bool (!decide (m = n))))) []) (ho : o.op = .binOp .neq T x y T' := by exact rfl) (hx : evO GL σ.sl x = some (.d (.v (.int k m))) := by exact rfl) (hy : evO GL σ.sl y = some (.d (.v (.int k n))) := by exact rfl) : FloatR P GL o σ K := fl_neq ho hx hy hK
theorem wrapI {x : Int} (h1 : -9223372036854775808 ≤ x) (h2 : x ≤ 9223372036854775807) : IntKind.i64.wrap x = x := by
  have := IntWalk.i64_in x
  exact this (by omega)
theorem fl_add (ho : o.op = .binOp .add T x y T') (hx : evO GL σ.sl x = some (.d (.v (.int .i64 m)))) (hy : evO GL σ.sl y = some (.d (.v (.int .i64 n)))) (hb : -9223372036854775808 ≤ m + n ∧ m + n ≤ 9223372036854775807) (hK : K (.d (.v (.int .i64 (m + n)))) []) : FloatR P GL o σ K :=
  fl_bin ho hx hy rfl (by simp) (fun w => by simp [binOp, Op.intArith, wrapI hb.1 hb.2]) hK
theorem iad  (hK : K (.d (.v (.int .i64 (m + n)))) []) (ho : o.op = .binOp .add T x y T' := by exact rfl) (hx : evO GL σ.sl x = some (.d (.v (.int .i64 m))) := by exact rfl) (hy : evO GL σ.sl y = some (.d (.v (.int .i64 n))) := by exact rfl) (hb : -9223372036854775808 ≤ m + n ∧ m + n ≤ 9223372036854775807 := by omega) : FloatR P GL o σ K := fl_add ho hx hy hb hK
theorem fl_sub (ho : o.op = .binOp .sub T x y T') (hx : evO GL σ.sl x = some (.d (.v (.int .i64 m)))) (hy : evO GL σ.sl y = some (.d (.v (.int .i64 n)))) (hb : -9223372036854775808 ≤ m - n ∧ m - n ≤ 9223372036854775807) (hK : K (.d (.v (.int .i64 (m - n)))) []) : FloatR P GL o σ K :=
  fl_bin ho hx hy rfl (by simp) (fun w => by simp [binOp, Op.intArith, wrapI hb.1 hb.2]) hK
theorem isu  (hK : K (.d (.v (.int .i64 (m - n)))) []) (ho : o.op = .binOp .sub T x y T' := by exact rfl) (hx : evO GL σ.sl x = some (.d (.v (.int .i64 m))) := by exact rfl) (hy : evO GL σ.sl y = some (.d (.v (.int .i64 n))) := by exact rfl) (hb : -9223372036854775808 ≤ m - n ∧ m - n ≤ 9223372036854775807 := by omega) : FloatR P GL o σ K := fl_sub ho hx hy hb hK
theorem fl_mul (ho : o.op = .binOp .mul T x y T') (hx : evO GL σ.sl x = some (.d (.v (.int .i64 m)))) (hy : evO GL σ.sl y = some (.d (.v (.int .i64 n)))) (hb : -9223372036854775808 ≤ m * n ∧ m * n ≤ 9223372036854775807) (hK : K (.d (.v (.int .i64 (m * n)))) []) : FloatR P GL o σ K :=
  fl_bin ho hx hy rfl (by simp) (fun w => by simp [binOp, Op.intArith, wrapI hb.1 hb.2]) hK
theorem fl_rem (ho : o.op = .binOp .rem T x y T') (hx : evO GL σ.sl x = some (.d (.v (.int .i64 m)))) (hy : evO GL σ.sl y = some (.d (.v (.int .i64 n)))) (hb : 0 ≤ m ∧ 0 < n) (hK : K (.d (.v (.int .i64 (m % n)))) []) : FloatR P GL o σ K :=
  fl_bin ho hx hy rfl (by simp) (fun w => by
    have h1 : m.tmod n = m % n := Int.tmod_eq_emod_of_nonneg hb.1
    have h2 : ¬ n = 0 := by omega
    simp only [binOp, Op.intDiv, if_neg h2, h1]; rfl) hK
theorem f_rem  (hK : K (.d (.v (.int .i64 (m % n)))) []) (ho : o.op = .binOp .rem T x y T' := by exact rfl) (hx : evO GL σ.sl x = some (.d (.v (.int .i64 m))) := by exact rfl) (hy : evO GL σ.sl y = some (.d (.v (.int .i64 n))) := by exact rfl) (hb : 0 ≤ m ∧ 0 < n := by omega) : FloatR P GL o σ K := fl_rem ho hx hy hb hK
theorem fl_quo (ho : o.op = .binOp .quo T x y T') (hx : evO GL σ.sl x = some (.d (.v (.int .i64 m)))) (hy : evO GL σ.sl y = some (.d (.v (.int .i64 n)))) (hb : 0 ≤ m ∧ 0 < n ∧ m ≤ 9223372036854775807) (hK : K (.d (.v (.int .i64 (m / n)))) []) : FloatR P GL o σ K :=
  fl_bin ho hx hy rfl (by simp) (fun w => by
    have h1 : m.tdiv n = m / n := Int.tdiv_eq_ediv_of_nonneg hb.1
    have h2 : ¬ n = 0 := by omega
    have h5 : 0 ≤ m / n := Int.ediv_nonneg hb.1 (by omega)
    have h6 : m / n ≤ m := Int.ediv_le_self _ hb.1
    have h4 : IntKind.i64.wrap (m / n) = m / n := by generalize m / n = q at h5 h6 ⊢; exact wrapI (by omega) (by omega)
    simp only [binOp, Op.intDiv, if_neg h2, h1, h4]; rfl) hK
end
section
variable {T T' : TypeId} {x y : Operand} {s t : ByteArray}
theorem fl_seql (ho : o.op = .binOp .eql T x y T') (hx : evO GL σ.sl x = some (.d (.v (.string s)))) (hy : evO GL σ.sl y = some (.d (.v (.string t)))) (hK : K (.d (.v (.bool (decide (s = t))))) []) : FloatR P GL o σ K :=
  fl_bin ho hx hy rfl (by simp) (fun w => by simp only [binOp, Op.stringOp, str_beq]; rfl) hK
theorem seq1  (hK : K (.d (.v (.bool (decide (s = t))))) []) (ho : o.op = .binOp .eql T x y T' := by exact rfl) (hx : evO GL σ.sl x = some (.d (.v (.string s))) := by exact rfl) (hy : evO GL σ.sl y = some (.d (.v (.string t))) := by exact rfl) : FloatR P GL o σ K := fl_seql ho hx hy hK
theorem fl_sneq (ho : o.op = .binOp .neq T x y T') (hx : evO GL σ.sl x = some (.d (.v (.string s)))) (hy : evO GL σ.sl y = some (.d (.v (.string t)))) (hK : K (.d (.v (.bool (!decide (s = t))))) []) : FloatR P GL o σ K :=
  fl_bin ho hx hy rfl (by simp) (fun w => by simp only [binOp, Op.stringOp, str_beq]; rfl) hK
theorem sne  (hK : K (.d (.v (.bool (!decide (s = t))))) []) (ho : o.op = .binOp .neq T x y T' := by exact rfl) (hx : evO GL σ.sl x = some (.d (.v (.string s))) := by exact rfl) (hy : evO GL σ.sl y = some (.d (.v (.string t))) := by exact rfl) : FloatR P GL o σ K := fl_sneq ho hx hy hK
theorem fl_sadd (ho : o.op = .binOp .add T x y T') (hx : evO GL σ.sl x = some (.d (.v (.string s)))) (hy : evO GL σ.sl y = some (.d (.v (.string t)))) (hb : ((s.size + t.size : Nat) : Int) ≤ 9223372036854775807) (hK : K (.d (.v (.string (s ++ t)))) []) : FloatR P GL o σ K :=
  fl_bin ho hx hy rfl (by simp) (fun w => by
    have h2 : ¬ (((s.size + t.size : Nat) : Int) > IntKind.i64.max) := by show ¬ (9223372036854775807 < ((s.size + t.size : Nat) : Int)); omega
    simp only [binOp, Op.stringOp, h2, if_false]
    rfl) hK
theorem f_sadd  (hK : K (.d (.v (.string (s ++ t)))) []) (ho : o.op = .binOp .add T x y T' := by exact rfl) (hx : evO GL σ.sl x = some (.d (.v (.string s))) := by exact rfl) (hy : evO GL σ.sl y = some (.d (.v (.string t))) := by exact rfl) (hb : ((s.size + t.size : Nat) : Int) ≤ 9223372036854775807 := by omega) : FloatR P GL o σ K := fl_sadd ho hx hy hb hK
end
theorem fl_not {T : TypeId} {x : Operand} {b : Bool} (ho : o.op = .unOp .not T x) (hx : evO GL σ.sl x = some (.d (.v (.bool b)))) (hK : K (.d (.v (.bool (!b)))) []) : FloatR P GL o σ K := fl_of fun B g a w hr => by
  have h1 : a.eval x = .bool b := hr.evo hx
  exact ⟨.d (.v (.bool (!b))), _, fun w' => by simp only [execOp, ho, h1, Op.unary]; rfl, rfl, hK⟩
theorem f_not {T : TypeId} {x : Operand} {b : Bool} (hK : K (.d (.v (.bool (!b)))) []) (ho : o.op = .unOp .not T x := by exact rfl) (hx : evO GL σ.sl x = some (.d (.v (.bool b))) := by exact rfl) : FloatR P GL o σ K := fl_not ho hx hK
theorem fl_neg64 {T : TypeId} {x : Operand} {n : Int} (ho : o.op = .unOp .neg T x) (hx : evO GL σ.sl x = some (.d (.v (.int .i64 n)))) (hb : -9223372036854775808 ≤ -n ∧ -n ≤ 9223372036854775807) (hK : K (.d (.v (.int .i64 (-n)))) []) : FloatR P GL o σ K := fl_of fun B g a w hr => by
  have h1 : a.eval x = .int .i64 n := hr.evo hx
  have h2 : IntKind.i64.wrap (0 - n) = -n := by rw [show (0 : Int) - n = -n by omega]; exact wrapI hb.1 hb.2
  exact ⟨.d (.v (.int .i64 (-n))), .int .i64 (-n), fun w' => by simp [execOp, ho, h1, Op.unary, Op.intArith, wrapI hb.1 hb.2], rfl, hK⟩
theorem f_neg64 {T : TypeId} {x : Operand} {n : Int} (hK : K (.d (.v (.int .i64 (-n)))) []) (ho : o.op = .unOp .neg T x := by exact rfl) (hx : evO GL σ.sl x = some (.d (.v (.int .i64 n))) := by exact rfl) (hb : -9223372036854775808 ≤ -n ∧ -n ≤ 9223372036854775807 := by omega) : FloatR P GL o σ K := fl_neg64 ho hx hb hK
theorem fl_conv {s d : TypeId} {x : Operand} {k k' : IntKind} {n : Int} (hd : P.underlying d = some (.int k')) (hs : (P.underlying s).isSome = true) (ho : o.op = .convert s d x) (hx : evO GL σ.sl x = some (.d (.v (.int k n)))) (hK : K (.d (.v (.int k' (k'.wrap n)))) []) : FloatR P GL o σ K := fl_of fun B g a w hr => by
  have h1 : a.eval x = .int k n := hr.evo hx
  obtain ⟨ds, hds⟩ := Option.isSome_iff_exists.1 hs
  exact ⟨.d (.v (.int k' (k'.wrap n))), .int k' (k'.wrap n), fun w' => by simp [execOp, ho, h1, convert, run_underlying hds, run_underlying hd, Conv.intToInt], rfl, hK⟩
/-! addresses -/
theorem flds_out {T : TypeId} {f o sz : Nat} {ag : Bool} (h : (tiOf P T).flds[f]? = some (o, sz, ag)) : ∃ fs fd, P.underlying T = some (.struct fs) ∧ fs[f]? = some fd ∧ fd.offset = o ∧
    ((P.info? fd.type).map (·.size)).getD 0 = sz ∧ isAggD (P.underlying fd.type) = ag := by
  unfold tiOf at h
  simp only at h
  split at h
  · rename_i fs hfs
    rw [List.getElem?_map] at h
    cases hf : fs.toList[f]? with
    | none => rw [hf] at h; cases h
    | some fd =>
      rw [hf] at h
      simp only [Option.map_some, Option.some.injEq, Prod.mk.injEq] at h
      exact ⟨fs, fd, hfs, by simpa using hf, h.1, h.2.1, h.2.2⟩
  · simp at h
theorem run_fieldAt {T : TypeId} {f o sz : Nat} {ag : Bool} (h : (tiOf P T).flds[f]? = some (o, sz, ag)) (hsz : sz ≠ 0) (b off : Nat) (w : World) :
    (Instr.fieldAt T (.pointer (some ⟨b, off, none⟩)) f).run P w = .ok (.pointer (some ⟨b, off + o, none⟩)) w := by
  obtain ⟨fs, fd, hu, hfd, rfl, hs, _⟩ := flds_out h
  have hsize : ∃ i, P.info? fd.type = some i ∧ i.size ≠ 0 := by
    cases hi : P.info? fd.type with
    | none => rw [hi] at hs; simp at hs; exact absurd hs.symm hsz
    | some i => rw [hi] at hs; simp at hs; exact ⟨i, rfl, by omega⟩
  obtain ⟨i, hi, hi0⟩ := hsize
  simp [Instr.fieldAt, run_underlying hu, hfd, Instr.sureAddr, fieldPlace, sizeOf, typeInfo, hi, hi0, addr_add]
/-- the n-th of a list, and what lies from there on, each as it stands -/
def dropO {α : Type} : Nat → List α → Option (List α)
  | 0, l => some l
  | n + 1, [] => none
  | n + 1, _ :: r => dropO n r
theorem dropO_eq {α : Type} : ∀ {n : Nat} {l r : List α}, dropO n l = some r → l.drop n = r ∧ n ≤ l.length
  | 0, l, r, h => by simp [dropO] at h; subst h; simp
  | n + 1, [], r, h => by cases h
  | n + 1, x :: l, r, h => by have := dropO_eq (n := n) (l := l) h; exact ⟨by simpa using this.1, by simp; exact this.2⟩
def takeO {α : Type} : Nat → List α → Option (List α)
  | 0, _ => some []
  | n + 1, [] => none
  | n + 1, x :: r => (takeO n r).bind fun l => some (x :: l)
theorem takeO_eq {α : Type} : ∀ {n : Nat} {l r : List α}, takeO n l = some r → l.take n = r ∧ n ≤ l.length
  | 0, l, r, h => by simp [takeO] at h; subst h; simp
  | n + 1, [], r, h => by cases h
  | n + 1, x :: l, r, h => by
    simp only [takeO, Option.bind_eq_some_iff, Option.some.injEq] at h
    obtain ⟨r', h1, rfl⟩ := h
    have := takeO_eq (n := n) (l := l) h1
    exact ⟨by simpa using this.1, by simp; exact this.2⟩
theorem fl_field_blk {T : TypeId} {x : Operand} {f i off : Nat} {ti : TI} (hT : tiOf P T = ti) {o1 sz : Nat} {ag : Bool} {r : List (Nat × Nat × Bool)} (hf : dropO f ti.flds = some ((o1, sz, ag) :: r)) (hsz : Nat.beq sz 0 = false) (ho : o.op = .fieldAddr T x f) (hx : evO GL σ.sl x = some (.blk i off)) (hK : K (.blk i (off + o1)) []) : FloatR P GL o σ K := fl_of fun B g a w hr => by
  have hf2 : (tiOf P T).flds[f]? = some (o1, sz, ag) := by
    have := dropO_eq hf
    rw [hT]
    have h2 := congrArg List.head? this.1
    simpa using h2
  obtain ⟨b, hb, h1⟩ := hr.evo hx
  exact ⟨.blk i (off + o1), _, fun w' => by simp only [execOp, ho, h1, Sem.run_bind, run_fieldAt hf2 (by intro h; rw [h] at hsz; cases hsz), Result.andThen_ok]; rfl, ⟨b, hb, rfl⟩, hK⟩
theorem fdb {T : TypeId} {x : Operand} {f i off : Nat} {ti : TI} {o1 sz : Nat} {ag : Bool} {r : List (Nat × Nat × Bool)} (hT : tiOf P T = ti) (hK : K (.blk i (off + o1)) []) (ho : o.op = .fieldAddr T x f := by exact rfl) (hx : evO GL σ.sl x = some (.blk i off) := by exact rfl) (hf : dropO f ti.flds = some ((o1, sz, ag) :: r) := by exact rfl) (hsz : Nat.beq sz 0 = false := by exact rfl) : FloatR P GL o σ K := fl_field_blk hT hf hsz ho hx hK
theorem fl_index_of {T : TypeId} {x i : Operand} {k : Nat} {ls : List (List D)} {j : Int} {kd : IntKind} {e : List D} (hu : P.underlying T = some (.slice (tiOf P T).elem)) {ti : TI} (hT : tiOf P (tiOf P T).elem = ti) (hok : ti.ok = true) (hs : ti.size = k) (ho : o.op = .indexAddr T x i)
    (hx : evO GL σ.sl x = some (.d (.sl k ls)) ∨ ∃ i, evO GL σ.sl x = some (.own i k ls)) (hi : evO GL σ.sl i = some (.d (.v (.int kd j)))) (h0 : 0 ≤ j) (he : ls[j.toNat]? = some e) (hK : K (.d (.cp e)) []) : FloatR P GL o σ K := fl_of fun B g a w hr => by
  have hxx : (D.sl k ls).Den g.m (a.eval x) := by
    rcases hx with hx | ⟨i, hx⟩
    · exact hr.evo hx
    · exact own_sl (hr.evo hx)
  obtain ⟨ad, cap, h1, hc, hd⟩ := hxx
  have hj := (List.getElem?_eq_some_iff.1 he).1
  obtain ⟨b, off, rfl, hd2⟩ := hd (by intro h; subst h; simp at he)
  have h2 : a.eval i = .int kd j := hr.evo hi
  rw [← hT] at hok
  obtain ⟨inf, d, hi', hd', hs', _⟩ := ti_ok hok
  refine ⟨.d (.cp e), .pointer (some ⟨b, off + j.toNat * k, none⟩), fun w' => ?_, ⟨b, _, rfl, (hd2.get he).2⟩, hK⟩
  have h3 : j < (ls.length : Int) := by omega
  rw [hT, hs] at hs'
  simp [execOp, ho, h1, h2, Instr.indexAt, run_underlying hu, asIntOf, h0, h3, sizeOf, typeInfo, hi', ← hs', addr_add]
theorem fl_index {T : TypeId} {x i : Operand} {k : Nat} {ls : List (List D)} {j : Int} {kd : IntKind} {e : List D} {ti : TI} (hu : P.underlying T = some (.slice (tiOf P T).elem)) (hT : tiOf P (tiOf P T).elem = ti) (hok : ti.ok = true) (hs : ti.size = k) (ho : o.op = .indexAddr T x i) (hx : evO GL σ.sl x = some (.d (.sl k ls))) (hi : evO GL σ.sl i = some (.d (.v (.int kd j)))) (h0 : 0 ≤ j) (he : ls[j.toNat]? = some e) (hK : K (.d (.cp e)) []) : FloatR P GL o σ K :=
  fl_index_of hu hT hok hs ho (.inl hx) hi h0 he hK
theorem ixs {T : TypeId} {x i : Operand} {k : Nat} {ls : List (List D)} {j : Int} {kd : IntKind} {e : List D} {ti : TI} (hu : P.underlying T = some (.slice (tiOf P T).elem)) (hT : tiOf P (tiOf P T).elem = ti) (hK : K (.d (.cp e)) []) (ho : o.op = .indexAddr T x i := by exact rfl) (hx : evO GL σ.sl x = some (.d (.sl k ls)) := by exact rfl) (hi : evO GL σ.sl i = some (.d (.v (.int kd j))) := by exact rfl) (hok : ti.ok = true := by exact rfl) (hs : ti.size = k := by exact rfl) (h0 : 0 ≤ j := by omega) (he : ls[j.toNat]? = some e := by omega) : FloatR P GL o σ K := fl_index hu hT hok hs ho hx hi h0 he hK
theorem fl_index_own {T : TypeId} {x i : Operand} {k n : Nat} {ls : List (List D)} {j : Int} {kd : IntKind} {e : List D} {ti : TI} (hu : P.underlying T = some (.slice (tiOf P T).elem)) (hT : tiOf P (tiOf P T).elem = ti) (hok : ti.ok = true) (hs : ti.size = k) (ho : o.op = .indexAddr T x i) (hx : evO GL σ.sl x = some (.own n k ls)) (hi : evO GL σ.sl i = some (.d (.v (.int kd j)))) (h0 : 0 ≤ j) (he : ls[j.toNat]? = some e) (hK : K (.d (.cp e)) []) : FloatR P GL o σ K :=
  fl_index_of hu hT hok hs ho (.inr ⟨n, hx⟩) hi h0 he hK
theorem ixo {T : TypeId} {x i : Operand} {k n : Nat} {ls : List (List D)} {j : Int} {kd : IntKind} {e : List D} {ti : TI} (hu : P.underlying T = some (.slice (tiOf P T).elem)) (hT : tiOf P (tiOf P T).elem = ti) (hK : K (.d (.cp e)) []) (ho : o.op = .indexAddr T x i := by exact rfl) (hx : evO GL σ.sl x = some (.own n k ls) := by exact rfl) (hi : evO GL σ.sl i = some (.d (.v (.int kd j))) := by exact rfl) (hok : ti.ok = true := by exact rfl) (hs : ti.size = k := by exact rfl) (h0 : 0 ≤ j := by omega) (he : ls[j.toNat]? = some e := by omega) : FloatR P GL o σ K := fl_index_own hu hT hok hs ho hx hi h0 he hK
def byteAt (s : ByteArray) (i : Nat) : Int := (s.data.getD i 0).toNat
theorem fl_byte {T : TypeId} {x i : Operand} {s : ByteArray} {j : Int} {kd : IntKind} (hu : P.underlying T = some .string) (ho : o.op = .index T x i) (hx : evO GL σ.sl x = some (.d (.v (.string s)))) (hi : evO GL σ.sl i = some (.d (.v (.int kd j)))) (h01 : 0 ≤ j ∧ j < s.size) (hK : K (.d (.v (.int .u8 (byteAt s j.toNat)))) []) : FloatR P GL o σ K := fl_of fun B g a w hr => by
  obtain ⟨h0, h1⟩ := h01
  have h2 : a.eval x = .string s := hr.evo hx
  have h3 : a.eval i = .int kd j := hr.evo hi
  refine ⟨.d (.v (.int .u8 (byteAt s j.toNat))), .int .u8 (byteAt s j.toNat), fun w' => ?_, rfl, hK⟩
  have hd : j.toNat < s.data.size := by have : s.data.size = s.size := rfl; omega
  simp only [execOp, ho, h2, h3, Sem.run_bind, run_index_string w' T s kd j hu, dif_pos (And.intro h0 h1), Result.andThen_ok, byteAt, Array.getD, hd, dite_true]
  rfl
theorem byt {T : TypeId} {x i : Operand} {s : ByteArray} {j : Int} {kd : IntKind} (hu : P.underlying T = some .string) (hK : K (.d (.v (.int .u8 (byteAt s j.toNat)))) []) (ho : o.op = .index T x i := by exact rfl) (hx : evO GL σ.sl x = some (.d (.v (.string s))) := by exact rfl) (hi : evO GL σ.sl i = some (.d (.v (.int kd j))) := by exact rfl) (h01 : 0 ≤ j ∧ j < s.size := by omega) : FloatR P GL o σ K := fl_byte hu ho hx hi h01 hK
theorem run_bound {kd : IntKind} {i : Int} {y : Nat} {c : BoundsCode} (h0 : 0 ≤ i) (h1 : i ≤ y) (w : World) : (Instr.sliceBound (.int kd i) y c).run P w = .ok i.toNat w := by
  simp [Instr.sliceBound, asIntOf, h0, h1]
theorem fl_sub_lh {T : TypeId} {x lo hi : Operand} {s : ByteArray} {l h : Int} {k1 k2 : IntKind} (hu : P.underlying T = some .string) (ho : o.op = .slice T x (some lo) (some hi) none) (hx : evO GL σ.sl x = some (.d (.v (.string s)))) (hl : evO GL σ.sl lo = some (.d (.v (.int k1 l)))) (hh : evO GL σ.sl hi = some (.d (.v (.int k2 h)))) (hb : 0 ≤ l ∧ l ≤ h ∧ h ≤ s.size)
    (hK : K (.d (.v (.string (s.extract l.toNat h.toNat)))) []) : FloatR P GL o σ K := fl_of fun B g a w hr => by
  obtain ⟨h0, h1, h2⟩ := hb
  have e1 : a.eval x = .string s := hr.evo hx
  have e2 : a.eval lo = .int k1 l := hr.evo hl
  have e3 : a.eval hi = .int k2 h := hr.evo hh
  refine ⟨.d (.v (.string (s.extract l.toNat h.toNat))), _, fun w' => ?_, rfl, hK⟩
  simp [execOp, ho, e1, e2, e3, Instr.sliceAt, Instr.slice, run_underlying hu, Instr.sliceBounds, run_bound (P := P) (i := _) (y := _) (by omega : (0:Int) ≤ _) h2]
  rw [run_bound (by omega) (by omega)]
  simp
theorem f_sub_lh {T : TypeId} {x lo hi : Operand} {s : ByteArray} {l h : Int} {k1 k2 : IntKind} (hu : P.underlying T = some .string) (hK : K (.d (.v (.string (s.extract l.toNat h.toNat)))) []) (ho : o.op = .slice T x (some lo) (some hi) none := by exact rfl) (hx : evO GL σ.sl x = some (.d (.v (.string s))) := by exact rfl) (hl : evO GL σ.sl lo = some (.d (.v (.int k1 l))) := by exact rfl) (hh : evO GL σ.sl hi = some (.d (.v (.int k2 h))) := by exact rfl) (hb : 0 ≤ l ∧ l ≤ h ∧ h ≤ s.size := by omega) : FloatR P GL o σ K := fl_sub_lh hu ho hx hl hh hb hK
theorem fl_sub_l {T : TypeId} {x lo : Operand} {s : ByteArray} {l : Int} {k1 : IntKind} (hu : P.underlying T = some .string) (ho : o.op = .slice T x (some lo) none none) (hx : evO GL σ.sl x = some (.d (.v (.string s)))) (hl : evO GL σ.sl lo = some (.d (.v (.int k1 l)))) (hb : 0 ≤ l ∧ l ≤ s.size)
    (hK : K (.d (.v (.string (s.extract l.toNat s.size)))) []) : FloatR P GL o σ K := fl_of fun B g a w hr => by
  obtain ⟨h0, h1⟩ := hb
  have e1 : a.eval x = .string s := hr.evo hx
  have e2 : a.eval lo = .int k1 l := hr.evo hl
  refine ⟨.d (.v (.string (s.extract l.toNat s.size))), _, fun w' => ?_, rfl, hK⟩
  simp [execOp, ho, e1, e2, Instr.sliceAt, Instr.slice, run_underlying hu, Instr.sliceBounds]
  rw [run_bound (by omega) (by omega)]
  simp
def nthO {α : Type} : Nat → List α → Option α
  | _, [] => none
  | 0, x :: _ => some x
  | n + 1, _ :: r => nthO n r
theorem nthO_eq {α : Type} : ∀ {n : Nat} {l : List α} {x : α}, nthO n l = some x → l[n]? = some x
  | 0, [], _, h => by cases h
  | _ + 1, [], _, h => by cases h
  | 0, y :: l, x, h => by simpa [nthO] using h
  | n + 1, y :: l, x, h => by simpa using nthO_eq (n := n) (l := l) h
theorem fl_extract {x : Operand} {i : Nat} {l : List SV} {s : SV} (ho : o.op = .extract x i) (hx : evO GL σ.sl x = some (.tup l)) (hi : nthO i l = some s) (hK : K s []) : FloatR P GL o σ K := fl_of fun B g a w hr => by
  obtain ⟨vs, h1, hd⟩ := hr.evo hx
  obtain ⟨y, hy, hdy⟩ := hd.get (nthO_eq hi)
  exact ⟨s, y, fun w' => by simp [execOp, ho, h1, Instr.extract, hy], hdy, hK⟩
theorem ex1 {x : Operand} {i : Nat} {l : List SV} {s : SV} (hK : K s []) (ho : o.op = .extract x i := by exact rfl) (hx : evO GL σ.sl x = some (.tup l) := by exact rfl) (hi : nthO i l = some s := by exact rfl) : FloatR P GL o σ K := fl_extract ho hx hi hK
theorem fl_extract_d {x : Operand} {i : Nat} {l : List D} {s : D} (ho : o.op = .extract x i) (hx : evO GL σ.sl x = some (.d (.tup l))) (hi : nthO i l = some s) (hK : K (.d s) []) : FloatR P GL o σ K := fl_of fun B g a w hr => by
  obtain ⟨vs, h1, hd⟩ := hr.evo hx
  obtain ⟨y, hy, hdy⟩ := hd.get (nthO_eq hi)
  exact ⟨.d s, y, fun w' => by simp [execOp, ho, h1, Instr.extract, hy], hdy, hK⟩
theorem ex2 {x : Operand} {i : Nat} {l : List D} {s : D} (hK : K (.d s) []) (ho : o.op = .extract x i := by exact rfl) (hx : evO GL σ.sl x = some (.d (.tup l)) := by exact rfl) (hi : nthO i l = some s := by exact rfl) : FloatR P GL o σ K := fl_extract_d ho hx hi hK
theorem fl_len_of {T : TypeId} {x : Operand} {k : Nat} {ls : List (List D)} {ty : Array TypeId} (hu : P.underlying T = some (.slice (tiOf P T).elem)) (ho : o.op = .call { callee := .builtin .len, args := #[x], argTypes := #[T] })
    (hx : evO GL σ.sl x = some (.d (.sl k ls)) ∨ ∃ i, evO GL σ.sl x = some (.own i k ls)) (hK : K (.d (.v (.int .i64 ls.length))) []) : FloatR P GL o σ K := fl_of fun B g a w hr => by
  have hxx : (D.sl k ls).Den g.m (a.eval x) := by
    rcases hx with hx | ⟨i, hx⟩
    · exact hr.evo hx
    · exact own_sl (hr.evo hx)
  obtain ⟨ad, cap, h1, hc, hd⟩ := hxx
  exact ⟨.d (.v (.int .i64 ls.length)), .int .i64 ls.length, fun w' => by simp [execOp, ho, h1, resolve, invoke, builtin, Builtin.len_, run_underlying hu, goInt], rfl, hK⟩
theorem fl_len {T : TypeId} {x : Operand} {k : Nat} {ls : List (List D)} (hu : P.underlying T = some (.slice (tiOf P T).elem)) (ho : o.op = .call { callee := .builtin .len, args := #[x], argTypes := #[T] })
    (hx : evO GL σ.sl x = some (.d (.sl k ls))) (hK : K (.d (.v (.int .i64 ls.length))) []) : FloatR P GL o σ K := fl_len_of (ty := #[]) hu ho (.inl hx) hK
theorem le1 {T : TypeId} {x : Operand} {k : Nat} {ls : List (List D)} (hu : P.underlying T = some (.slice (tiOf P T).elem)) (hK : K (.d (.v (.int .i64 ls.length))) []) (ho : o.op = .call { callee := .builtin .len, args := #[x], argTypes := #[T] } := by exact rfl) (hx : evO GL σ.sl x = some (.d (.sl k ls)) := by exact rfl) : FloatR P GL o σ K := fl_len hu ho hx hK
theorem fl_len_own {T : TypeId} {x : Operand} {i k : Nat} {ls : List (List D)} (hu : P.underlying T = some (.slice (tiOf P T).elem)) (ho : o.op = .call { callee := .builtin .len, args := #[x], argTypes := #[T] })
    (hx : evO GL σ.sl x = some (.own i k ls)) (hK : K (.d (.v (.int .i64 ls.length))) []) : FloatR P GL o σ K := fl_len_of (ty := #[]) hu ho (.inr ⟨i, hx⟩) hK
theorem le2 {T : TypeId} {x : Operand} {i k : Nat} {ls : List (List D)} (hu : P.underlying T = some (.slice (tiOf P T).elem)) (hK : K (.d (.v (.int .i64 ls.length))) []) (ho : o.op = .call { callee := .builtin .len, args := #[x], argTypes := #[T] } := by exact rfl) (hx : evO GL σ.sl x = some (.own i k ls) := by exact rfl) : FloatR P GL o σ K := fl_len_own hu ho hx hK
theorem fl_len_s {T : TypeId} {x : Operand} {s : ByteArray} (hu : P.underlying T = some .string) (ho : o.op = .call { callee := .builtin .len, args := #[x], argTypes := #[T] })
    (hx : evO GL σ.sl x = some (.d (.v (.string s)))) (hK : K (.d (.v (.int .i64 s.size))) []) : FloatR P GL o σ K := fl_of fun B g a w hr => by
  have h1 : a.eval x = .string s := hr.evo hx
  exact ⟨.d (.v (.int .i64 s.size)), .int .i64 s.size, fun w' => by simp [execOp, ho, h1, resolve, invoke, builtin, Builtin.len_, run_underlying hu, goInt], rfl, hK⟩
theorem le3 {T : TypeId} {x : Operand} {s : ByteArray} (hu : P.underlying T = some .string) (hK : K (.d (.v (.int .i64 s.size))) []) (ho : o.op = .call { callee := .builtin .len, args := #[x], argTypes := #[T] } := by exact rfl) (hx : evO GL σ.sl x = some (.d (.v (.string s))) := by exact rfl) : FloatR P GL o σ K := fl_len_s hu ho hx hK
theorem fl_max {x y : Operand} {ts : Array TypeId} {m n : Int} (ho : o.op = .call { callee := .builtin .max, args := #[x, y], argTypes := ts }) (hx : evO GL σ.sl x = some (.d (.v (.int .i64 m)))) (hy : evO GL σ.sl y = some (.d (.v (.int .i64 n)))) (hK : K (.d (.v (.int .i64 (max m n)))) []) : FloatR P GL o σ K := fl_of fun B g a w hr => by
  have e1 : a.eval x = .int .i64 m := hr.evo hx
  have e2 : a.eval y = .int .i64 n := hr.evo hy
  have e3 : (if n > m then n else m) = max m n := by split <;> omega
  exact ⟨.d (.v (.int .i64 (max m n))), .int .i64 (max m n), fun w' => by
    simp only [execOp, ho, resolve, invoke, builtin, Builtin.max_, Builtin.max2, Sem.run_bind, Sem.run_pure, Result.andThen_ok, List.map_toArray, List.map_cons, List.map_nil, e1, e2, List.foldlM_cons, List.foldlM_nil, e3], rfl, hK⟩
theorem f_max {x y : Operand} {ts : Array TypeId} {m n : Int} (hK : K (.d (.v (.int .i64 (max m n)))) []) (ho : o.op = .call { callee := .builtin .max, args := #[x, y], argTypes := ts } := by exact rfl) (hx : evO GL σ.sl x = some (.d (.v (.int .i64 m))) := by exact rfl) (hy : evO GL σ.sl y = some (.d (.v (.int .i64 n))) := by exact rfl) : FloatR P GL o σ K := fl_max ho hx hy hK
end
end Go.Vd
namespace Go.Vd
open Go Go.RowKit
/-! parts of a struct as cells -/
def oneD : D → Bool
  | .v (.agg _) => false
  | .v (.tuple _) => false
  | .agg _ => false
  | .tup _ => false
  | _ => true
def oneSV : SV → Bool
  | .d x => oneD x
  | .agg _ => false
  | .tup _ => false
  | .junk => false
  | _ => true
theorem oneD_den {m : Mem} {d : D} {x : Value} (h : oneD d = true) (hd : d.Den m x) : x.oneCell' = true := by
  cases d with
  | v y => simp only [D.Den] at hd; subst hd; cases x <;> first | rfl | cases h
  | agg l => cases h
  | tup l => cases h
  | sl k l => obtain ⟨a, c, rfl, _⟩ := hd; rfl
  | cp l => obtain ⟨b, off, rfl, _⟩ := hd; rfl
  | ifc T d => obtain ⟨y, rfl, _⟩ := hd; rfl
theorem oneSV_den {g : Gh} {s : SV} {x : Value} (h : oneSV s = true) (hd : s.Den g x) : x.oneCell' = true := by
  cases s with
  | d y => exact oneD_den h hd
  | blk i off => obtain ⟨b, _, rfl⟩ := hd; rfl
  | agg l => cases h
  | tup l => cases h
  | own i k ls => obtain ⟨b, c, _, rfl, _⟩ := hd; rfl
  | fn f a b => obtain ⟨vs, us, rfl, _⟩ := hd; rfl
  | ifc T s => obtain ⟨y, rfl, _⟩ := hd; rfl
  | map i => obtain ⟨b, _, rfl⟩ := hd; rfl
  | rp i => obtain ⟨b, cap, n, _, rfl⟩ := hd; rfl
  | arr i n => obtain ⟨b, cap, _, rfl⟩ := hd; rfl
  | bp i off => obtain ⟨b, cap, n, _, rfl⟩ := hd; rfl
  | ful k ls => obtain ⟨a, rfl, _⟩ := hd; rfl
  | junk => cases h
def allOneS : List SV → Bool
  | [] => true
  | s :: r => cond (oneSV s) (allOneS r) false
theorem allOneS_den {g : Gh} : ∀ {l : List SV} {vs : List Value}, allOneS l = true → SDenL g l vs → ∀ x ∈ vs, x.oneCell' = true
  | [], _, _, h, x, hx => by cases h; cases hx
  | s :: r, _, h, ⟨y, l', e, h1, h2⟩, x, hx => by
    subst e
    unfold allOneS at h
    cases hs : oneSV s with
    | false => rw [hs] at h; cases h
    | true =>
      rw [hs] at h
      cases hx with
      | head => exact oneSV_den hs h1
      | tail _ hx => exact allOneS_den h h2 x hx
def mapD : List D → Option (List SV)
  | [] => some []
  | d :: r => (mapD r).bind fun l => some (.d d :: l)
theorem mapD_eq : ∀ {l : List D} {r : List SV}, mapD l = some r → r = l.map SV.d
  | [], r, h => by simp [mapD] at h; simp [h]
  | d :: l, r, h => by
    simp only [mapD, Option.bind_eq_some_iff, Option.some.injEq] at h
    obtain ⟨r', h1, rfl⟩ := h
    simp [mapD_eq h1]
def mapVS : List Value → Option (List SV)
  | [] => some []
  | d :: r => (mapVS r).bind fun l => some (.d (.v d) :: l)
theorem mapVS_eq : ∀ {l : List Value} {r : List SV}, mapVS l = some r → r = l.map fun x => SV.d (.v x)
  | [], r, h => by simp [mapVS] at h; simp [h]
  | d :: l, r, h => by
    simp only [mapVS, Option.bind_eq_some_iff, Option.some.injEq] at h
    obtain ⟨r', h1, rfl⟩ := h
    simp [mapVS_eq h1]
/-- the cells that a value fills: agg: is it a struct or an array? -/
def cellsO (ag : Bool) (s : SV) : Option (List SV) :=
  cond ag (match s with | .agg cs => some cs | .d (.agg ds) => mapD ds | .d (.v (.agg arr)) => mapVS arr.toList | _ => none) (cond (oneSV s) (some [s]) none)
theorem cellsO_den {g : Gh} {ag : Bool} {s : SV} {x : Value} {cs : List SV} (h : cellsO ag s = some cs) (d : s.Den g x) : SDenL g cs x.cells.toList := by
  unfold cellsO at h
  cases ag with
  | false =>
    simp only [cond_false] at h
    cases h1 : oneSV s with
    | false => rw [h1] at h; cases h
    | true =>
      rw [h1] at h
      simp only [cond_true, Option.some.injEq] at h
      subst h
      rw [Value.cells_one (oneSV_den h1 d)]
      exact ⟨x, [], rfl, d, rfl⟩
  | true =>
    simp only [cond_true] at h
    split at h
    · simp only [Option.some.injEq] at h; subst h
      obtain ⟨l, rfl, hd⟩ := d; exact hd
    · rw [mapD_eq h]
      obtain ⟨l, rfl, hd⟩ := d
      exact SDenL.ofd hd
    · rw [mapVS_eq h]
      cases d
      exact SDenL.ofv _
    · cases h
def setO : Nat → List SV → List SV → Option (List SV)
  | 0, [], l => some l
  | 0, _ :: _, [] => none
  | 0, s :: r, _ :: l => (setO 0 r l).bind fun l' => some (s :: l')
  | n + 1, cs, [] => none
  | n + 1, cs, x :: l => (setO n cs l).bind fun l' => some (x :: l')
theorem setO_eq : ∀ {n : Nat} {cs l r : List SV}, setO n cs l = some r → n + cs.length ≤ l.length ∧ r = l.take n ++ cs ++ l.drop (n + cs.length)
  | 0, [], l, r, h => by simp [setO] at h; subst h; simp
  | 0, s :: cs, [], r, h => by cases h
  | 0, s :: cs, x :: l, r, h => by
    simp only [setO, Option.bind_eq_some_iff, Option.some.injEq] at h
    obtain ⟨r', h1, rfl⟩ := h
    have := setO_eq h1
    simp at this ⊢
    exact ⟨by omega, this.2⟩
  | n + 1, cs, [], r, h => by cases h
  | n + 1, cs, x :: l, r, h => by
    simp only [setO, Option.bind_eq_some_iff, Option.some.injEq] at h
    obtain ⟨r', h1, rfl⟩ := h
    have := setO_eq h1
    refine ⟨by simp; omega, ?_⟩
    rw [this.2, show n + 1 + cs.length = (n + cs.length) + 1 by omega]
    simp
theorem setO_den {g : Gh} {n : Nat} {cs l r : List SV} (h : setO n cs l = some r) {vs us : List Value} (hl : SDenL g l vs) (hc : SDenL g cs us) : SDenL g r (vs.take n ++ us ++ vs.drop (n + us.length)) := by
  obtain ⟨h1, rfl⟩ := setO_eq h
  rw [hc.length]
  exact ((hl.take n).append hc).append (hl.drop _)
section
variable {P : Program} {GL : Nat → List D} {o : Oper} {σ : St}
/-! loads -/
def fromO (ag : Bool) (cs : List SV) : Option SV := cond ag (some (.agg cs)) (match cs with | [s] => some s | _ => none)
theorem fromO_den {g : Gh} {ag : Bool} {cs : List SV} {s : SV} {vs : List Value} (h : fromO ag cs = some s) (hd : SDenL g cs vs) : s.Den g (if ag then .agg ⟨vs⟩ else vs.headD undef) := by
  unfold fromO at h
  cases ag with
  | true => simp only [cond_true, Option.some.injEq] at h; subst h; exact ⟨vs, rfl, hd⟩
  | false =>
    simp only [cond_false] at h
    split at h
    · simp only [Option.some.injEq] at h; subst h
      obtain ⟨x, l', rfl, h1, _⟩ := hd
      exact h1
    · cases h
theorem run_load_held {T : TypeId} {Hc : List (Addr × Value)} {b off : Nat} {xs : List Value} (hok : (tiOf P T).ok = true) (hl : xs.length = (tiOf P T).size) (h1 : (tiOf P T).agg = false → xs.length = 1)
    (hH : ∀ (j : Nat) x, xs[j]? = some x → ((⟨b, off + j, none⟩ : Addr), x) ∈ Hc) (w : World) (hc : CH Hc w) :
    (Instr.loadAt T (.pointer (some ⟨b, off, none⟩))).run P w = .ok (if (tiOf P T).agg then .agg ⟨xs⟩ else xs.headD undef) w := by
  have := run_loadVar_cells hok (w := w) (b := b) (off := off) hl (fun j x hj => hc _ (hH j x hj)) (fun hag => by
    have e := h1 hag
    match xs, e with
    | [y], _ => exact ⟨y, rfl⟩)
  simpa [Instr.loadAt, Instr.sureAddr] using this
theorem mem_zip {α : Type} (f : Value × Nat → α) {xs : List Value} {j : Nat} {x : Value} (h : xs[j]? = some x) : f (x, j) ∈ xs.zipIdx.map f := by
  refine List.mem_map.2 ⟨(x, j), ?_, rfl⟩
  rw [List.mem_zipIdx_iff_getElem?]
  exact h
theorem fromO_one {cs : List SV} {s : SV} (h : fromO false cs = some s) : cs.length = 1 := by
  unfold fromO at h
  simp only [cond_false] at h
  split at h
  · rfl
  · cases h
theorem fl_load_blk {T : TypeId} {x : Operand} {K : SV → List Nat → Prop} {i off : Nat} {l : List SV} {ty : TypeId} {l1 cs : List SV} {s : SV} {ti : TI} (hT : tiOf P T = ti) (hok : ti.ok = true) (ho : o.op = .load T x) (hx : evO GL σ.sl x = some (.blk i off)) (hi : nthO i σ.ob = some (.cells l ty))
    (hl : dropO off l = some l1) (hc : takeO ti.size l1 = some cs) (hs : fromO ti.agg cs = some s) (hK : K s [i]) : FloatR P GL o σ K := fun B g a w hr => by
  subst hT
  obtain ⟨b, hb, h1⟩ := hr.evo hx
  obtain ⟨vs, hh, hd, hm⟩ := hr.store.obs i _ _ (nthO_eq hi) hb
  have hl' := dropO_eq hl
  have hc' := takeO_eq hc
  have hd2 : SDenL g cs ((vs.drop off).take (tiOf P T).size) := by rw [← hc'.1, ← hl'.1]; exact (hd.drop off).take _
  have hlen : ((vs.drop off).take (tiOf P T).size).length = (tiOf P T).size := by rw [hd2.length, ← hc'.1]; simp; omega
  refine ⟨((vs.drop off).take (tiOf P T).size).zipIdx.map fun p => (⟨b, off + p.2, none⟩, p.1), s, _, [i], fun w' hcw => ?_, fun p hp => ?_, fun p hp => ?_, fromO_den hs hd2, hK⟩
  · have := run_load_held (P := P) hok hlen (fun hag => by rw [hag] at hs; have := fromO_one hs; rw [hd2.length, this]) (b := b) (off := off) (fun j y hj => mem_zip (fun p => ((⟨b, off + p.2, none⟩ : Addr), p.1)) hj) w' hcw
    simp only [execOp, ho, h1, Sem.run_bind, this, Result.andThen_ok, Sem.run_pure]
  · obtain ⟨⟨y, j⟩, hq, rfl⟩ := List.mem_map.1 hp
    rw [List.mem_zipIdx_iff_getElem?] at hq
    rw [List.getElem?_take] at hq
    split at hq
    · rw [List.getElem?_drop] at hq
      simp only [World.cell?, hh]
      simpa using hq
    · cases hq
  · obtain ⟨⟨y, j⟩, hq, rfl⟩ := List.mem_map.1 hp
    exact ⟨rfl, .inr ⟨i, b, by simp, hb, rfl⟩⟩
theorem ldb {T : TypeId} {x : Operand} {K : SV → List Nat → Prop} {i off : Nat} {l : List SV} {ty : TypeId} {l1 cs : List SV} {s : SV} {ti : TI} (hT : tiOf P T = ti) (hK : K s [i]) (ho : o.op = .load T x := by exact rfl) (hx : evO GL σ.sl x = some (.blk i off) := by exact rfl) (hi : nthO i σ.ob = some (.cells l ty) := by exact rfl) (hok : ti.ok = true := by exact rfl) (hl : dropO off l = some l1 := by exact rfl) (hc : takeO ti.size l1 = some cs := by exact rfl) (hs : fromO ti.agg cs = some s := by exact rfl) : FloatR P GL o σ K := fl_load_blk hT hok ho hx hi hl hc hs hK
theorem fl_load_cp {T : TypeId} {x : Operand} {K : SV → List Nat → Prop} {l ds : List D} {cs : List SV} {s : SV} {ti : TI} (hT : tiOf P T = ti) (hok : ti.ok = true) (ho : o.op = .load T x) (hx : evO GL σ.sl x = some (.d (.cp l)))
    (hc : takeO ti.size l = some ds) (hm : mapD ds = some cs) (hs : fromO ti.agg cs = some s) (hK : K s []) : FloatR P GL o σ K := fun B g a w hr => by
  subst hT
  obtain ⟨b, off, h1, hd⟩ := hr.evo hx
  have hc' := takeO_eq hc
  have hd2 := hd.take (tiOf P T).size
  rw [hc'.1] at hd2
  obtain ⟨vs, hv, hcell⟩ := hd2.vals
  have hlen : vs.length = (tiOf P T).size := by rw [hv.length, ← hc'.1]; simp; omega
  have hsd : SDenL g cs vs := by rw [mapD_eq hm]; exact SDenL.ofd hv
  refine ⟨vs.zipIdx.map fun p => (⟨b, off + p.2, none⟩, p.1), s, _, [], fun w' hcw => ?_, fun p hp => ?_, fun p hp => ?_, fromO_den hs hsd, hK⟩
  · have := run_load_held (P := P) hok hlen (fun hag => by rw [hag] at hs; have := fromO_one hs; rw [hsd.length, this]) (b := b) (off := off) (fun j y hj => mem_zip (fun p => ((⟨b, off + p.2, none⟩ : Addr), p.1)) hj) w' hcw
    simp only [execOp, ho, h1, Sem.run_bind, this, Result.andThen_ok, Sem.run_pure]
  · obtain ⟨⟨y, j⟩, hq, rfl⟩ := List.mem_map.1 hp
    rw [List.mem_zipIdx_iff_getElem?] at hq
    exact (hr.store.sat _ _ _ (hcell j y hq)).1
  · obtain ⟨⟨y, j⟩, hq, rfl⟩ := List.mem_map.1 hp
    rw [List.mem_zipIdx_iff_getElem?] at hq
    exact ⟨rfl, .inl (hcell j y hq)⟩
theorem ldc {T : TypeId} {x : Operand} {K : SV → List Nat → Prop} {l ds : List D} {cs : List SV} {s : SV} {ti : TI} (hT : tiOf P T = ti) (hK : K s []) (ho : o.op = .load T x := by exact rfl) (hx : evO GL σ.sl x = some (.d (.cp l)) := by exact rfl) (hok : ti.ok = true := by exact rfl) (hc : takeO ti.size l = some ds := by exact rfl) (hm : mapD ds = some cs := by exact rfl) (hs : fromO ti.agg cs = some s := by exact rfl) : FloatR P GL o σ K := fl_load_cp hT hok ho hx hc hm hs hK
theorem fl_load_all {T : TypeId} {x : Operand} {K : SV → List Nat → Prop} {l : List D} {ti : TI} (hT : tiOf P T = ti) (hok : ti.ok = true) (hag : ti.agg = true) (ho : o.op = .load T x) (hx : evO GL σ.sl x = some (.d (.cp l))) (hlen : l.length = ti.size) (hK : K (.d (.agg l)) []) : FloatR P GL o σ K := fun B g a w hr => by
  subst hT
  obtain ⟨b, off, h1, hd⟩ := hr.evo hx
  obtain ⟨vs, hv, hcell⟩ := hd.vals
  have hlen2 : vs.length = (tiOf P T).size := by rw [hv.length, hlen]
  refine ⟨vs.zipIdx.map fun p => (⟨b, off + p.2, none⟩, p.1), .d (.agg l), .agg ⟨vs⟩, [], fun w' hcw => ?_, fun p hp => ?_, fun p hp => ?_, ⟨vs, rfl, hv⟩, hK⟩
  · have := run_load_held (P := P) hok hlen2 (fun hag' => by rw [hag] at hag'; cases hag') (b := b) (off := off) (fun j y hj => mem_zip (fun p => ((⟨b, off + p.2, none⟩ : Addr), p.1)) hj) w' hcw
    rw [hag] at this
    simp only [execOp, ho, h1, Sem.run_bind, this, Result.andThen_ok, Sem.run_pure]
    rfl
  · obtain ⟨⟨y, j⟩, hq, rfl⟩ := List.mem_map.1 hp
    rw [List.mem_zipIdx_iff_getElem?] at hq
    exact (hr.store.sat _ _ _ (hcell j y hq)).1
  · obtain ⟨⟨y, j⟩, hq, rfl⟩ := List.mem_map.1 hp
    rw [List.mem_zipIdx_iff_getElem?] at hq
    exact ⟨rfl, .inl (hcell j y hq)⟩
theorem lda {T : TypeId} {x : Operand} {K : SV → List Nat → Prop} {l : List D} {ti : TI} (hT : tiOf P T = ti) (hK : K (.d (.agg l)) []) (ho : o.op = .load T x := by exact rfl) (hx : evO GL σ.sl x = some (.d (.cp l)) := by exact rfl) (hok : ti.ok = true := by exact rfl) (hag : ti.agg = true := by exact rfl) (hlen : l.length = ti.size := by omega) : FloatR P GL o σ K := fl_load_all hT hok hag ho hx hlen hK
/-! structs -/
def evPs (GL : Nat → List D) (sl : List (Nat × SV)) : List (Nat × Operand) → Option (List (Nat × SV))
  | [] => some []
  | (i, x) :: r => (evO GL sl x).bind fun s => (evPs GL sl r).bind fun l => some ((i, s) :: l)
def fillO (flds : List (Nat × Nat × Bool)) : List SV → List (Nat × SV) → Option (List SV)
  | cells, [] => some cells
  | cells, (i, s) :: r => (nthO i flds).bind fun f => (cellsO f.2.2 s).bind fun cs => cond (Nat.beq cs.length f.2.1) ((setO f.1 cs cells).bind fun c' => fillO flds c' r) none
theorem fill_den {g : Gh} {flds : List (Nat × Nat × Bool)} {place : Nat → Option (Nat × Nat)} (hp : ∀ (i : Nat) o sz ag, flds[i]? = some (o, sz, ag) → place i = some (o, sz)) (ρ : Operand → Value) {sl : List (Nat × SV)} (hρ : ∀ x s, evO GL sl x = some s → s.Den g (ρ x)) :
    ∀ {ps : List (Nat × Operand)} {es : List (Nat × SV)} {cs : List SV} {l : List Value} {out : List SV}, SDenL g cs l → evPs GL sl ps = some es → fillO flds cs es = some out →
      ∃ l', Instr.fill place ⟨l⟩ (ps.map fun p => (p.1, ρ p.2)) = some ⟨l'⟩ ∧ SDenL g out l' := by
  intro ps
  induction ps with
  | nil =>
    intro es cs l out hd he hf
    simp only [evPs, Option.some.injEq] at he; subst he
    simp only [fillO, Option.some.injEq] at hf; subst hf
    exact ⟨l, rfl, hd⟩
  | cons p r ih =>
    intro es cs l out hd he hf
    obtain ⟨i, x⟩ := p
    simp only [evPs, Option.bind_eq_some_iff, Option.some.injEq] at he
    obtain ⟨s, hs, es', hes, rfl⟩ := he
    simp only [fillO, Option.bind_eq_some_iff] at hf
    obtain ⟨⟨o, sz, ag⟩, hfl, cs1, hcs, hf⟩ := hf
    cases hb : Nat.beq cs1.length sz with
    | false => simp only [hb, cond_false] at hf; cases hf
    | true =>
      simp only [hb, cond_true, Option.bind_eq_some_iff] at hf
      obtain ⟨c', hset, hf⟩ := hf
      have hcd := cellsO_den hcs (hρ x s hs)
      have hcl := hcd.length
      have hll := hd.length
      have hsz : cs1.length = sz := by simpa using hb
      have h1 : (ρ x).cells.size = sz := by have : (ρ x).cells.toList.length = sz := by omega
                                            simpa using this
      have hset2 := setO_eq hset
      simp only [List.map_cons, Instr.fill, hp i o sz ag (nthO_eq hfl)]
      have h3 : (decide ((ρ x).cells.size ≠ sz) || decide (o + (ρ x).cells.size > (⟨l⟩ : Array Value).size)) = false := by simp; omega
      rw [h3]
      simp only [Bool.false_eq_true, if_false]
      have hfold : ((ρ x).cells.zipIdx.foldl (fun (cs : Array Value) (y : Value × Nat) => cs.setIfInBounds (o + y.2) y.1) ⟨l⟩) = ⟨l.take o ++ (ρ x).cells.toList ++ l.drop (o + (ρ x).cells.toList.length)⟩ := by
        have key : ∀ (vs : List Value) (k : Nat) (l : List Value), o + k + vs.length ≤ l.length → (vs.zipIdx k).foldl (fun (cs : Array Value) (y : Value × Nat) => cs.setIfInBounds (o + y.2) y.1) ⟨l⟩ = ⟨l.take (o + k) ++ vs ++ l.drop (o + k + vs.length)⟩ := by
          intro vs
          induction vs with
          | nil => intro k l hl; simp
          | cons v r ih2 =>
            intro k l hl
            simp only [List.length_cons] at hl
            have e1 : (⟨l⟩ : Array Value).setIfInBounds (o + k) v = ⟨l.set (o + k) v⟩ := by apply Array.ext'; simp
            simp only [List.zipIdx_cons, List.foldl_cons, e1]
            rw [ih2 (k + 1) _ (by simp; omega)]
            congr 1
            rw [List.take_set, List.drop_set]
            simp only [List.length_cons]
            rw [show o + (k + 1) = o + k + 1 by omega]
            rw [if_pos (by omega)]
            rw [List.take_add_one]
            have hlt : o + k < l.length := by omega
            rw [List.set_append]
            have hmin : min (o + k) l.length = o + k := by omega
            simp [hlt, hmin]
            rw [show o + k + 1 + r.length = o + k + (r.length + 1) by omega]
        rw [← Array.foldl_toList, Array.toList_zipIdx]
        exact key _ 0 l (by omega)
      obtain ⟨l', hl', hd'⟩ := ih (setO_den hset hd hcd) hes hf
      refine ⟨l', ?_, hd'⟩
      rw [← hl']
      exact congrArg (fun z => Instr.fill place z (r.map fun p => (p.1, ρ p.2))) hfold
theorem fl_build {T : TypeId} {ps : Array (Nat × Operand)} {K : SV → List Nat → Prop} {ti : TI} {z0 cs : List SV} {es : List (Nat × SV)} (hT : tiOf P T = ti) (hz : ti.zok = true) (hfk : ti.fok = true) (hfl : ti.fok = true) (ho : o.op = .build T ps) (he : evPs GL σ.sl ps.toList = some es)
    (hm : mapVS ti.zero = some z0) (hf : fillO ti.flds z0 es = some cs) (hK : K (.agg cs) []) : FloatR P GL o σ K := fl_of fun B g a w hr => by
  subst hT
  have hz' : ∃ i z, P.info? T = some i ∧ i.zero = some z ∧ (tiOf P T).zero = z.cells.toList := by
    simp only [tiOf, Option.isSome_iff_exists, Option.bind_eq_some_iff] at hz
    obtain ⟨z, i, hi, hzz⟩ := hz
    exact ⟨i, z, hi, hzz, by simp [tiOf, hi, hzz]⟩
  obtain ⟨i, z, hi, hzz, hze⟩ := hz'
  have hst : ∃ fs, P.underlying T = some (.struct fs) ∧ fs.toList.all (fun f => (P.info? f.type).isSome) = true := by
    unfold tiOf at hfl
    simp only at hfl
    split at hfl
    · rename_i fs hfs; exact ⟨fs, hfs, hfl⟩
    · cases hfl
  obtain ⟨fs, hfs, hall⟩ := hst
  have hpl : fs.toList.mapM (fun f => (P.info? f.type).map fun i => (f.offset, i.size)) = some (fs.toList.map fun f => (f.offset, ((P.info? f.type).map (·.size)).getD 0)) := by
    generalize fs.toList = l at hall
    induction l with
    | nil => rfl
    | cons f r ih =>
      simp only [List.all_cons, Bool.and_eq_true] at hall
      obtain ⟨i, hi⟩ := Option.isSome_iff_exists.1 hall.1
      simp [List.mapM_cons, hi, ih hall.2]
  have hflds : (tiOf P T).flds = fs.toList.map fun f => (f.offset, ((P.info? f.type).map (·.size)).getD 0, isAggD (P.underlying f.type)) := by simp [tiOf, hfs]
  have hz0 : SDenL g z0 z.cells.toList := by rw [mapVS_eq hm, hze]; exact SDenL.ofv _
  obtain ⟨l', hl', hd'⟩ := fill_den (g := g) (flds := (tiOf P T).flds) (place := ((fs.toList.map fun f => (f.offset, ((P.info? f.type).map (·.size)).getD 0)).toArray[·]?)) (fun i o sz ag hf => by
      rw [hflds, List.getElem?_map] at hf
      cases hfd : fs.toList[i]? with
      | none => rw [hfd] at hf; cases hf
      | some fd =>
        rw [hfd] at hf
        simp only [Option.map_some, Option.some.injEq, Prod.mk.injEq] at hf
        simp only [List.getElem?_toArray, List.getElem?_map, hfd, Option.map_some]
        rw [hf.1, hf.2.1]) a.eval (fun x s hx => hr.evo hx) hz0 he hf
  have hb : P.built T (ps.map fun p => (p.1, a.eval p.2)).toList = some ⟨l'⟩ := by
    unfold Program.built
    simp only [hi, hfs, hzz, hpl, Array.toList_map]
    exact hl'
  refine ⟨.agg cs, .agg ⟨l'⟩, fun w' => ?_, ⟨l', rfl, hd'⟩, hK⟩
  have := run_build w' T (ps.map fun p => (p.1, a.eval p.2)) ⟨l'⟩ hb
  simp only [execOp, ho, Sem.run_bind]
  rw [this]
  rfl
theorem bld {T : TypeId} {ps : Array (Nat × Operand)} {K : SV → List Nat → Prop} {ti : TI} {z0 cs : List SV} {es : List (Nat × SV)} (hT : tiOf P T = ti) (hK : K (.agg cs) []) (ho : o.op = .build T ps := by exact rfl) (hz : ti.zok = true := by exact rfl) (hfk : ti.fok = true := by exact rfl) (hfl : ti.fok = true := by exact rfl) (he : evPs GL σ.sl ps.toList = some es := by exact rfl) (hm : mapVS ti.zero = some z0 := by exact rfl) (hf : fillO ti.flds z0 es = some cs := by exact rfl) : FloatR P GL o σ K := fl_build hT hz hfk hfl ho he hm hf hK
end
end Go.Vd
namespace Go.Vd
open Go Go.RowKit
/-- t is a slice of e -/
structure SlTy (P : Program) (t e : TypeId) (size bytes : Nat) : Prop where
  under : P.underlying t = some (.slice e)
  info : (P.info? e).map (fun i => (i.size, i.bytes)) = some (size, bytes)
  zero : ((P.info? e).bind (·.zero)).map (·.cells.size) = some size
/-- t is a map from texts to numbers -/
structure MapTy (P : Program) (t k e : TypeId) : Prop where
  under : P.underlying t = some (.map k e)
  key : P.underlying k = some .string
  zero : (P.info? e).bind (·.zero) = some (.int .i64 0)
theorem flat_get {s : Nat} (hs : 0 < s) : ∀ (l : List Value) (k : Nat), (∀ v ∈ l, v.cells.size = s) → (l.flatMap fun v => v.cells.toList)[k]? = (l[k / s]?).bind fun v => v.cells[k % s]?
  | [], k, _ => by simp
  | v :: r, k, h => by
    have hv : v.cells.toList.length = s := by simpa using h v List.mem_cons_self
    simp only [List.flatMap_cons, List.getElem?_append, hv]
    by_cases hk : k < s
    · rw [if_pos hk, Nat.div_eq_of_lt hk, Nat.mod_eq_of_lt hk]
      simp
    · rw [if_neg hk, flat_get hs r (k - s) fun u hu => h u (List.mem_cons_of_mem _ hu)]
      have e1 : k / s = (k - s) / s + 1 := by rw [Nat.div_eq k s, if_pos ⟨hs, by omega⟩]
      have e2 : k % s = (k - s) % s := by rw [Nat.mod_eq k s, if_pos ⟨hs, by omega⟩]
      rw [e1, e2, List.getElem?_cons_succ]
theorem flat_len {s : Nat} : ∀ (l : List Value), (∀ v ∈ l, v.cells.size = s) → (l.flatMap fun v => v.cells.toList).length = l.length * s
  | [], _ => by simp
  | v :: r, h => by
    have hv : v.cells.toList.length = s := by simpa using h v List.mem_cons_self
    simp only [List.flatMap_cons, List.length_append, hv, flat_len r fun u hu => h u (List.mem_cons_of_mem _ hu), List.length_cons, Nat.add_mul]
    omega
section
variable {P : Program}
theorem run_lit {t e : TypeId} {size bytes n : Nat} {parts : Array (Nat × Operand)} {ρ : Operand → Value} (T : SlTy P t e size bytes) (xs : List Operand) (l : List Value) (hρ : xs.map ρ = l)
    (hp : parts.toList = (xs.zipIdx 0).map fun p => (p.2, p.1)) (hn : n = l.length) (hs : ∀ v ∈ l, v.cells.size = size) (hsz : 0 < size) (hn0 : 0 < n) (hbig : n * size ≤ 16777216) (w : World) :
    (Instr.buildSlice t n (parts.map fun (i, x) => (i, ρ x))).run P w = .ok (.slice (some ⟨w.heap.size, 0, none⟩) n n) (w.alloc (.cells ⟨l.flatMap fun v => v.cells.toList⟩ e)) := by
  have hinfo := T.info
  have hzero := T.zero
  cases hi : P.info? e with
  | none => simp [hi] at hinfo
  | some ie =>
    rw [hi] at hinfo hzero
    simp only [Option.map_some, Option.some.injEq, Prod.mk.injEq, Option.bind_some] at hinfo hzero
    cases hz : ie.zero with
    | none => simp [hz] at hzero
    | some z =>
      rw [hz] at hzero
      simp only [Option.map_some, Option.some.injEq] at hzero
      obtain ⟨h1, h2⟩ := hinfo
      have hparts : (parts.map fun (x : Nat × Operand) => (x.1, ρ x.2)).toList = (l.zipIdx 0).map fun x => (x.2, x.1) := by
        rw [Array.toList_map, hp, ← hρ]
        simp [List.zipIdx_map]
      obtain ⟨r, hr, hrs, hrk⟩ := Great.fill_dense hsz l 0 ((Array.range (n * size)).map (z.cells[· % z.cells.size]!)) hs (by simp [hn])
      have hrl : r = ⟨l.flatMap fun v => v.cells.toList⟩ := by
        apply Array.ext'
        apply List.ext_getElem?
        intro k
        have := hrk k
        rw [flat_get hsz l k hs]
        rw [Array.getElem?_toList, this]
        simp only [Nat.zero_mul, Nat.zero_le, true_and, Nat.zero_add, Nat.sub_zero]
        split
        · rfl
        · rename_i hk
          have hk' : n * size ≤ k := by rw [hn]; omega
          have h3 : l.length ≤ k / size := by rw [← hn]; exact (Nat.le_div_iff_mul_le hsz).2 hk'
          simp only [List.getElem?_eq_none h3, Option.bind_none]
          rw [Array.getElem?_eq_none]; simp; exact hk'
      have hrun := run_buildSlice w t e n (parts.map fun (i, x) => (i, ρ x)) r ie z T.under hi hz (by rw [h1]; omega) (by rw [h1]; intro h0; rcases Nat.mul_eq_zero.1 h0 with h | h <;> omega) (by rw [h1, ← hr]; congr 1)
      rw [hrun, hrl]
/-- append to a row of the function's own -/
theorem run_app {w : World} {t ty e : TypeId} {size bytes : Nat} (T : SlTy P t e size bytes) (hsz : 0 < size) {v : Value} {n : Nat} {xs : List Value} (hown : w.ownsRow 0 e size v n xs)
    {a : Addr} {m c : Nat} {news : List Value} (hl : news.length = m * size) (hm : 0 < m) (hnews : ∀ j u, news[j]? = some u → w.cell? (a.add j) = some u) (h1 : ∀ u ∈ news, u.oneCell' = true)
    (h63 : n + m ≤ maxLen) (hbytes : (n + m) * bytes ≤ 140737488355328) :
    ∃ v' w', (Builtin.append_ #[t, t] ty #[v, .slice (some a) m c]).run P w = .ok v' w' ∧ w'.ownsRow 0 e size v' (n + m) (xs ++ news) ∧ Fr (fun c => v.ownBlock = some c ∧ v'.ownBlock = some c) w w' ∧
      ∃ k, v'.ownBlock = some k ∧ (v.ownBlock = some k ∨ k = w.heap.size) ∧ k < w'.heap.size ∧ ∃ c, v' = .slice (some ⟨k, 0, none⟩) (n + m) c := by
  have hinfo := T.info
  have hzero := T.zero
  cases hi : P.info? e with
  | none => simp [hi] at hinfo
  | some i =>
    rw [hi] at hinfo hzero
    simp only [Option.map_some, Option.some.injEq, Prod.mk.injEq, Option.bind_some] at hinfo hzero
    cases hz : i.zero with
    | none => simp [hz] at hzero
    | some z =>
    rw [hz] at hzero
    simp only [Option.map_some, Option.some.injEq] at hzero
    obtain ⟨q1, q2⟩ := hinfo
    subst q1
    subst q2
    have hsmall : n + m ≤ 9223372036854775807 := by simp only [maxLen] at h63; omega
    have hlen : (xs ++ news).length = (n + m) * i.size := by rw [List.length_append, hown.1, hl, Nat.add_mul]
    have grown : ∀ (old : Nat), old < n + m → 
        (w.drew.alloc (.cells (xs.toArray ++ news.toArray ++ Builtin.zeroCells z.cells (grownCap w (n + m) old e - (n + m))) e)).ownsRow 0 e i.size
          (.slice (some ⟨w.heap.size, 0, none⟩) (n + m) (grownCap w (n + m) old e)) (n + m) (xs ++ news) := by
      intro old ho
      have hge := grownCap_ge w (n + m) old e
      have hcm : grownCap w (n + m) old e ≤ maxLen := grownCap_le_maxLen w (n + m) old e h63
      refine ⟨hlen, .inr ⟨w.heap.size, _, _, rfl, Nat.zero_le _, heap_alloc_new w.drew _, hge, hcm, ?_, ?_⟩⟩
      · simp only [Array.size_append, List.size_toArray, size_zeroCells, hzero, hown.1, hl, ← Nat.add_mul]
        congr 1
        omega
      · simp only [Array.toList_append, List.append_assoc]
        rw [← List.append_assoc, ← hlen]
        exact List.take_left
    rcases hown.2 with ⟨rfl, rfl⟩ | ⟨g, cap, cur, rfl, hbg, hg, hnc, hcm, hcs, htake⟩
    · have hx : xs = [] := List.eq_nil_of_length_eq_zero (by simpa using hown.1)
      subst hx
      have hr := run_append_nil (P := P) w t ty e i z T.under hi hz a m c news hl hnews (by omega) (by omega) (by have hb := hbytes; simp only [Nat.zero_add] at hb; omega)
      have hgr := grown 0 (by omega)
      simp only [Nat.zero_add, List.nil_append, Array.empty_append] at hgr ⊢
      exact ⟨_, _, hr, hgr, ((Fr.refl _ w).drew).alloc _, _, rfl, .inr rfl, by simp, _, rfl⟩
    · by_cases hroom : n + m ≤ cap
      · have hfit : n * i.size + news.length ≤ cur.size := by rw [hl, hcs, ← Nat.add_mul]; exact Nat.mul_le_mul_right _ hroom
        have hr := run_append_room (P := P) w t ty e i T.under hi g n cap cur hg a m c news hl hnews h1 hroom hfit
        refine ⟨_, _, hr, ⟨hlen, .inr ⟨g, cap, _, rfl, hbg, setRow_heap w g cur _ e _ hg, hroom, hcm, ?_, ?_⟩⟩, ⟨rfl, rfl, rfl, by simp, fun k _ hk => setRow_other w g k _ (fun e => hk ⟨by simp [Value.ownBlock, e], by simp [Value.ownBlock, e]⟩)⟩,
          g, rfl, .inl rfl, by have := (Array.getElem?_eq_some_iff.1 hg).1; simpa using this, _, rfl⟩
        · simp only [List.size_toArray, List.length_append, List.length_take, List.length_drop, Array.length_toList]
          omega
        · rw [htake, ← hlen]
          exact List.take_left
      · have holds : ∀ j u, xs[j]? = some u → w.cell? ((⟨g, 0, none⟩ : Addr).add j) = some u := hown.cells (g := g) rfl
        have hr := run_append_grow (P := P) w t ty e i z T.under hi hz ⟨g, 0, none⟩ n cap xs hown.1 holds a m c news hl hnews (by omega) (by omega) (growslice_fits (by omega) hbytes)
        have hgr := grown cap (by omega)
        exact ⟨_, _, hr, hgr, ((Fr.refl _ w).drew).alloc _, _, rfl, .inr rfl, by simp, _, rfl⟩
end
end Go.Vd
namespace Go.Vd
open Go Go.RowKit
/-- what a step leaves alone: all data, and the objects that T does not name -/
def Keep (T : Nat → Prop) (ob : List Ob) (g : Gh) (w : World) (g' : Gh) (w' : World) : Prop :=
  Mle g.m g'.m ∧ ∀ (i b : Nat) o, ¬ T i → ob[i]? = some o → g.gs[i]? = some (.loc b) → blkOf o (.loc b) = some b → g'.gs[i]? = some (.loc b) ∧ w'.heap[b]? = w.heap[b]?
theorem Keep.refl (T : Nat → Prop) (ob : List Ob) (g : Gh) (w : World) : Keep T ob g w g w := ⟨Mle.refl _, fun _ _ _ _ _ h _ => ⟨h, rfl⟩⟩
theorem ObLe.refl {g g' : Gh} (h : Gle g g') : ∀ o : Ob, ObLe g g' o o
  | .cells l ty => ⟨rfl, fun vs hd => SDenL.mono h l hd⟩
  | .row e k => ⟨rfl, rfl⟩
  | .nilrow e k => ⟨rfl, rfl⟩
  | .buf e k ls q => ⟨rfl, rfl, rfl, rfl, fun vs hd => DenL.mono h.m _ hd⟩
  | .mapI f => rfl
  | .itI i f dn cur => ⟨rfl, rfl, rfl, .inl rfl⟩
  | .dead => trivial
section
variable {GL : Nat → List D} {B : Bs} {σ : St} {g : Gh} {a : Act} {w : World}
theorem Stp.step {ob ob' : List Ob} {g' : Gh} {w' : World} (h : Stp B ob g w) {X : Nat → Prop} (hf : Fr X w w') (hX : ∀ b, X b → B.X b ∨ B.w.heap.size ≤ b) (hm : Mle g.m g'.m)
    (hnew : ∀ b o x, g'.m b o = some x → g.m b o = none → X b ∨ w.heap.size ≤ b)
    (hown : ∀ (i : Nat) o p b, ob'[i]? = some o → g'.gs[i]? = some p → blkOf o p = some b → (B.X b ∨ B.w.heap.size ≤ b) ∨ w.heap.size ≤ b)
    (hat : ∀ (i b : Nat), g.gs[i]? = some (.loc b) → g'.gs[i]? = some (.loc b)) : Stp B ob' g' w' := by
  have hs := h.fr.size
  refine ⟨h.fr.then hf (fun i hi => by rcases hX i hi with h1 | h1; exact .inl h1; exact .inr h1), h.mem.trans hm, fun b o x hx hn => ?_, fun i o p b h1 h2 h3 => ?_, fun i b hi hb => hat i b (h.at' i b hi hb)⟩
  · cases hg : g.m b o with
    | some y => exact h.new b o y hg hn
    | none =>
      rcases hnew b o x hx hg with h1 | h1
      · exact hX b h1
      · exact .inr (by omega)
  · rcases hown i o p b h1 h2 h3 with h4 | h4
    · exact h4
    · exact .inr (by omega)
theorem StoreOk.lt {ob : List Ob} (h : StoreOk GL ob g w) {i : Nat} {o : Ob} {p : Pl} {b : Nat} (ho : ob[i]? = some o) (hp : g.gs[i]? = some p) (hb : blkOf o p = some b) : b < w.heap.size := (h.obs i o p ho hp).lt hb
theorem StoreOk.sat_lt {ob : List Ob} (h : StoreOk GL ob g w) {b o : Nat} {x : Value} (hx : g.m b o = some x) : b < w.heap.size := World.block_lt_of_cell? w ⟨b, o, none⟩ (h.sat b o x hx).1
/-- one new object -/
theorem RelG.new1 (h : RelG GL B σ g a w) {w' : World} (hf : Fr (fun _ => False) w w') {m' : Mem} (hm : Mle g.m m')
    (hnew : ∀ b o x, m' b o = some x → g.m b o = none → w.heap.size ≤ b ∧ w'.cell? ⟨b, o, none⟩ = some x ∧ x.oneCell' = true)
    {o' : Ob} {pl : Pl} (hok : ObOk ⟨m', g.gs ++ [pl]⟩ w' o' pl) (hblk : ∀ b, blkOf o' pl = some b → w.heap.size ≤ b) (hit : ∀ i f dn cur, o' = .itI i f dn cur → σ.ob[i]? = some (.mapI f)) :
    RelG GL B ⟨σ.n, σ.sl, σ.ob ++ [o']⟩ ⟨m', g.gs ++ [pl]⟩ a w' ∧ Keep (fun _ => False) σ.ob g w ⟨m', g.gs ++ [pl]⟩ w' := by
  have hlen := h.store.len
  have hle : Gle g ⟨m', g.gs ++ [pl]⟩ := ⟨hm, fun i p hp => by
    show (g.gs ++ [pl])[i]? = some p
    rw [List.getElem?_append_left (List.getElem?_eq_some_iff.1 hp).1]; exact hp⟩
  have hnone : ∀ b i, b < w.heap.size → g.m b i = none → m' b i = none := fun b i hb hn => by
    cases hx : m' b i with
    | none => rfl
    | some x => have := (hnew b i x hx hn).1; omega
  have hlast : (g.gs ++ [pl])[σ.ob.length]? = some pl := by rw [hlen]; simp
  refine ⟨⟨h.defers, h.size, fun t => SV.Den.mono hle _ (h.slots t), ?_, ?_⟩, hm, fun i b o _ ho hg hb => ⟨hle.gs _ _ hg, hf.block b (h.store.lt ho hg hb) (fun x => x)⟩⟩
  · refine h.store.step (p := fun j => j = σ.ob.length) hm (fun i b => hle.gs i _) (fun i q _ => hle.gs i q) (fun b o x hx => ?_) (by simp [hlen]) (fun j o1 hj ho => ?_) (fun j i f dn cur ho => ?_) (fun j i f dn cur hj ho hi => ?_)
      (fun j o1 q b hj ho hq hb => ?_) (fun j o1 hj ho => ?_) (fun j o1 q b hj ho hq hb => ?_) (fun i j oi oj pi pj b hi hj _ _ _ _ _ _ => hi.trans hj.symm)
    · cases hg : g.m b o with
      | some y =>
        have e := hm b o y hg
        simp only at hx
        rw [e] at hx; cases hx
        have hs := h.store.sat b o x hg
        refine ⟨?_, hs.2⟩
        rw [World.cell?_of_block (w := w) (hf.block b (h.store.sat_lt hg) (fun x => x))]; exact hs.1
      | none => exact (hnew b o x hx hg).2
    · have hlt : j < σ.ob.length := by
        have := (List.getElem?_eq_some_iff.1 ho).1
        simp at this; omega
      rw [List.getElem?_append_left hlt] at ho
      exact ⟨o1, ho, ObLe.refl hle o1⟩
    · by_cases hj : j < σ.ob.length
      · rw [List.getElem?_append_left hj] at ho
        have := h.store.its j i f dn cur ho
        rw [List.getElem?_append_left (List.getElem?_eq_some_iff.1 this).1]; exact this
      · have hj' : j = σ.ob.length := by have := (List.getElem?_eq_some_iff.1 ho).1; simp at this; omega
        subst hj'
        simp at ho
        have := hit i f dn cur ho
        rw [List.getElem?_append_left (List.getElem?_eq_some_iff.1 this).1]; exact this
    · have hlt : j < σ.ob.length := by
        have := (List.getElem?_eq_some_iff.1 ho).1
        simp at this; omega
      rw [List.getElem?_append_left hlt] at ho
      have := (List.getElem?_eq_some_iff.1 (h.store.its j i f dn cur ho)).1
      omega
    · have hlt := h.store.lt ho hq hb
      exact ⟨hf.block b hlt (fun x => x), fun i hn => hnone b i hlt hn⟩
    · subst hj
      simp at ho; subst ho
      exact ⟨pl, hlast, hok⟩
    · subst hj
      simp at ho; subst ho
      simp only at hq
      rw [hlast] at hq; cases hq
      exact .inr (hblk b hb)
  · refine h.stp.step hf (fun b hb => hb.elim) hm (fun b o x hx hn => .inr (hnew b o x hx hn).1) (fun i o p b h1 h2 h3 => ?_) (fun i b => hle.gs i _)
    by_cases hj : i < σ.ob.length
    · rw [List.getElem?_append_left hj] at h1
      simp only at h2
      rw [List.getElem?_append_left (by omega)] at h2
      exact .inl (h.stp.own i o p b h1 h2 h3)
    · have hj' : i = σ.ob.length := by have := (List.getElem?_eq_some_iff.1 h1).1; simp at this; omega
      subst hj'
      simp at h1; subst h1
      simp only at h2
      rw [hlast] at h2; cases h2
      exact .inr (hblk b h3)
/-- an object is written, where it is -/
theorem RelG.upd1 (h : RelG GL B σ g a w) {w' : World} {i b : Nat} {o o' : Ob} {pl : Pl} (ho : σ.ob[i]? = some o) (hpl : g.gs[i]? = some pl) (hb : blkOf o pl = some b) (hf : Fr (fun c => c = b) w w')
    (hok : ObOk g w' o' pl) (hb' : blkOf o' pl = some b ∨ o' = .dead) (hno : ∀ (j : Nat) f dn cur, σ.ob[j]? ≠ some (.itI i f dn cur)) (hit : ∀ k f dn cur, o' = .itI k f dn cur → k ≠ i ∧ σ.ob[k]? = some (.mapI f))
    (hmn : ∀ off, g.m b off = none) :
    RelG GL B ⟨σ.n, σ.sl, σ.ob.set i o'⟩ g a w' ∧ Keep (fun j => j = i) σ.ob g w g w' := by
  have hlen := h.store.len
  have hi := (List.getElem?_eq_some_iff.1 ho).1
  have hne : ∀ (j : Nat) oj pj c, j ≠ i → σ.ob[j]? = some oj → g.gs[j]? = some pj → blkOf oj pj = some c → c ≠ b := fun j oj pj c hj h1 h2 h3 e => by
    subst e; exact hj (h.store.disj j i oj o pj _ c h1 ho h2 hpl h3 hb)
  refine ⟨⟨h.defers, h.size, h.slots, ?_, ?_⟩, Mle.refl _, fun j c oj hj h1 h2 h3 => ⟨h2, hf.block c (h.store.lt h1 h2 h3) (hne j oj _ c hj h1 h2 h3)⟩⟩
  · refine h.store.step (p := fun j => j = i) (Mle.refl _) (fun _ _ h => h) (fun _ _ _ h => h) (fun c off x hx => ?_) (by simp [hlen]) (fun j o1 hj h1 => ?_) (fun j k f dn cur h1 => ?_) (fun j k f dn cur hj h1 hk => ?_)
      (fun j o1 q c hj h1 h2 h3 => ⟨hf.block c (h.store.lt h1 h2 h3) (hne j o1 q c hj h1 h2 h3), fun _ h => h⟩) (fun j o1 hj h1 => ?_) (fun j o1 q c hj h1 h2 h3 => ?_) (fun i j oi oj pi pj b hi hj _ _ _ _ _ _ => hi.trans hj.symm)
    · have hs := h.store.sat c off x hx
      refine ⟨?_, hs.2⟩
      have hcb : ¬ c = b := fun e => by subst e; rw [hmn] at hx; cases hx
      rw [World.cell?_of_block (w := w) (hf.block c (h.store.sat_lt hx) hcb)]; exact hs.1
    · rw [List.getElem?_set_ne (Ne.symm hj)] at h1
      exact ⟨o1, h1, ObLe.refl (Gle.refl g) o1⟩
    · by_cases hj : j = i
      · subst hj
        rw [List.getElem?_set_self hi] at h1
        cases h1
        obtain ⟨h5, h6⟩ := hit k f dn cur rfl
        rw [List.getElem?_set_ne (Ne.symm h5)]; exact h6
      · rw [List.getElem?_set_ne (Ne.symm hj)] at h1
        have h2 := h.store.its j k f dn cur h1
        by_cases hk : k = i
        · subst hk; exact absurd h1 (hno j f dn cur)
        · rw [List.getElem?_set_ne (Ne.symm hk)]; exact h2
    · rw [List.getElem?_set_ne (Ne.symm hj)] at h1
      subst hk
      exact hno j f dn cur h1
    · subst hj
      rw [List.getElem?_set_self hi] at h1
      cases h1
      exact ⟨_, hpl, hok⟩
    · subst hj
      rw [List.getElem?_set_self hi] at h1
      cases h1
      rw [hpl] at h2; cases h2
      rcases hb' with hb' | rfl
      · rw [hb'] at h3; cases h3
        exact .inl ⟨j, o, _, rfl, ho, hpl, hb⟩
      · cases h3
  · refine h.stp.step hf (fun c e => by subst e; exact h.stp.own i o _ c ho hpl hb) (Mle.refl _) (fun c off x hx hn => by rw [hn] at hx; cases hx) (fun j o1 p c h1 h2 h3 => ?_) (fun _ _ h => h)
    by_cases hj : j = i
    · subst hj
      rw [List.getElem?_set_self hi] at h1
      cases h1
      rw [hpl] at h2; cases h2
      rcases hb' with hb' | rfl
      · rw [hb'] at h3; cases h3
        exact .inl (h.stp.own j o _ _ ho hpl hb)
      · cases h3
    · rw [List.getElem?_set_ne (Ne.symm hj)] at h1
      exact .inl (h.stp.own j o1 p c h1 h2 h3)
/-! rows that go on -/
mutual
def SV.kO (i : Nat) : SV → Option SV
  | .own j k ls => cond (Nat.beq j i) (some (.d (.sl k ls))) (some (.own j k ls))
  | .agg l => (kOL i l).bind fun l' => some (.agg l')
  | .tup l => (kOL i l).bind fun l' => some (.tup l')
  | .fn f first caps => (kOL i first).bind fun a => (kOL i caps).bind fun b => some (.fn f a b)
  | .ifc T s => (s.kO i).bind fun s' => some (.ifc T s')
  | .d x => some (.d x)
  | .blk j off => some (.blk j off)
  | .map j => some (.map j)
  | .rp j => cond (Nat.beq j i) (some .junk) (some (.rp j))
  | .arr j n => cond (Nat.beq j i) (some .junk) (some (.arr j n))
  | .bp j off => cond (Nat.beq j i) (some .junk) (some (.bp j off))
  | .ful k ls => some (.ful k ls)
  | .junk => some .junk
def kOL (i : Nat) : List SV → Option (List SV)
  | [] => some []
  | s :: r => (s.kO i).bind fun s' => (kOL i r).bind fun r' => some (s' :: r')
end
mutual
theorem kO_eq {i : Nat} : ∀ {s s' : SV}, s.kO i = some s' → s' = s.kill fun j => Nat.beq j i
  | .own j k ls, s', h => by
    simp only [SV.kO] at h
    simp only [SV.kill]
    cases hb : Nat.beq j i <;> rw [hb] at h <;> simp at h <;> simp [h]
  | .agg l, s', h => by
    simp only [SV.kO, Option.bind_eq_some_iff, Option.some.injEq] at h
    obtain ⟨l', h1, rfl⟩ := h
    simp only [SV.kill, kOL_eq h1]
  | .tup l, s', h => by
    simp only [SV.kO, Option.bind_eq_some_iff, Option.some.injEq] at h
    obtain ⟨l', h1, rfl⟩ := h
    simp only [SV.kill, kOL_eq h1]
  | .fn f a b, s', h => by
    simp only [SV.kO, Option.bind_eq_some_iff, Option.some.injEq] at h
    obtain ⟨a', h1, b', h2, rfl⟩ := h
    simp only [SV.kill, kOL_eq h1, kOL_eq h2]
  | .ifc T s, s', h => by
    simp only [SV.kO, Option.bind_eq_some_iff, Option.some.injEq] at h
    obtain ⟨a', h1, rfl⟩ := h
    simp only [SV.kill, kO_eq h1]
  | .d x, s', h => by simp [SV.kO] at h; subst h; rfl
  | .blk j off, s', h => by simp [SV.kO] at h; subst h; rfl
  | .map j, s', h => by simp [SV.kO] at h; subst h; rfl
  | .arr j n, s', h => by
    simp only [SV.kO] at h
    simp only [SV.kill]
    cases hb : Nat.beq j i <;> rw [hb] at h <;> simp at h <;> simp [h]
  | .bp j off, s', h => by
    simp only [SV.kO] at h
    simp only [SV.kill]
    cases hb : Nat.beq j i <;> rw [hb] at h <;> simp at h <;> simp [h]
  | .rp j, s', h => by
    simp only [SV.kO] at h
    simp only [SV.kill]
    cases hb : Nat.beq j i <;> rw [hb] at h <;> simp at h <;> simp [h]
  | .ful k ls, s', h => by simp [SV.kO] at h; subst h; rfl
  | .junk, s', h => by simp [SV.kO] at h; subst h; rfl
theorem kOL_eq {i : Nat} : ∀ {s s' : List SV}, kOL i s = some s' → s' = killL (fun j => Nat.beq j i) s
  | [], s', h => by simp [kOL] at h; subst h; rfl
  | s :: r, s', h => by
    simp only [kOL, Option.bind_eq_some_iff, Option.some.injEq] at h
    obtain ⟨a', h1, b', h2, rfl⟩ := h
    simp only [killL, kO_eq h1, kOL_eq h2]
end
def kSl (i : Nat) : List (Nat × SV) → Option (List (Nat × SV))
  | [] => some []
  | (t, s) :: r => (s.kO i).bind fun s' => (kSl i r).bind fun r' => some ((t, s') :: r')
theorem kSl_slk {i t : Nat} : ∀ {l l' : List (Nat × SV)}, kSl i l = some l' → slk t l' = (slk t l).kill fun j => Nat.beq j i
  | [], l', h => by simp [kSl] at h; subst h; rfl
  | (k, s) :: r, l', h => by
    simp only [kSl, Option.bind_eq_some_iff, Option.some.injEq] at h
    obtain ⟨a', h1, b', h2, rfl⟩ := h
    rw [slk_cons, slk_cons]
    split
    · exact kO_eq h1
    · exact kSl_slk h2
def Ob.kO (i : Nat) : Ob → Option Ob
  | .cells l ty => (kOL i l).bind fun l' => some (.cells l' ty)
  | .row e k => some (.row e k)
  | .nilrow e k => some (.nilrow e k)
  | .buf e k ls q => some (.buf e k ls q)
  | .mapI f => some (.mapI f)
  | .itI j f dn cur => some (.itI j f dn cur)
  | .dead => some .dead
def kOb (i : Nat) : List Ob → Option (List Ob)
  | [] => some []
  | o :: r => (o.kO i).bind fun o' => (kOb i r).bind fun r' => some (o' :: r')
theorem kOb_get {i : Nat} : ∀ {l l' : List Ob}, kOb i l = some l' → l'.length = l.length ∧ ∀ (j : Nat) o', l'[j]? = some o' → ∃ o, l[j]? = some o ∧ o.kO i = some o'
  | [], l', h => by simp [kOb] at h; subst h; simp
  | o :: r, l', h => by
    simp only [kOb, Option.bind_eq_some_iff, Option.some.injEq] at h
    obtain ⟨a', h1, b', h2, rfl⟩ := h
    have ih := kOb_get h2
    refine ⟨by simp [ih.1], fun j o' hj => ?_⟩
    cases j with
    | zero => simp at hj; subst hj; exact ⟨o, rfl, h1⟩
    | succ j => simpa using ih.2 j o' (by simpa using hj)
theorem ObLe.kO {g g' : Gh} {i : Nat} (h : Gkl (fun j => Nat.beq j i) g g') {o o' : Ob} (hk : o.kO i = some o') : ObLe g g' o o' := by
  cases o <;> simp only [Ob.kO, Option.bind_eq_some_iff, Option.some.injEq] at hk
  case cells l ty => obtain ⟨l', h1, rfl⟩ := hk; rw [kOL_eq h1]; exact ⟨rfl, fun vs hd => SDenL.kill h l hd⟩
  case row => subst hk; exact ⟨rfl, rfl⟩
  case nilrow => subst hk; exact ⟨rfl, rfl⟩
  case buf => subst hk; exact ⟨rfl, rfl, rfl, rfl, fun vs hd => DenL.mono h.m _ hd⟩
  case mapI => subst hk; rfl
  case itI => subst hk; exact ⟨rfl, rfl, rfl, .inl rfl⟩
  case dead => subst hk; trivial
/-- row i gets a new place, or more in it -/
theorem RelG.row1 (h : RelG GL B σ g a w) {w' : World} {i : Nat} {o : Ob} {b : Option Nat} {cap n : Nat} {e : TypeId} {k : Nat} (ho : σ.ob[i]? = some o) (hor : o = .row e k ∨ o = .nilrow e k) (hpl : g.gs[i]? = some (.row b cap n)) (hf : Fr (fun c => b = some c ∧ o = .row e k) w w')
    {m' : Mem} (hm : Mle g.m m') {c cap' n' : Nat} (hc : (b = some c ∧ o = .row e k) ∨ w.heap.size ≤ c)
    (hnew : ∀ d off x, m' d off = some x → g.m d off = none → d = c) (hsat : ∀ off x, m' c off = some x → w'.cell? ⟨c, off, none⟩ = some x ∧ x.oneCell' = true)
    (hold : ∀ d off x, b = some d → g.m d off = some x → w'.cell? ⟨d, off, none⟩ = some x)
    (hok : ∃ xs, w'.ownsRow 0 e k (.slice (some ⟨c, 0, none⟩) n' cap') n' xs) (hfree : ∀ off, n' * k ≤ off → m' c off = none)
    {sl' : List (Nat × SV)} {ob' : List Ob} (hsl : kSl i σ.sl = some sl') (hob : kOb i σ.ob = some ob') :
    RelG GL B ⟨σ.n, sl', ob'.set i (.row e k)⟩ ⟨m', g.gs.set i (.row (some c) cap' n')⟩ a w' ∧ Keep (fun j => j = i) σ.ob g w ⟨m', g.gs.set i (.row (some c) cap' n')⟩ w' := by
  have hlen := h.store.len
  have hi := (List.getElem?_eq_some_iff.1 ho).1
  have hob2 := kOb_get hob
  have hself : (g.gs.set i (.row (some c) cap' n'))[i]? = some (.row (some c) cap' n') := List.getElem?_set_self (by omega)
  have hgs : ∀ (j : Nat) q, j ≠ i → g.gs[j]? = some q → (g.gs.set i (.row (some c) cap' n'))[j]? = some q := fun j q hj hq => by rw [List.getElem?_set_ne (Ne.symm hj)]; exact hq
  have hat : ∀ (j d : Nat), g.gs[j]? = some (.loc d) → (g.gs.set i (.row (some c) cap' n'))[j]? = some (.loc d) := fun j d hd => hgs j _ (fun e => by subst e; rw [hpl] at hd; cases hd) hd
  have hkl : Gkl (fun j => Nat.beq j i) g ⟨m', g.gs.set i (.row (some c) cap' n')⟩ := ⟨hm, fun j q hq hj => hgs j q (fun e => by subst e; simp at hj) hq, hat⟩
  have hbr : ∀ d, b = some d ∧ o = .row e k → blkOf o (.row b cap n) = some d := fun d hd => by rw [hd.2, hd.1]; rfl
  have hne : ∀ (j : Nat) oj pj d, j ≠ i → σ.ob[j]? = some oj → g.gs[j]? = some pj → blkOf oj pj = some d → ¬ (b = some d ∧ o = .row e k) ∧ d ≠ c := fun j oj pj d hj h1 h2 h3 => by
    have h4 : ¬ (b = some d ∧ o = .row e k) := fun hd => hj (h.store.disj j i oj o pj _ d h1 ho h2 hpl h3 (hbr d hd))
    refine ⟨h4, fun e => ?_⟩
    subst e
    rcases hc with hc | hc
    · exact h4 hc
    · have := h.store.lt h1 h2 h3; omega
  refine ⟨⟨h.defers, h.size, fun t => ?_, ?_, ?_⟩, hm, fun j d oj hj h1 h2 h3 => ⟨hat j d h2, hf.block d (h.store.lt h1 h2 h3) (hne j oj _ d hj h1 h2 h3).1⟩⟩
  · show (slk t sl').Den _ _
    rw [kSl_slk hsl]
    exact SV.Den.kill hkl _ (h.slots t)
  · refine h.store.step (p := fun j => j = i) hm hat hgs (fun d off x hx => ?_) (by simp [hob2.1, hlen]) (fun j o1 hj h1 => ?_) (fun j q f dn cur h1 => ?_) (fun j q f dn cur hj h1 hk => ?_)
      (fun j o1 q d hj h1 h2 h3 => ⟨hf.block d (h.store.lt h1 h2 h3) (hne j o1 q d hj h1 h2 h3).1, fun off hn => ?_⟩) (fun j o1 hj h1 => ?_) (fun j o1 q d hj h1 h2 h3 => ?_) (fun i j oi oj pi pj b hi hj _ _ _ _ _ _ => hi.trans hj.symm)
    · by_cases hdc : d = c
      · subst hdc; exact hsat off x hx
      · cases hg : g.m d off with
        | none => exact absurd (hnew d off x hx hg) hdc
        | some y =>
          have e1 := hm d off y hg
          simp only at hx
          rw [e1] at hx; cases hx
          have hs := h.store.sat d off x hg
          refine ⟨?_, hs.2⟩
          by_cases hbd : b = some d ∧ o = .row e k
          · exact hold d off x hbd.1 hg
          · rw [World.cell?_of_block (w := w) (hf.block d (h.store.sat_lt hg) hbd)]; exact hs.1
    · rw [List.getElem?_set_ne (Ne.symm hj)] at h1
      obtain ⟨o2, h2, h3⟩ := hob2.2 j o1 h1
      exact ⟨o2, h2, ObLe.kO hkl h3⟩
    · by_cases hj : j = i
      · subst hj
        rw [List.getElem?_set_self (by rw [hob2.1]; exact hi)] at h1
        cases h1
      · rw [List.getElem?_set_ne (Ne.symm hj)] at h1
        obtain ⟨o2, h2, h3⟩ := hob2.2 j _ h1
        have h4 : o2 = .itI q f dn cur := by
          cases o2 <;> simp only [Ob.kO, Option.bind_eq_some_iff, Option.some.injEq] at h3
          case cells => obtain ⟨_, _, h3⟩ := h3; cases h3
          all_goals (cases h3; try rfl)
        subst h4
        have h5 := h.store.its j q f dn cur h2
        have hq : q ≠ i := fun e => by subst e; rw [ho] at h5; cases h5; rcases hor with hor | hor <;> cases hor
        rw [List.getElem?_set_ne (Ne.symm hq)]
        have h6 : q < ob'.length := by rw [hob2.1]; exact (List.getElem?_eq_some_iff.1 h5).1
        obtain ⟨o3, h7, h8⟩ := hob2.2 q ob'[q] (by simp [h6])
        rw [h5] at h7; cases h7
        simp [Ob.kO] at h8
        rw [List.getElem?_eq_getElem h6, ← h8]
    · rw [List.getElem?_set_ne (Ne.symm hj)] at h1
      obtain ⟨o2, h2, h3⟩ := hob2.2 j _ h1
      have h4 : o2 = .itI q f dn cur := by
        cases o2 <;> simp only [Ob.kO, Option.bind_eq_some_iff, Option.some.injEq] at h3
        case cells => obtain ⟨_, _, h3⟩ := h3; cases h3
        all_goals (cases h3; try rfl)
      have hk : q = i := hk
      subst h4 hk
      have h5 := h.store.its j _ f dn cur h2
      rw [ho] at h5; cases h5; rcases hor with hor | hor <;> cases hor
    · cases hx : m' d off with
      | none => exact hx
      | some x => exact absurd (hnew d off x hx hn) (hne j o1 q d hj h1 h2 h3).2
    · subst hj
      rw [List.getElem?_set_self (by rw [hob2.1]; exact hi)] at h1
      cases h1
      exact ⟨_, hself, hok, fun d hd off hoff => by cases hd; exact hfree off hoff⟩
    · subst hj
      rw [List.getElem?_set_self (by rw [hob2.1]; exact hi)] at h1
      cases h1
      simp only at h2
      rw [hself] at h2; cases h2
      simp only [blkOf, Option.some.injEq] at h3
      subst h3
      rcases hc with hc | hc
      · exact .inl ⟨_, o, _, rfl, ho, hpl, hbr _ hc⟩
      · exact .inr hc
  · have hX : ∀ d, b = some d ∧ o = .row e k → B.X d ∨ B.w.heap.size ≤ d := fun d hd => h.stp.own i o _ d ho hpl (hbr d hd)
    refine h.stp.step hf hX hm (fun d off x hx hn => by
        have := hnew d off x hx hn
        subst this; exact hc) (fun j o1 p d h1 h2 h3 => ?_) hat
    by_cases hj : j = i
    · subst hj
      rw [List.getElem?_set_self (by rw [hob2.1]; exact hi)] at h1
      cases h1
      simp only at h2
      rw [hself] at h2; cases h2
      simp only [blkOf, Option.some.injEq] at h3
      subst h3
      rcases hc with hc | hc
      · exact .inl (hX _ hc)
      · exact .inr hc
    · rw [List.getElem?_set_ne (Ne.symm hj)] at h1
      simp only at h2
      rw [List.getElem?_set_ne (Ne.symm hj)] at h2
      obtain ⟨o2, h4, h5⟩ := hob2.2 j o1 h1
      refine .inl (h.stp.own j o2 p d h4 h2 ?_)
      rcases (ObLe.kO hkl h5).blk h3 (fun _ _ => trivial) with h6 | ⟨e', k', rfl⟩
      · exact h6
      · simp [Ob.kO] at h5; subst h5; simp [blkOf] at h3
end
end Go.Vd
namespace Go.Vd
open Go Go.RowKit
inductive Out where
  | ret (s : SV)
  | pan (s : SV)
def noIt : List Ob → Bool
  | [] => true
  | .itI _ _ _ _ :: _ => false
  | .cells _ _ :: r => noIt r
  | .row _ _ :: r => noIt r
  | .nilrow _ _ :: r => noIt r
  | .buf _ _ _ _ :: r => noIt r
  | .mapI _ :: r => noIt r
  | .dead :: r => noIt r
theorem noIt_get : ∀ {ob : List Ob}, noIt ob = true → ∀ (j i : Nat) f dn cur, ob[j]? ≠ some (.itI i f dn cur)
  | [], _, j, i, f, dn, cur => by simp
  | o :: r, h, 0, i, f, dn, cur => by intro e; simp at e; subst e; cases h
  | o :: r, h, j + 1, i, f, dn, cur => by
    have : noIt r = true := by cases o <;> first | exact h | cases h
    simpa using noIt_get this j i f dn cur
def blocksOf (ob : List Ob) (g : Gh) (b : Nat) : Prop := ∃ (i : Nat) (o : Ob) (p : Pl), ob[i]? = some o ∧ g.gs[i]? = some p ∧ blkOf o p = some b
/-- what is promised of a call: of its end, and of what its objects then hold -/
def Tri (P : Program) (GL : Nat → List D) (f : FuncId) (ob : List Ob) (args : List SV) (Q : Out → List Ob → Prop) : Prop :=
  ∀ (g : Gh) (w : World) (vs : List Value), StoreOk GL ob g w → SDenL g args vs →
    Calls P f ⟨vs⟩ w fun e w' => ∃ g' ob', StoreOk GL ob' g' w' ∧ Stp ⟨g, w, blocksOf ob g, ob.length, []⟩ ob' g' w' ∧ ob.length ≤ ob'.length ∧ noIt ob' = true ∧
      (match e with
       | .returned v => ∃ s, s.Den g' v ∧ Q (.ret s) ob'
       | .panicked c => ∃ v s, c = [{ v := v, recovered := false }] ∧ s.Den g' v ∧ Q (.pan s) ob'
       | .outgrown => False)
theorem Tri.mono {P : Program} {GL : Nat → List D} {f : FuncId} {ob : List Ob} {args : List SV} {Q Q' : Out → List Ob → Prop} (h : Tri P GL f ob args Q) (hq : ∀ o b, Q o b → Q' o b) : Tri P GL f ob args Q' := fun g w vs hs hd =>
  (h g w vs hs hd).mono fun e w' ⟨g', ob', h1, h2, h3, h4, h5⟩ => ⟨g', ob', h1, h2, h3, h4, by
    cases e with
    | returned v => obtain ⟨s, h6, h7⟩ := h5; exact ⟨s, h6, hq _ _ h7⟩
    | panicked c => obtain ⟨v, s, h6, h7, h8⟩ := h5; exact ⟨v, s, h6, h7, hq _ _ h8⟩
    | outgrown => exact h5⟩
/-! names of objects: the callee's, and the caller's -/
mutual
def SV.ren (ρ : List Nat) : SV → Option SV
  | .d x => some (.d x)
  | .blk i off => (nthO i ρ).bind fun j => some (.blk j off)
  | .agg l => (renL ρ l).bind fun l' => some (.agg l')
  | .tup l => (renL ρ l).bind fun l' => some (.tup l')
  | .own i k ls => (nthO i ρ).bind fun j => some (.own j k ls)
  | .fn f a b => (renL ρ a).bind fun a' => (renL ρ b).bind fun b' => some (.fn f a' b')
  | .ifc T s => (s.ren ρ).bind fun s' => some (.ifc T s')
  | .map i => (nthO i ρ).bind fun j => some (.map j)
  | .rp i => (nthO i ρ).bind fun j => some (.rp j)
  | .arr i n => (nthO i ρ).bind fun j => some (.arr j n)
  | .bp i off => (nthO i ρ).bind fun j => some (.bp j off)
  | .ful k ls => some (.ful k ls)
  | .junk => some .junk
def renL (ρ : List Nat) : List SV → Option (List SV)
  | [] => some []
  | s :: r => (s.ren ρ).bind fun s' => (renL ρ r).bind fun r' => some (s' :: r')
end
/-- places under other names -/
def RenG (ρ : List Nat) (g g' : Gh) : Prop := Mle g.m g'.m ∧ ∀ (i j : Nat) p, ρ[i]? = some j → g.gs[i]? = some p → g'.gs[j]? = some p
mutual
theorem SV.ren_den {ρ : List Nat} {g g' : Gh} (h : RenG ρ g g') : ∀ (s : SV) {t : SV} {y : Value}, s.ren ρ = some t → s.Den g y → t.Den g' y
  | .d x, t, y, hr, hd => by simp [SV.ren] at hr; subst hr; exact D.Den.mono h.1 x hd
  | .blk i off, t, y, hr, ⟨b, hb, e⟩ => by
    simp only [SV.ren, Option.bind_eq_some_iff, Option.some.injEq] at hr
    obtain ⟨j, hj, rfl⟩ := hr
    exact ⟨b, h.2 i j _ (nthO_eq hj) hb, e⟩
  | .agg l, t, y, hr, ⟨vs, e, hd⟩ => by
    simp only [SV.ren, Option.bind_eq_some_iff, Option.some.injEq] at hr
    obtain ⟨l', hl, rfl⟩ := hr
    exact ⟨vs, e, renL_den h l hl hd⟩
  | .tup l, t, y, hr, ⟨vs, e, hd⟩ => by
    simp only [SV.ren, Option.bind_eq_some_iff, Option.some.injEq] at hr
    obtain ⟨l', hl, rfl⟩ := hr
    exact ⟨vs, e, renL_den h l hl hd⟩
  | .own i k ls, t, y, hr, ⟨b, cap, hb, e, hc, hd⟩ => by
    simp only [SV.ren, Option.bind_eq_some_iff, Option.some.injEq] at hr
    obtain ⟨j, hj, rfl⟩ := hr
    exact ⟨b, cap, h.2 i j _ (nthO_eq hj) hb, e, hc, fun hn => by obtain ⟨c, e2, h2⟩ := hd hn; exact ⟨c, e2, DenR.mono h.1 ls h2⟩⟩
  | .fn f a b, t, y, hr, ⟨vs, us, e, h1, h2⟩ => by
    simp only [SV.ren, Option.bind_eq_some_iff, Option.some.injEq] at hr
    obtain ⟨a', ha, b', hb, rfl⟩ := hr
    exact ⟨vs, us, e, renL_den h a ha h1, renL_den h b hb h2⟩
  | .ifc T s, t, y, hr, ⟨x, e, hd⟩ => by
    simp only [SV.ren, Option.bind_eq_some_iff, Option.some.injEq] at hr
    obtain ⟨s', hs, rfl⟩ := hr
    exact ⟨x, e, SV.ren_den h s hs hd⟩
  | .map i, t, y, hr, ⟨b, hb, e⟩ => by
    simp only [SV.ren, Option.bind_eq_some_iff, Option.some.injEq] at hr
    obtain ⟨j, hj, rfl⟩ := hr
    exact ⟨b, h.2 i j _ (nthO_eq hj) hb, e⟩
  | .arr i n, t, y, hr, ⟨b, cap, hb, e⟩ => by
    simp only [SV.ren, Option.bind_eq_some_iff, Option.some.injEq] at hr
    obtain ⟨j, hj, rfl⟩ := hr
    exact ⟨b, cap, h.2 i j _ (nthO_eq hj) hb, e⟩
  | .bp i off, t, y, hr, ⟨b, cap, n, hb, e⟩ => by
    simp only [SV.ren, Option.bind_eq_some_iff, Option.some.injEq] at hr
    obtain ⟨j, hj, rfl⟩ := hr
    exact ⟨b, cap, n, h.2 i j _ (nthO_eq hj) hb, e⟩
  | .rp i, t, y, hr, ⟨b, cap, n, hb, e⟩ => by
    simp only [SV.ren, Option.bind_eq_some_iff, Option.some.injEq] at hr
    obtain ⟨j, hj, rfl⟩ := hr
    exact ⟨b, cap, n, h.2 i j _ (nthO_eq hj) hb, e⟩
  | .ful k ls, t, y, hr, ⟨a, e, hd⟩ => by
    simp [SV.ren] at hr; subst hr
    exact ⟨a, e, fun hn => by obtain ⟨b, off, e2, h2⟩ := hd hn; exact ⟨b, off, e2, DenR.mono h.1 ls h2⟩⟩
  | .junk, t, y, hr, _ => by simp [SV.ren] at hr; subst hr; trivial
theorem renL_den {ρ : List Nat} {g g' : Gh} (h : RenG ρ g g') : ∀ (l : List SV) {l' : List SV} {vs : List Value}, renL ρ l = some l' → SDenL g l vs → SDenL g' l' vs
  | [], l', vs, hr, hd => by simp [renL] at hr; subst hr; exact hd
  | s :: r, l', vs, hr, ⟨x, v', e, h1, h2⟩ => by
    simp only [renL, Option.bind_eq_some_iff, Option.some.injEq] at hr
    obtain ⟨s', hs, r', hr', rfl⟩ := hr
    exact ⟨x, v', e, SV.ren_den h s hs h1, renL_den h r hr' h2⟩
end
/-- the same, back -/
def RenB (ρ : List Nat) (g g' : Gh) : Prop := Mle g'.m g.m ∧ ∀ (i j : Nat) p, ρ[i]? = some j → g'.gs[j]? = some p → g.gs[i]? = some p
mutual
theorem SV.ren_back {ρ : List Nat} {g g' : Gh} (h : RenB ρ g g') : ∀ (s : SV) {t : SV} {y : Value}, s.ren ρ = some t → t.Den g' y → s.Den g y
  | .d x, t, y, hr, hd => by simp [SV.ren] at hr; subst hr; exact D.Den.mono h.1 x hd
  | .blk i off, t, y, hr, hd => by
    simp only [SV.ren, Option.bind_eq_some_iff, Option.some.injEq] at hr
    obtain ⟨j, hj, rfl⟩ := hr
    obtain ⟨b, hb, e⟩ := hd
    exact ⟨b, h.2 i j _ (nthO_eq hj) hb, e⟩
  | .agg l, t, y, hr, hd => by
    simp only [SV.ren, Option.bind_eq_some_iff, Option.some.injEq] at hr
    obtain ⟨l', hl, rfl⟩ := hr
    obtain ⟨vs, e, hd⟩ := hd
    exact ⟨vs, e, renL_back h l hl hd⟩
  | .tup l, t, y, hr, hd => by
    simp only [SV.ren, Option.bind_eq_some_iff, Option.some.injEq] at hr
    obtain ⟨l', hl, rfl⟩ := hr
    obtain ⟨vs, e, hd⟩ := hd
    exact ⟨vs, e, renL_back h l hl hd⟩
  | .own i k ls, t, y, hr, hd => by
    simp only [SV.ren, Option.bind_eq_some_iff, Option.some.injEq] at hr
    obtain ⟨j, hj, rfl⟩ := hr
    obtain ⟨b, cap, hb, e, hc, hd⟩ := hd
    exact ⟨b, cap, h.2 i j _ (nthO_eq hj) hb, e, hc, fun hn => by obtain ⟨c, e2, h2⟩ := hd hn; exact ⟨c, e2, DenR.mono h.1 ls h2⟩⟩
  | .fn f a b, t, y, hr, hd => by
    simp only [SV.ren, Option.bind_eq_some_iff, Option.some.injEq] at hr
    obtain ⟨a', ha, b', hb, rfl⟩ := hr
    obtain ⟨vs, us, e, h1, h2⟩ := hd
    exact ⟨vs, us, e, renL_back h a ha h1, renL_back h b hb h2⟩
  | .ifc T s, t, y, hr, hd => by
    simp only [SV.ren, Option.bind_eq_some_iff, Option.some.injEq] at hr
    obtain ⟨s', hs, rfl⟩ := hr
    obtain ⟨x, e, hd⟩ := hd
    exact ⟨x, e, SV.ren_back h s hs hd⟩
  | .map i, t, y, hr, hd => by
    simp only [SV.ren, Option.bind_eq_some_iff, Option.some.injEq] at hr
    obtain ⟨j, hj, rfl⟩ := hr
    obtain ⟨b, hb, e⟩ := hd
    exact ⟨b, h.2 i j _ (nthO_eq hj) hb, e⟩
  | .arr i n, t, y, hr, hd => by
    simp only [SV.ren, Option.bind_eq_some_iff, Option.some.injEq] at hr
    obtain ⟨j, hj, rfl⟩ := hr
    obtain ⟨b, cap, hb, e⟩ := hd
    exact ⟨b, cap, h.2 i j _ (nthO_eq hj) hb, e⟩
  | .bp i off, t, y, hr, hd => by
    simp only [SV.ren, Option.bind_eq_some_iff, Option.some.injEq] at hr
    obtain ⟨j, hj, rfl⟩ := hr
    obtain ⟨b, cap, n, hb, e⟩ := hd
    exact ⟨b, cap, n, h.2 i j _ (nthO_eq hj) hb, e⟩
  | .rp i, t, y, hr, hd => by
    simp only [SV.ren, Option.bind_eq_some_iff, Option.some.injEq] at hr
    obtain ⟨j, hj, rfl⟩ := hr
    obtain ⟨b, cap, n, hb, e⟩ := hd
    exact ⟨b, cap, n, h.2 i j _ (nthO_eq hj) hb, e⟩
  | .ful k ls, t, y, hr, hd => by
    simp [SV.ren] at hr; subst hr
    obtain ⟨a, e, hd⟩ := hd
    exact ⟨a, e, fun hn => by obtain ⟨b, off, e2, h2⟩ := hd hn; exact ⟨b, off, e2, DenR.mono h.1 ls h2⟩⟩
  | .junk, t, y, hr, _ => trivial
theorem renL_back {ρ : List Nat} {g g' : Gh} (h : RenB ρ g g') : ∀ (l : List SV) {l' : List SV} {vs : List Value}, renL ρ l = some l' → SDenL g' l' vs → SDenL g l vs
  | [], l', vs, hr, hd => by simp [renL] at hr; subst hr; exact hd
  | s :: r, l', vs, hr, hd => by
    simp only [renL, Option.bind_eq_some_iff, Option.some.injEq] at hr
    obtain ⟨s', hs, r', hr', rfl⟩ := hr
    obtain ⟨x, v', e, h1, h2⟩ := hd
    exact ⟨x, v', e, SV.ren_back h s hs h1, renL_back h r hr' h2⟩
end
mutual
/-- data may be looked at as other data: nil as a slice that holds nothing -/
inductive DLe : D → D → Prop
  | refl (x : D) : DLe x x
  | nil {k : Nat} : DLe (.v (.slice none 0 0)) (.sl k [])
  | agg {l l' : List D} (h : DLeL l l') : DLe (.agg l) (.agg l')
  | tup {l l' : List D} (h : DLeL l l') : DLe (.tup l) (.tup l')
  | cp {l l' : List D} (h : DLeL l l') : DLe (.cp l) (.cp l')
  | sl {k : Nat} {l l' : List (List D)} (h : DLeLL l l') : DLe (.sl k l) (.sl k l')
inductive DLeL : List D → List D → Prop
  | nil : DLeL [] []
  | cons {x y : D} {l m : List D} (h : DLe x y) (r : DLeL l m) : DLeL (x :: l) (y :: m)
inductive DLeLL : List (List D) → List (List D) → Prop
  | nil : DLeLL [] []
  | cons {x y : List D} {l m : List (List D)} (h : DLeL x y) (r : DLeLL l m) : DLeLL (x :: l) (y :: m)
end
theorem DLeL.length : ∀ {l m : List D}, DLeL l m → m.length = l.length
  | _, _, .nil => rfl
  | _, _, .cons _ r => by simp [DLeL.length r]
theorem DLeLL.length : ∀ {l m : List (List D)}, DLeLL l m → m.length = l.length
  | _, _, .nil => rfl
  | _, _, .cons _ r => by simp [DLeLL.length r]
mutual
theorem DLe.den {m : Mem} : ∀ {x y : D}, DLe x y → ∀ {v : Value}, x.Den m v → y.Den m v
  | _, _, .refl _, _, hd => hd
  | _, _, .nil, _, hd => by simp only [D.Den] at hd; exact ⟨none, 0, by rw [hd]; rfl, by simp, fun h => absurd rfl h⟩
  | _, _, .agg h, _, ⟨vs, e, hd⟩ => ⟨vs, e, DLeL.den h hd⟩
  | _, _, .tup h, _, ⟨vs, e, hd⟩ => ⟨vs, e, DLeL.den h hd⟩
  | _, _, .cp h, _, ⟨b, off, e, hd⟩ => ⟨b, off, e, DLeL.denC h hd⟩
  | _, _, .sl h, _, ⟨a, cap, e, hc, hd⟩ => ⟨a, cap, by rw [h.length]; exact e, by rw [h.length]; exact hc, fun hn => by
      obtain ⟨b, off, e2, h2⟩ := hd (fun h0 => by subst h0; cases h; exact hn rfl)
      exact ⟨b, off, e2, DLeLL.denR h h2⟩⟩
theorem DLeL.den {m : Mem} : ∀ {x y : List D}, DLeL x y → ∀ {vs : List Value}, DenL m x vs → DenL m y vs
  | _, _, .nil, _, hd => hd
  | _, _, .cons h r, _, ⟨x, l', e, h1, h2⟩ => ⟨x, l', e, DLe.den h h1, DLeL.den r h2⟩
theorem DLeL.denC {m : Mem} : ∀ {x y : List D}, DLeL x y → ∀ {b off : Nat}, DenC m b off x → DenC m b off y
  | _, _, .nil, _, _, _ => trivial
  | _, _, .cons h r, _, _, ⟨⟨x, h1, h2⟩, h3⟩ => ⟨⟨x, h1, DLe.den h h2⟩, DLeL.denC r h3⟩
theorem DLeLL.denR {m : Mem} : ∀ {x y : List (List D)}, DLeLL x y → ∀ {k b off : Nat}, DenR m k b off x → DenR m k b off y
  | _, _, .nil, _, _, _, _ => trivial
  | _, _, .cons h r, _, _, _, ⟨⟨h0, h1⟩, h2⟩ => ⟨⟨by rw [h.length]; exact h0, DLeL.denC h h1⟩, DLeLL.denR r h2⟩
end
/-- a value may be looked at as another one: as data; nil as a row of one's own -/
inductive Fit (ob : List Ob) : SV → SV → Prop
  | refl (s : SV) : Fit ob s s
  | toD {s : SV} {x : D} (h : s.toD = some x) : Fit ob s (.d x)
  | nil {i k : Nat} {e : TypeId} (h : nthO i ob = some (.nilrow e k)) : Fit ob (.d (.v (.slice none 0 0))) (.own i k [])
  | nilA {i k : Nat} {e : TypeId} (h : nthO i ob = some (.nilrow e k)) : Fit ob (.d (.v (.slice none 0 0))) (.arr i 0)
  | nilD {k : Nat} : Fit ob (.d (.v (.slice none 0 0))) (.d (.sl k []))
  | junk (s : SV) : Fit ob s .junk
  | dle {s : SV} {x y : D} (h : s.toD = some x) (hl : DLe x y) : Fit ob s (.d y)
  | own {i k : Nat} {ls ls' : List (List D)} (h : DLeLL ls ls') : Fit ob (.own i k ls) (.own i k ls')
inductive FitL (ob : List Ob) : List SV → List SV → Prop
  | nil : FitL ob [] []
  | cons {s t : SV} {l m : List SV} (h : Fit ob s t) (r : FitL ob l m) : FitL ob (s :: l) (t :: m)
section
variable {GL : Nat → List D}
theorem Fit.den {ob : List Ob} {g : Gh} {w : World} (hs : StoreOk GL ob g w) {s t : SV} (h : Fit ob s t) {y : Value} (hd : s.Den g y) : t.Den g y := by
  cases h with
  | refl => exact hd
  | toD h => exact SV.Den.toD s hd h
  | junk => trivial
  | dle h hl => exact hl.den (SV.Den.toD s hd h)
  | own h =>
    obtain ⟨b, cap, e1, e2, e3, e4⟩ := hd
    exact ⟨b, cap, by rw [h.length]; exact e1, by rw [h.length]; exact e2, by rw [h.length]; exact e3, fun hn => by
      obtain ⟨c, e5, e6⟩ := e4 (fun h0 => by subst h0; cases h; exact hn rfl)
      exact ⟨c, e5, DLeLL.denR h e6⟩⟩
  | nil h =>
    have ho := nthO_eq h
    obtain ⟨p, hp⟩ := hs.place ho
    have hok := hs.obs _ _ _ ho hp
    simp only [ObOk] at hok; subst hok
    simp only [SV.Den, D.Den] at hd
    exact ⟨none, 0, hp, by rw [hd]; rfl, by simp, fun h => absurd rfl h⟩
  | nilA h =>
    have ho := nthO_eq h
    obtain ⟨p, hp⟩ := hs.place ho
    have hok := hs.obs _ _ _ ho hp
    simp only [ObOk] at hok; subst hok
    simp only [SV.Den, D.Den] at hd
    exact ⟨none, 0, hp, by rw [hd]; rfl⟩
  | nilD =>
    simp only [SV.Den, D.Den] at hd
    exact ⟨none, 0, by rw [hd]; rfl, by simp, fun h => absurd rfl h⟩
theorem FitL.den {ob : List Ob} {g : Gh} {w : World} (hs : StoreOk GL ob g w) : ∀ {l m : List SV}, FitL ob l m → ∀ {vs : List Value}, SDenL g l vs → SDenL g m vs
  | _, _, .nil, _, hd => hd
  | _, _, .cons h r, _, ⟨x, l', e, h1, h2⟩ => ⟨x, l', e, h.den hs h1, r.den hs h2⟩
/-- the callee's object is what the caller's is -/
inductive ObFit (ob : List Ob) (ρ : List Nat) : Ob → Ob → Prop
  | cells {lc l m : List SV} {ty : TypeId} (h : renL ρ lc = some m) (hf : FitL ob l m) : ObFit ob ρ (.cells lc ty) (.cells l ty)
  | row {e : TypeId} {k : Nat} : ObFit ob ρ (.row e k) (.row e k)
  | nrow {e : TypeId} {k : Nat} : ObFit ob ρ (.row e k) (.nilrow e k)
  | nnrow {e : TypeId} {k : Nat} : ObFit ob ρ (.nilrow e k) (.nilrow e k)
  | buf {e : TypeId} {k : Nat} {ls : List (List D)} {q : Option (Option Nat × Nat)} : ObFit ob ρ (.buf e k ls q) (.buf e k ls q)
  | bufn {e : TypeId} {k : Nat} {ls : List (List D)} {q : Option (Option Nat × Nat)} : ObFit ob ρ (.buf e k ls none) (.buf e k ls q)
  | nbuf {e : TypeId} {k : Nat} : ObFit ob ρ (.buf e k [] none) (.nilrow e k)
  | mapI {f : ByteArray → Option Int} : ObFit ob ρ (.mapI f) (.mapI f)
  | dead {o : Ob} : ObFit ob ρ .dead o
  | itI {k i : Nat} {f : ByteArray → Option Int} {dn : List (ByteArray × Int)} {cur cur' : Option (ByteArray × Int)} (hk : nthO k ρ = some i) (hc : cur = cur' ∨ cur = none) : ObFit ob ρ (.itI k f dn cur) (.itI i f dn cur')
/-- ρ names for each of obc's objects the one of ob that it is -/
inductive ObFits (ob : List Ob) (ρ : List Nat) : List Ob → List Nat → Prop
  | nil : ObFits ob ρ [] []
  | cons {oc o : Ob} {r : List Ob} {i : Nat} {is : List Nat} (hi : nthO i ob = some o) (h : ObFit ob ρ oc o) (hr : ObFits ob ρ r is) : ObFits ob ρ (oc :: r) (i :: is)
theorem ObFits.get {ob : List Ob} {ρ : List Nat} : ∀ {obc : List Ob} {is : List Nat}, ObFits ob ρ obc is → obc.length = is.length ∧ ∀ (k : Nat) oc, obc[k]? = some oc → ∃ i o, is[k]? = some i ∧ ob[i]? = some o ∧ ObFit ob ρ oc o
  | _, _, .nil => ⟨rfl, by simp⟩
  | _, _, .cons hi h hr => by
    have ih := hr.get
    refine ⟨by simp [ih.1], fun k oc hk => ?_⟩
    cases k with
    | zero => simp at hk; subst hk; exact ⟨_, _, rfl, nthO_eq hi, h⟩
    | succ k => simpa using ih.2 k oc (by simpa using hk)
theorem ObFit.blk {ob : List Ob} {ρ : List Nat} {oc o : Ob} {p : Pl} {b : Nat} (h : ObFit ob ρ oc o) (hb : blkOf oc p = some b) : blkOf o p = some b ∨ ∃ e k, o = .nilrow e k := by
  cases h <;> cases p <;> simp_all [blkOf]
/-- some of the objects, under other names -/
theorem StoreOk.sub {ob obc : List Ob} {ρ : List Nat} {g : Gh} {w : World} (h : StoreOk GL ob g w) (hf : ObFits ob ρ obc ρ) (hnd : ρ.Nodup) (hno : ∀ (j i : Nat) f dn cur, obc[j]? = some (.itI i f dn cur) → obc[i]? = some (.mapI f)) :
    StoreOk GL obc ⟨g.m, ρ.map fun i => g.gs.getD i (.loc 0)⟩ w ∧ RenB ρ ⟨g.m, ρ.map fun i => g.gs.getD i (.loc 0)⟩ g ∧ (∀ b, blocksOf obc ⟨g.m, ρ.map fun i => g.gs.getD i (.loc 0)⟩ b → ∃ (i k : Nat) (o : Ob) (p : Pl), ρ[k]? = some i ∧ ob[i]? = some o ∧ g.gs[i]? = some p ∧ blkOf o p = some b) := by
  have hget := hf.get
  have hpl : ∀ (k i : Nat) p, ρ[k]? = some i → g.gs[i]? = some p → (ρ.map fun i => g.gs.getD i (.loc 0))[k]? = some p := fun k i p h1 h2 => by
    rw [List.getElem?_map, h1]; simp [List.getD_eq_getElem?_getD, h2]
  have hrb : RenB ρ ⟨g.m, ρ.map fun i => g.gs.getD i (.loc 0)⟩ g := ⟨Mle.refl _, fun i j p h1 h2 => hpl i j p h1 h2⟩
  have hob : ∀ (k : Nat) oc p, obc[k]? = some oc → (ρ.map fun i => g.gs.getD i (.loc 0))[k]? = some p → ∃ i o, ρ[k]? = some i ∧ ob[i]? = some o ∧ g.gs[i]? = some p ∧ ObFit ob ρ oc o := fun k oc p h1 h2 => by
    obtain ⟨i, o, h3, h4, h5⟩ := hget.2 k oc h1
    obtain ⟨q, hq⟩ := h.place h4
    have := hpl k i q h3 hq
    rw [h2] at this; cases this
    exact ⟨i, o, h3, h4, hq, h5⟩
  have hblk : ∀ {oc o : Ob} {i : Nat} {p : Pl} {b : Nat}, ob[i]? = some o → g.gs[i]? = some p → ObFit ob ρ oc o → blkOf oc p = some b → blkOf o p = some b := fun {oc o i p b} h1 h2 h3 h4 => by
    rcases h3.blk h4 with h5 | ⟨e, k, rfl⟩
    · exact h5
    · have := h.obs _ _ _ h1 h2
      simp only [ObOk] at this; subst this
      cases oc <;> simp [blkOf] at h4
  refine ⟨⟨by simp [hget.1], fun k oc p h1 h2 => ?_, hno, fun i j oi oj pi pj b h1 h2 h3 h4 h5 h6 => ?_, h.sat, h.glob⟩, hrb, fun b hb => ?_⟩
  · obtain ⟨i, o, h3, h4, h5, h6⟩ := hob k oc p h1 h2
    have hok := h.obs i o p h4 h5
    cases h6 with
    | cells hr hfl =>
      cases p with
      | loc b =>
        obtain ⟨vs, e1, e2, e3⟩ := hok
        exact ⟨vs, e1, renL_back hrb _ hr (hfl.den h e2), e3⟩
      | row b c n => exact hok.elim
    | row => cases p with
      | loc b => exact hok.elim
      | row b c n => exact hok
    | nrow =>
      simp only [ObOk] at hok; subst hok
      exact ⟨⟨[], by simp, .inl ⟨rfl, rfl⟩⟩, fun c hc => by cases hc⟩
    | nnrow => exact hok
    | buf => cases p with
      | loc b => exact hok.elim
      | row b c n => exact hok
    | bufn => cases p with
      | loc b => exact hok.elim
      | row b c n => exact ⟨hok.1, hok.2.1, hok.2.2.1, hok.2.2.2.1, fun r e => by cases e⟩
    | nbuf =>
      simp only [ObOk] at hok; subst hok
      exact ⟨rfl, by simp, ⟨[], ⟨by simp, .inl ⟨rfl, rfl⟩⟩, rfl, by simp⟩, (fun c hc => by cases hc), fun r e => by cases e⟩
    | mapI => cases p with
      | loc b => exact hok
      | row b c n => exact hok.elim
    | dead => cases p <;> trivial
    | itI hk hc => cases p with
      | loc b =>
        obtain ⟨c, e1, e2, e3, e4⟩ := hok
        refine ⟨c, hrb.2 _ _ _ (nthO_eq hk) e1, e2, fun s n e => ?_, e4⟩
        rcases hc with rfl | rfl
        · exact e3 s n e
        · cases e
      | row b c n => exact hok.elim
  · obtain ⟨i1, o1, a1, a2, a3, a4⟩ := hob i oi pi h1 h3
    obtain ⟨i2, o2, b1, b2, b3, b4⟩ := hob j oj pj h2 h4
    have e := h.disj i1 i2 o1 o2 pi pj b a2 b2 a3 b3 (hblk a2 a3 a4 h5) (hblk b2 b3 b4 h6)
    subst e
    exact (List.getElem?_inj (List.getElem?_eq_some_iff.1 a1).1 hnd).1 (a1.trans b1.symm)
  · obtain ⟨k, oc, p, h1, h2, h3⟩ := hb
    obtain ⟨i, o, a1, a2, a3, a4⟩ := hob k oc p h1 h2
    exact ⟨i, k, o, p, a1, a2, a3, hblk a2 a3 a4 h3⟩
/-! what comes back -/
def appO {α : Type} : List α → List α → Option (List α)
  | [], m => some m
  | x :: l, m => (appO l m).bind fun r => some (x :: r)
theorem appO_eq {α : Type} : ∀ {l m r : List α}, appO l m = some r → r = l ++ m
  | [], m, r, h => by simp [appO] at h; simp [h]
  | x :: l, m, r, h => by
    simp only [appO, Option.bind_eq_some_iff, Option.some.injEq] at h
    obtain ⟨r', h1, rfl⟩ := h
    simp [appO_eq h1]
def set1 {α : Type} : Nat → α → List α → Option (List α)
  | _, _, [] => none
  | 0, y, _ :: l => some (y :: l)
  | n + 1, y, x :: l => (set1 n y l).bind fun r => some (x :: r)
theorem set1_eq {α : Type} : ∀ {n : Nat} {y : α} {l r : List α}, set1 n y l = some r → r = l.set n y ∧ n < l.length
  | 0, y, [], r, h => by cases h
  | n + 1, y, [], r, h => by cases h
  | 0, y, x :: l, r, h => by simp [set1] at h; subst h; simp
  | n + 1, y, x :: l, r, h => by
    simp only [set1, Option.bind_eq_some_iff, Option.some.injEq] at h
    obtain ⟨r', h1, rfl⟩ := h
    have := set1_eq h1
    simp [this.1, this.2]
def mergeO {α : Type} : List Nat → List α → List α → Option (List α)
  | [], l, rs => appO l rs
  | i :: ix, l, r :: rs => (set1 i r l).bind fun l' => mergeO ix l' rs
  | _ :: _, _, [] => none
/-- the names of what comes back: the given ones', then the next ones -/
def names (ix : List Nat) (n : Nat) : Nat → List Nat
  | 0 => ix
  | m + 1 => names (ix ++ [n]) (n + 1) m
theorem merge_get {α : Type} : ∀ {ix : List Nat} {l rs r : List α}, mergeO ix l rs = some r → ix.Nodup → ix.length ≤ rs.length ∧ (∀ i ∈ ix, i < l.length) ∧ r.length = l.length + (rs.length - ix.length) ∧
    (∀ (k i : Nat) x, ix[k]? = some i → rs[k]? = some x → r[i]? = some x) ∧ (∀ (i : Nat), i ∉ ix → i < l.length → r[i]? = l[i]?) ∧ (∀ k, ix.length ≤ k → r[l.length + (k - ix.length)]? = rs[k]?)
  | [], l, rs, r, h, _ => by
    have := appO_eq h
    subst this
    refine ⟨by simp, by simp, by simp, by simp, fun i _ hi => List.getElem?_append_left hi, fun k _ => ?_⟩
    rw [List.getElem?_append_right (by simp)]
    simp
  | i :: ix, l, [], r, h, _ => by cases h
  | i :: ix, l, y :: rs, r, h, hnd => by
    simp only [mergeO, Option.bind_eq_some_iff] at h
    obtain ⟨l', h1, h2⟩ := h
    obtain ⟨rfl, hil⟩ := set1_eq h1
    have hnd' := List.nodup_cons.1 hnd
    obtain ⟨a1, a2, a3, a4, a5, a6⟩ := merge_get h2 hnd'.2
    simp only [List.length_set] at a2 a3 a5 a6
    refine ⟨by simp; exact a1, ?_, by simp [a3], ?_, ?_, ?_⟩
    · intro j hj
      rcases List.mem_cons.1 hj with rfl | hj
      · exact hil
      · exact a2 j hj
    · intro k j x hk hx
      cases k with
      | zero =>
        simp at hk hx; subst hk hx
        rw [a5 i hnd'.1 hil]; simp [hil]
      | succ k => exact a4 k j x (by simpa using hk) (by simpa using hx)
    · intro j hj hl
      simp only [List.mem_cons, not_or] at hj
      rw [a5 j hj.2 hl, List.getElem?_set_ne (Ne.symm hj.1)]
    · intro k hk
      cases k with
      | zero => simp at hk
      | succ k =>
        have := a6 k (by simpa using hk)
        simp only [List.length_cons, Nat.add_sub_add_right]
        simpa using this
theorem names_len (ix : List Nat) (n : Nat) : ∀ m, (names ix n m).length = ix.length + m := by
  intro m
  induction m generalizing ix n with
  | zero => rfl
  | succ m ih => simp [names, ih]; omega
theorem names_get (ix : List Nat) (n : Nat) : ∀ m (k : Nat), k < ix.length + m → (names ix n m)[k]? = some (if h : k < ix.length then ix[k] else n + (k - ix.length)) := by
  intro m
  induction m generalizing ix n with
  | zero => intro k hk; simp at hk; simp [names, hk]
  | succ m ih =>
    intro k hk
    rw [names, ih (ix ++ [n]) (n + 1) k (by simp; omega)]
    simp only [List.length_append, List.length_singleton]
    by_cases h1 : k < ix.length
    · have : k < ix.length + 1 := by omega
      simp [h1, this]
    · by_cases h2 : k = ix.length
      · subst h2; simp
      · have : ¬ k < ix.length + 1 := by omega
        simp [h1, this]; omega
def Ob.ren (ρ : List Nat) : Ob → Option Ob
  | .cells l ty => (renL ρ l).bind fun l' => some (.cells l' ty)
  | .row e k => some (.row e k)
  | .nilrow e k => some (.nilrow e k)
  | .buf e k ls q => some (.buf e k ls q)
  | .mapI f => some (.mapI f)
  | .itI _ _ _ _ => none
  | .dead => some .dead
def renOb (ρ : List Nat) : List Ob → Option (List Ob)
  | [] => some []
  | o :: r => (o.ren ρ).bind fun o' => (renOb ρ r).bind fun r' => some (o' :: r')
theorem renOb_get {ρ : List Nat} : ∀ {l l' : List Ob}, renOb ρ l = some l' → l'.length = l.length ∧ ∀ (j : Nat) o', l'[j]? = some o' → ∃ o, l[j]? = some o ∧ o.ren ρ = some o'
  | [], l', h => by simp [renOb] at h; subst h; simp
  | o :: r, l', h => by
    simp only [renOb, Option.bind_eq_some_iff, Option.some.injEq] at h
    obtain ⟨a', h1, b', h2, rfl⟩ := h
    have ih := renOb_get h2
    refine ⟨by simp [ih.1], fun j o' hj => ?_⟩
    cases j with
    | zero => simp at hj; subst hj; exact ⟨o, rfl, h1⟩
    | succ j => simpa using ih.2 j o' (by simpa using hj)
theorem ObOk.ren {ρ : List Nat} {g g' : Gh} {w : World} {o o' : Ob} {p : Pl} (h : RenG ρ g g') (hm : g'.m = g.m) (hr : o.ren ρ = some o') (hok : ObOk g w o p) : ObOk g' w o' p ∧ (∀ b, blkOf o' p = some b → blkOf o p = some b) := by
  cases o <;> simp only [Ob.ren, Option.bind_eq_some_iff, Option.some.injEq, reduceCtorEq] at hr
  case cells l ty =>
    obtain ⟨l', h1, rfl⟩ := hr
    cases p with
    | loc b => obtain ⟨vs, e1, e2, e3⟩ := hok; exact ⟨⟨vs, e1, renL_den h _ h1 e2, by rw [hm]; exact e3⟩, fun _ h => h⟩
    | row b c n => exact hok.elim
  case row e k =>
    subst hr
    cases p with
    | loc b => exact hok.elim
    | row b c n => exact ⟨by simpa only [ObOk, hm] using hok, fun _ h => h⟩
  case nilrow e k => subst hr; exact ⟨hok, fun _ h => h⟩
  case buf e k ls q =>
    subst hr
    cases p with
    | loc b => exact hok.elim
    | row b c n => exact ⟨by simpa only [ObOk, hm] using hok, fun _ h => h⟩
  case mapI f =>
    subst hr
    cases p with
    | loc b => exact ⟨by simpa only [ObOk, hm] using hok, fun _ h => h⟩
    | row b c n => exact hok.elim
  case dead => subst hr; exact ⟨by cases p <;> trivial, fun _ h => h⟩
def kSlL : List Nat → List (Nat × SV) → Option (List (Nat × SV))
  | [], l => some l
  | i :: ix, l => (kSl i l).bind fun l' => kSlL ix l'
def kObL : List Nat → List Ob → Option (List Ob)
  | [], l => some l
  | i :: ix, l => (kOb i l).bind fun l' => kObL ix l'
end
end Go.Vd
namespace Go.Vd
open Go Go.RowKit
mutual
theorem kill_kill (p q : Nat → Bool) : ∀ s : SV, (s.kill p).kill q = s.kill fun j => p j || q j
  | .own j k ls => by
    simp only [SV.kill]
    cases hp : p j <;> simp [SV.kill]
  | .rp j => by
    simp only [SV.kill]
    cases hp : p j <;> simp [SV.kill]
  | .arr j n => by
    simp only [SV.kill]
    cases hp : p j <;> simp [SV.kill]
  | .bp j off => by
    simp only [SV.kill]
    cases hp : p j <;> simp [SV.kill]
  | .agg l => by simp only [SV.kill, killL_killL p q l]
  | .tup l => by simp only [SV.kill, killL_killL p q l]
  | .fn f a b => by simp only [SV.kill, killL_killL p q a, killL_killL p q b]
  | .ifc T s => by simp only [SV.kill, kill_kill p q s]
  | .d x => rfl
  | .blk j off => rfl
  | .map j => rfl
  | .ful k ls => rfl
  | .junk => rfl
theorem killL_killL (p q : Nat → Bool) : ∀ l : List SV, killL q (killL p l) = killL (fun j => p j || q j) l
  | [] => rfl
  | s :: r => by simp only [killL, kill_kill p q s, killL_killL p q r]
end
mutual
theorem kill_no : ∀ s : SV, s.kill (fun _ => false) = s
  | .own j k ls => rfl
  | .rp j => rfl
  | .arr j n => rfl
  | .bp j off => rfl
  | .agg l => by simp only [SV.kill, killL_no l]
  | .tup l => by simp only [SV.kill, killL_no l]
  | .fn f a b => by simp only [SV.kill, killL_no a, killL_no b]
  | .ifc T s => by simp only [SV.kill, kill_no s]
  | .d x => rfl
  | .blk j off => rfl
  | .map j => rfl
  | .ful k ls => rfl
  | .junk => rfl
theorem killL_no : ∀ l : List SV, killL (fun _ => false) l = l
  | [] => rfl
  | s :: r => by simp only [killL, kill_no s, killL_no r]
end
def inIx : List Nat → Nat → Bool
  | [], _ => false
  | i :: ix, j => Nat.beq j i || inIx ix j
theorem inIx_iff : ∀ {ix : List Nat} {j : Nat}, inIx ix j = true ↔ j ∈ ix
  | [], j => by simp [inIx]
  | i :: ix, j => by simp [inIx, inIx_iff (ix := ix)]
theorem kSlL_slk {t : Nat} : ∀ {ix : List Nat} {l l' : List (Nat × SV)}, kSlL ix l = some l' → slk t l' = (slk t l).kill (inIx ix)
  | [], l, l', h => by simp [kSlL] at h; subst h; exact (kill_no _).symm
  | i :: ix, l, l', h => by
    simp only [kSlL, Option.bind_eq_some_iff] at h
    obtain ⟨l1, h1, h2⟩ := h
    rw [kSlL_slk h2, kSl_slk h1, kill_kill]
    rfl
theorem kObL_get : ∀ {ix : List Nat} {l l' : List Ob}, kObL ix l = some l' → l'.length = l.length ∧ ∀ {g g' : Gh}, Gkl (inIx ix) g g' → ∀ (j : Nat) o', l'[j]? = some o' → ∃ o, l[j]? = some o ∧ ObLe g g' o o' ∧ (∀ i f dn cur, o' = .itI i f dn cur → o = .itI i f dn cur) ∧ (∀ f, o = .mapI f → o' = .mapI f)
  | [], l, l', h => by
    simp [kObL] at h; subst h
    exact ⟨rfl, fun {g g'} hg j o' ho => ⟨o', ho, ObLe.refl ⟨hg.m, fun i p hp => hg.gs i p hp rfl⟩ o', fun _ _ _ _ h => h, fun _ h => h⟩⟩
  | i :: ix, l, l', h => by
    simp only [kObL, Option.bind_eq_some_iff] at h
    obtain ⟨l1, h1, h2⟩ := h
    have ih := kObL_get h2
    have h3 := kOb_get h1
    refine ⟨by rw [ih.1, h3.1], fun {g g'} hg j o' ho => ?_⟩
    -- the places in between: those of g, but for row i
    obtain ⟨o1, a1, a2, a3, a4⟩ := (kObL_get h2).2 (g := g') (g' := g') ⟨Mle.refl _, fun _ _ h _ => h, fun _ _ h => h⟩ j o' ho
    obtain ⟨o, b1, b2⟩ := h3.2 j o1 a1
    have e1 : ∀ i f dn cur, o1 = .itI i f dn cur → o = .itI i f dn cur := by
      intro i' f dn cur e
      subst e
      cases o <;> simp only [Ob.kO, Option.bind_eq_some_iff, Option.some.injEq] at b2
      case cells => obtain ⟨_, _, b2⟩ := b2; cases b2
      all_goals first | (cases b2; rfl) | cases b2
    have e2 : ∀ f, o = .mapI f → o1 = .mapI f := by
      intro f e; subst e; simp [Ob.kO] at b2; exact b2.symm
    refine ⟨o, b1, ?_, fun _ _ _ _ h => e1 _ _ _ _ (a3 _ _ _ _ h), fun f h => a4 f (e2 f h)⟩
    cases o with
    | cells l0 ty =>
      simp only [Ob.kO, Option.bind_eq_some_iff, Option.some.injEq] at b2
      obtain ⟨l2, c1, rfl⟩ := b2
      cases o' <;> simp only [ObLe] at a2 ⊢
      case cells l3 ty3 =>
        obtain ⟨rfl, a2⟩ := a2
        refine ⟨rfl, fun vs hd => ?_⟩
        -- kill by i, then by ix, in one
        have hl3 : l3 = killL (inIx ix) l2 := by
          have key : ∀ {ix : List Nat} {l l' : List Ob}, kObL ix l = some l' → ∀ (j : Nat) a ty b ty', l[j]? = some (.cells a ty) → l'[j]? = some (.cells b ty') → b = killL (inIx ix) a := by
            intro ix
            induction ix with
            | nil => intro l l' h j a ty b ty' h1 h2; simp [kObL] at h; subst h; rw [h1] at h2; cases h2; exact (killL_no _).symm
            | cons i ix ih =>
              intro l l' h j a ty b ty' h1 h2
              simp only [kObL, Option.bind_eq_some_iff] at h
              obtain ⟨l1, h3, h4⟩ := h
              have h5 := kOb_get h3
              have hlt : j < l1.length := by rw [h5.1]; exact (List.getElem?_eq_some_iff.1 h1).1
              obtain ⟨o2, h6, h7⟩ := h5.2 j l1[j] (by simp [hlt])
              rw [h1] at h6; cases h6
              simp only [Ob.kO, Option.bind_eq_some_iff, Option.some.injEq] at h7
              obtain ⟨a', h8, h9⟩ := h7
              have := ih h4 j a' ty b ty' (by rw [List.getElem?_eq_getElem hlt, ← h9]) h2
              rw [this, kOL_eq h8, killL_killL]
              rfl
          exact key h2 j l2 _ l3 _ a1 ho
        rw [hl3, kOL_eq c1, killL_killL]
        exact SDenL.kill hg _ hd
    | row e k => simp [Ob.kO] at b2; subst b2; cases o' <;> exact a2
    | nilrow e k => simp [Ob.kO] at b2; subst b2; cases o' <;> exact a2
    | buf e k ls q =>
      simp [Ob.kO] at b2; subst b2
      cases o' <;> first | exact a2 | skip
      exact ⟨a2.1, a2.2.1, a2.2.2.1, a2.2.2.2.1, fun vs hd => DenL.mono hg.m _ hd⟩
    | mapI f => simp [Ob.kO] at b2; subst b2; cases o' <;> exact a2
    | itI i f dn cur => simp [Ob.kO] at b2; subst b2; cases o' <;> exact a2
    | dead => simp [Ob.kO] at b2; subst b2; cases o' <;> exact a2
theorem merge_ex {α : Type} : ∀ {ix : List Nat} {l rs : List α}, (∀ i ∈ ix, i < l.length) → ix.length ≤ rs.length → ∃ r, mergeO ix l rs = some r
  | [], l, rs, _, _ => by
    have : ∀ l : List α, ∃ r, appO l rs = some r := by
      intro l
      induction l with
      | nil => exact ⟨rs, rfl⟩
      | cons x l ih => obtain ⟨r, h⟩ := ih; exact ⟨x :: r, by simp [appO, h]⟩
    exact this l
  | i :: ix, l, [], _, h => by simp at h
  | i :: ix, l, y :: rs, h1, h2 => by
    have h3 := h1 i List.mem_cons_self
    have : ∀ (n : Nat) (l : List α), n < l.length → set1 n y l = some (l.set n y) := by
      intro n
      induction n with
      | zero => intro l hl; cases l with | nil => simp at hl | cons x l => rfl
      | succ n ih => intro l hl; cases l with | nil => simp at hl | cons x l => simp [set1, ih l (by simpa using hl)]
    obtain ⟨r, hr⟩ := merge_ex (ix := ix) (l := l.set i y) (rs := rs) (fun j hj => by simpa using h1 j (List.mem_cons_of_mem _ hj)) (by simpa using h2)
    exact ⟨r, by simp only [mergeO, this i l h3, Option.bind_some, hr]⟩
section
variable {P : Program} {GL : Nat → List D} {B : Bs} {σ : St} {g : Gh} {a : Act} {w : World}
theorem RelG.after (h : RelG GL B σ g a w) {obc ob' : List Ob} {ix : List Nat} (hfit : ObFits σ.ob ix obc ix) (hnd : ix.Nodup) (hno : noIt obc = true) (hit : ∀ i ∈ ix, ∀ (j : Nat) f dn cur, σ.ob[j]? ≠ some (.itI i f dn cur))
    {g' : Gh} {w' : World} (hs : StoreOk GL ob' g' w') (hst : Stp ⟨⟨g.m, ix.map fun i => g.gs.getD i (.loc 0)⟩, w, blocksOf obc ⟨g.m, ix.map fun i => g.gs.getD i (.loc 0)⟩, obc.length, []⟩ ob' g' w') (hle : obc.length ≤ ob'.length) (hno' : noIt ob' = true)
    {obr ob1 obn : List Ob} {sl1 : List (Nat × SV)} (h1 : renOb (names ix σ.ob.length (ob'.length - ix.length)) ob' = some obr) (h2 : kObL ix σ.ob = some ob1) (h3 : mergeO ix ob1 obr = some obn) (h4 : kSlL ix σ.sl = some sl1) :
    ∃ gn, RelG GL B ⟨σ.n, sl1, obn⟩ gn a w' ∧ Keep (· ∈ ix) σ.ob g w gn w' ∧ ∀ (s s' : SV) (v : Value), s.ren (names ix σ.ob.length (ob'.length - ix.length)) = some s' → s.Den g' v → s'.Den gn v := by
  have hlen := h.store.len
  have hsub := h.store.sub hfit hnd (fun j i f dn cur hj => absurd hj (noIt_get hno j i f dn cur))
  have hfg := hfit.get
  have hixlt : ∀ i ∈ ix, i < σ.ob.length := fun i hi => by
    obtain ⟨k, hk, e⟩ := List.mem_iff_getElem.1 hi
    obtain ⟨i', o, a1, a2, _⟩ := hfg.2 k (obc[k]'(by rw [hfg.1]; exact hk)) (by simp [hfg.1, hk])
    rw [List.getElem?_eq_getElem hk, e] at a1; cases a1
    exact (List.getElem?_eq_some_iff.1 a2).1
  have hle' : ix.length ≤ g'.gs.length := by rw [← hs.len, ← hfg.1]; exact hle
  obtain ⟨gsn, hgsn⟩ := merge_ex (ix := ix) (l := g.gs) (rs := g'.gs) (fun i hi => by rw [← hlen]; exact hixlt i hi) hle'
  obtain ⟨m1, m2, m3, m4, m5, m6⟩ := merge_get hgsn hnd
  have hren := renOb_get h1
  have hk1 := kObL_get h2
  obtain ⟨q1, q2, q3, q4, q5, q6⟩ := merge_get h3 hnd
  rw [hk1.1] at q2 q3 q5 q6
  have hobrl : obr.length = ob'.length := hren.1
  have hnn : obn.length = gsn.length := by rw [q3, m3, hobrl, hlen, hs.len]
  -- places of the callee, in the caller's names
  have hRG : RenG (names ix σ.ob.length (ob'.length - ix.length)) g' ⟨g'.m, gsn⟩ := by
    refine ⟨Mle.refl _, fun k j p hk hp => ?_⟩
    have hkl : k < ix.length + (ob'.length - ix.length) := by
      have := (List.getElem?_eq_some_iff.1 hk).1; rwa [names_len] at this
    rw [names_get _ _ _ _ hkl] at hk
    by_cases hki : k < ix.length
    · rw [dif_pos hki] at hk; cases hk
      exact m4 k _ p (by simp [hki]) hp
    · rw [dif_neg hki] at hk; cases hk
      have := m6 k (by omega)
      show gsn[_]? = _
      rw [hlen, this]; exact hp
  have hplc : ∀ (k i : Nat) p, ix[k]? = some i → g.gs[i]? = some p → (ix.map fun i => g.gs.getD i (.loc 0))[k]? = some p := fun k i p e1 e2 => by
    rw [List.getElem?_map, e1]; simp [List.getD_eq_getElem?_getD, e2]
  have hat : ∀ (i b : Nat), g.gs[i]? = some (.loc b) → gsn[i]? = some (.loc b) := fun i b hb => by
    by_cases hi : i ∈ ix
    · obtain ⟨k, hk, e⟩ := List.mem_iff_getElem.1 hi
      have hk2 : ix[k]? = some i := by rw [List.getElem?_eq_getElem hk, e]
      exact m4 k i _ hk2 (hst.at' k b (by show k < obc.length; rw [hfg.1]; exact hk) (hplc k i _ hk2 hb))
    · rw [m5 i hi (List.getElem?_eq_some_iff.1 hb).1]; exact hb
  have hkl : Gkl (inIx ix) g ⟨g'.m, gsn⟩ := ⟨hst.mem, fun i q hq hi => by
      have hi' : i ∉ ix := fun hm => by rw [inIx_iff.2 hm] at hi; cases hi
      show gsn[i]? = _
      rw [m5 i hi' (List.getElem?_eq_some_iff.1 hq).1]; exact hq, hat⟩
  have hX : ∀ b, blocksOf obc ⟨g.m, ix.map fun i => g.gs.getD i (.loc 0)⟩ b → ∃ (i : Nat) (o : Ob) (p : Pl), i ∈ ix ∧ σ.ob[i]? = some o ∧ g.gs[i]? = some p ∧ blkOf o p = some b := fun b hb => by
    obtain ⟨i, k, o, p, e1, e2, e3, e4⟩ := hsub.2.2 b hb
    exact ⟨i, o, p, List.mem_of_getElem? e1, e2, e3, e4⟩
  have hneX : ∀ (j : Nat) oj pj b, j ∉ ix → σ.ob[j]? = some oj → g.gs[j]? = some pj → blkOf oj pj = some b → ¬ blocksOf obc ⟨g.m, ix.map fun i => g.gs.getD i (.loc 0)⟩ b := fun j oj pj b hj e1 e2 e3 hb => by
    obtain ⟨i, o, p, f1, f2, f3, f4⟩ := hX b hb
    have := h.store.disj i j o oj p pj b f2 e1 f3 e2 f4 e3
    subst this; exact hj f1
  -- what stands at a place that the callee knows
  have htou : ∀ (j : Nat) o', (j ∈ ix ∨ σ.ob.length ≤ j) → obn[j]? = some o' → ∃ (k : Nat) (oc : Ob), (names ix σ.ob.length (ob'.length - ix.length))[k]? = some j ∧ ob'[k]? = some oc ∧ oc.ren (names ix σ.ob.length (ob'.length - ix.length)) = some o' := fun j o' hj ho => by
    rcases hj with hj | hj
    · obtain ⟨k, hk, e⟩ := List.mem_iff_getElem.1 hj
      have hk2 : ix[k]? = some j := by rw [List.getElem?_eq_getElem hk, e]
      have hkr : k < obr.length := by omega
      have := q4 k j obr[k] hk2 (by simp [hkr])
      rw [ho] at this; cases this
      obtain ⟨oc, e1, e2⟩ := hren.2 k obr[k] (by simp [hkr])
      exact ⟨k, oc, by rw [names_get _ _ _ _ (by omega), dif_pos hk, e], e1, e2⟩
    · have hjl := (List.getElem?_eq_some_iff.1 ho).1
      rw [q3] at hjl
      have := q6 (ix.length + (j - σ.ob.length)) (by omega)
      rw [show σ.ob.length + (ix.length + (j - σ.ob.length) - ix.length) = j by omega, ho] at this
      obtain ⟨oc, e1, e2⟩ := hren.2 _ o' this.symm
      refine ⟨ix.length + (j - σ.ob.length), oc, ?_, e1, e2⟩
      rw [names_get _ _ _ _ (by omega), dif_neg (by omega)]
      congr 1; omega
  have hninj : ∀ (k k' j : Nat), (names ix σ.ob.length (ob'.length - ix.length))[k]? = some j → (names ix σ.ob.length (ob'.length - ix.length))[k']? = some j → k = k' := fun k k' j e1 e2 => by
    have l1 := (List.getElem?_eq_some_iff.1 e1).1
    have l2 := (List.getElem?_eq_some_iff.1 e2).1
    rw [names_len] at l1 l2
    rw [names_get _ _ _ _ l1] at e1
    rw [names_get _ _ _ _ l2] at e2
    by_cases c1 : k < ix.length <;> by_cases c2 : k' < ix.length
    · rw [dif_pos c1] at e1; rw [dif_pos c2] at e2
      simp only [Option.some.injEq] at e1 e2
      exact (List.getElem?_inj c1 hnd).1 (by rw [List.getElem?_eq_getElem c1, List.getElem?_eq_getElem c2, e1, e2])
    · rw [dif_pos c1] at e1; rw [dif_neg c2] at e2
      simp only [Option.some.injEq] at e1 e2
      have := hixlt _ (List.getElem_mem c1); omega
    · rw [dif_neg c1] at e1; rw [dif_pos c2] at e2
      simp only [Option.some.injEq] at e1 e2
      have := hixlt _ (List.getElem_mem c2); omega
    · rw [dif_neg c1] at e1; rw [dif_neg c2] at e2
      simp only [Option.some.injEq] at e1 e2
      omega
  have hpl2 : ∀ (k j : Nat) p, (names ix σ.ob.length (ob'.length - ix.length))[k]? = some j → gsn[j]? = some p → k < g'.gs.length → g'.gs[k]? = some p := fun k j p e1 e2 e3 => by
    have := hRG.2 k j g'.gs[k] e1 (by simp [e3])
    have e4 : gsn[j]? = some g'.gs[k] := this
    rw [e2] at e4; cases e4
    simp [e3]
  refine ⟨⟨g'.m, gsn⟩, ⟨h.defers, h.size, fun t => ?_, ?_, ?_⟩, ⟨hst.mem, fun i b o hi e1 e2 e3 => ⟨hat i b e2, hst.fr.block b (h.store.lt e1 e2 e3) (hneX i o _ b hi e1 e2 e3)⟩⟩, fun s s' v e1 e2 => SV.ren_den hRG s e1 e2⟩
  · show (slk t sl1).Den _ _
    rw [kSlL_slk h4]
    exact SV.Den.kill hkl _ (h.slots t)
  · refine h.store.step (p := fun j => j ∈ ix ∨ σ.ob.length ≤ j) hst.mem hat (fun i q hi hq => hkl.gs i q hq (by cases hb : inIx ix i with | false => rfl | true => exact absurd (.inl (inIx_iff.1 hb)) hi)) hs.sat hnn (fun j o1 hj ho => ?_) (fun j i f dn cur ho => ?_) (fun j i f dn cur hj ho => ?_)
      (fun j o1 q b hj ho hq hb => ?_) (fun j o1 hj ho => ?_) (fun j o1 q b hj ho hq hb => ?_) (fun i j oi oj pi pj b hi hj e1 e2 e3 e4 e5 e6 => ?_)
    · simp only [not_or, Nat.not_le] at hj
      rw [q5 j hj.1 hj.2] at ho
      obtain ⟨o, e1, e2, _⟩ := hk1.2 hkl j o1 ho
      exact ⟨o, e1, e2⟩
    · by_cases hj : j ∈ ix ∨ σ.ob.length ≤ j
      · obtain ⟨k, oc, e1, e2, e3⟩ := htou j _ hj ho
        cases oc <;> simp only [Ob.ren, Option.bind_eq_some_iff, Option.some.injEq, reduceCtorEq] at e3
        case cells => obtain ⟨_, _, e3⟩ := e3; cases e3
      · simp only [not_or, Nat.not_le] at hj
        rw [q5 j hj.1 hj.2] at ho
        obtain ⟨o, e1, _, e3, _⟩ := hk1.2 hkl j _ ho
        have e4 := e3 i f dn cur rfl
        subst e4
        have e5 := h.store.its j i f dn cur e1
        have hi : i ∉ ix := fun hm => hit i hm j f dn cur e1
        have hil := (List.getElem?_eq_some_iff.1 e5).1
        rw [q5 i hi hil]
        obtain ⟨o2, f1, f2, f3, f4⟩ := hk1.2 hkl i ob1[i] (by simp [hk1.1, hil])
        rw [e5] at f1; cases f1
        have := f4 f rfl
        rw [List.getElem?_eq_getElem (by rw [hk1.1]; exact hil), this]
    · simp only [not_or, Nat.not_le] at hj
      rw [q5 j hj.1 hj.2] at ho
      obtain ⟨o, e1, _, e3, _⟩ := hk1.2 hkl j _ ho
      have e4 := e3 i f dn cur rfl
      subst e4
      have e5 := h.store.its j i f dn cur e1
      have hil := (List.getElem?_eq_some_iff.1 e5).1
      simp only [not_or, Nat.not_le]
      exact ⟨fun hm => hit i hm j f dn cur e1, hil⟩
    · simp only [not_or, Nat.not_le] at hj
      have hlt := h.store.lt ho hq hb
      have hnx := hneX j o1 q b hj.1 ho hq hb
      refine ⟨hst.fr.block b hlt hnx, fun off hn => ?_⟩
      show g'.m b off = none
      cases hx : g'.m b off with
      | none => rfl
      | some x =>
        rcases hst.new b off x hx hn with h5 | h5
        · exact absurd h5 hnx
        · have h6 : w.heap.size ≤ b := h5
          omega
    · obtain ⟨k, oc, e1, e2, e3⟩ := htou j o1 hj ho
      obtain ⟨p, hp⟩ := hs.place e2
      have := hs.obs k oc p e2 hp
      exact ⟨p, hRG.2 k j p e1 hp, (ObOk.ren hRG rfl e3 this).1⟩
    · obtain ⟨k, oc, e1, e2, e3⟩ := htou j o1 hj ho
      obtain ⟨p, hp⟩ := hs.place e2
      have h5 : gsn[j]? = some p := hRG.2 k j p e1 hp
      have h5' : gsn[j]? = some q := hq
      rw [h5] at h5'; cases h5'
      have h6 := (ObOk.ren hRG rfl e3 (hs.obs k oc _ e2 hp)).2 b hb
      rcases hst.own k oc _ b e2 hp h6 with h7 | h7
      · obtain ⟨i, o, p', f1, f2, f3, f4⟩ := hX b h7
        exact .inl ⟨i, o, p', .inl f1, f2, f3, f4⟩
      · exact .inr h7
    · obtain ⟨k, oc, a1, a2, a3⟩ := htou i oi hi e1
      obtain ⟨k', oc', b1, b2, b3⟩ := htou j oj hj e2
      obtain ⟨p, hp⟩ := hs.place a2
      obtain ⟨p', hp'⟩ := hs.place b2
      have c1 : gsn[i]? = some p := hRG.2 k i p a1 hp
      have c1' : gsn[i]? = some pi := e3
      rw [c1] at c1'; cases c1'
      have c2 : gsn[j]? = some p' := hRG.2 k' j p' b1 hp'
      have c2' : gsn[j]? = some pj := e4
      rw [c2] at c2'; cases c2'
      have d1 := (ObOk.ren hRG rfl a3 (hs.obs k oc _ a2 hp)).2 b e5
      have d2 := (ObOk.ren hRG rfl b3 (hs.obs k' oc' _ b2 hp')).2 b e6
      have := hs.disj k k' oc oc' _ _ b a2 b2 hp hp' d1 d2
      subst this
      rw [a1] at b1; cases b1; rfl
  · refine h.stp.step hst.fr (fun b hb => ?_) hst.mem (fun b o x hx hn => hst.new b o x hx hn) (fun j o p b e1 e2 e3 => ?_) hat
    · obtain ⟨i, o, p, _, f2, f3, f4⟩ := hX b hb
      exact h.stp.own i o p b f2 f3 f4
    · by_cases hj : j ∈ ix ∨ σ.ob.length ≤ j
      · obtain ⟨k, oc, a1, a2, a3⟩ := htou j o hj e1
        obtain ⟨p', hp⟩ := hs.place a2
        have c1 : gsn[j]? = some p' := hRG.2 k j p' a1 hp
        have c1' : gsn[j]? = some p := e2
        rw [c1] at c1'; cases c1'
        have d1 := (ObOk.ren hRG rfl a3 (hs.obs k oc _ a2 hp)).2 b e3
        rcases hst.own k oc _ b a2 hp d1 with h7 | h7
        · obtain ⟨i, o, p', f1, f2, f3, f4⟩ := hX b h7
          exact .inl (h.stp.own i o p' b f2 f3 f4)
        · exact .inr h7
      · simp only [not_or, Nat.not_le] at hj
        rw [q5 j hj.1 hj.2] at e1
        have e2' : gsn[j]? = some p := e2
        rw [m5 j hj.1 (by omega)] at e2'
        obtain ⟨o2, f1, f2, _⟩ := hk1.2 hkl j o e1
        refine .inl (h.stp.own j o2 p b f1 e2' ?_)
        rcases f2.blk e3 (fun _ _ => trivial) with f3 | ⟨e', k', rfl⟩
        · exact f3
        · have := h.store.obs _ _ _ f1 e2'
          simp only [ObOk] at this; subst this
          cases o <;> simp [blkOf] at e3
end
end Go.Vd
namespace Go.Vd
open Go Go.RowKit
inductive Ex where
  | normal
  | exit (id : Nat)
  | goto (l : Nat)
  | ret
/-- what is wanted of a panic: what is thrown, the slots, the objects; and what will do instead, at a function's very end -/
structure PnS where
  pn : SV → List (Nat × SV) → List Ob → Prop
  esc : Bs → Exit → Act → World → Prop
/-- is slot k one that an operation of the region writes? -/
def dstIn (k : Nat) : List Oper → Bool
  | [] => false
  | o :: r => (match o.dst with | some t => Nat.beq t k | none => false) || dstIn k r
def dropD (l : List Oper) : List (Nat × SV) → List (Nat × SV)
  | [] => []
  | (k, s) :: r => cond (dstIn k l) (dropD l r) ((k, s) :: dropD l r)
theorem dropD_slk {l : List Oper} {t : Nat} : ∀ {sl : List (Nat × SV)}, slk t (dropD l sl) = if dstIn t l = true then .junk else slk t sl
  | [] => by simp [dropD, slk]
  | (k, s) :: r => by
    have ih := dropD_slk (l := l) (t := t) (sl := r)
    unfold dropD
    rw [slk_cons]
    cases hk : dstIn k l with
    | true =>
      rw [cond_true, ih]
      by_cases hkt : k = t
      · subst hkt; rw [hk]; simp
      · rw [if_neg hkt]
    | false =>
      rw [cond_false, slk_cons, ih]
      by_cases hkt : k = t
      · subst hkt; rw [hk]; simp
      · rw [if_neg hkt, if_neg hkt]
theorem dropD_idem {l : List Oper} : ∀ {sl : List (Nat × SV)}, dropD l (dropD l sl) = dropD l sl
  | [] => rfl
  | (k, s) :: r => by
    have ih := dropD_idem (l := l) (sl := r)
    cases hk : dstIn k l with
    | true =>
      have e : dropD l ((k, s) :: r) = dropD l r := by rw [dropD, hk, cond_true]
      rw [e, ih]
    | false =>
      have e : dropD l ((k, s) :: r) = (k, s) :: dropD l r := by rw [dropD, hk, cond_false]
      rw [e, dropD, hk, cond_false, ih]
/-- the same where of the slots that the region writes none is known -/
abbrev PnS.dr (l : List Oper) (Pn : PnS) : PnS := ⟨fun s sl ob => Pn.pn s (dropD l sl) ob, fun _ _ _ _ => False⟩
def PanOk (GL : Nat → List D) (B : Bs) (Pn : PnS) (c : List PanicEntry) (a : Act) (w : World) : Prop :=
  ∃ g sl ob v s, c = [{ v := v, recovered := false }] ∧ StoreOk GL ob g w ∧ Stp B ob g w ∧ s.Den g v ∧ (∀ t, (slk t sl).Den g (a.tmps.getD t undef)) ∧ Pn.pn s sl ob
def liftQ (GL : Nat → List D) (B : Bs) (Pn : PnS) (Q : Ex → St → Prop) : Exit → Act → World → Prop
  | .normal, a, w => ∃ σ, Rel GL B σ a w ∧ Q .normal σ
  | .exit id, a, w => ∃ σ, Rel GL B σ a w ∧ Q (.exit id) σ
  | .goto l, a, w => ∃ σ, Rel GL B σ a w ∧ Q (.goto l) σ
  | .ret, a, w => Pn.esc B .ret a w ∨ ∃ σ, Rel GL B σ a w ∧ Q .ret σ
  | .panic c, a, w => Pn.esc B (.panic c) a w ∨ (a.defers = B.df ∧ PanOk GL B Pn c a w)
  | .outgrown, _, _ => False
/-- code c, begun in any state that σ describes, ends as Q (or Pn) says -/
def Runs (P : Program) (GL : Nat → List D) (n0 : Nat) (Pn : PnS) (c : Code) (Q : Ex → St → Prop) (σ : St) : Prop :=
  ∀ B : Bs, B.n0 = n0 → ∀ a w, Rel GL B σ a w → c.wp P (liftQ GL B Pn Q) a w
def Ex.seq (K : St → Prop) (Q : Ex → St → Prop) : Ex → St → Prop
  | .normal, σ => K σ
  | e, σ => Q e σ
def Ex.inBlock (id : Nat) (Q : Ex → St → Prop) : Ex → St → Prop
  | .exit j, σ => if j = id then Q .normal σ else Q (.exit j) σ
  | e, σ => Q e σ
/-- one operation -/
def OpR (P : Program) (GL : Nat → List D) (n0 : Nat) (Pn : PnS) (T : Nat → Prop) (o : Oper) (σ : St) (K : St → Prop) : Prop :=
  ∀ B : Bs, B.n0 = n0 → ∀ g a w, RelG GL B σ g a w → ∀ (next : Act → World → Prop) (Q : Exit → Act → World → Prop),
    (∀ σ' g' a' w', RelG GL B σ' g' a' w' → Keep T σ.ob g w g' w' → K σ' → next a' w') → (∀ c w', PanOk GL B Pn c a w' → Q (.panic c) a w') → o.wp P a w next Q
def OpsR (P : Program) (GL : Nat → List D) (n0 : Nat) (Pn : PnS) (ops l : List Oper) (Q : Ex → St → Prop) (σ : St) : Prop :=
  ∀ B : Bs, B.n0 = n0 → ∀ a w, Rel GL B σ a w → wpList P ops.toArray (liftQ GL B Pn Q) l a w
section
variable {P : Program} {GL : Nat → List D} {n0 : Nat} {Pn : PnS}
theorem op_float {o : Oper} {σ : St} {K : St → Prop} {T : Nat → Prop} {t : Nat} (hd : o.dst = some t) (ht : Nat.blt t σ.n = true) (h : FloatR P GL o σ fun s _ => K ⟨σ.n, (t, s) :: σ.sl, σ.ob⟩) : OpR P GL n0 Pn T o σ K := fun B hB g a w hr next Q hK hP => by
  obtain ⟨Hc, s, y, L, hrun, hc, _, hden, hk⟩ := h B g a w hr
  unfold Oper.wp
  rw [hrun w hc]
  show next (a.put o.dst y) w
  rw [hd]
  exact hK _ _ _ _ (hr.put ht hden) (Keep.refl _ _ _ _) hk
theorem ops_nil {ops : List Oper} {Q : Ex → St → Prop} {σ : St} (h : Q .normal σ) : OpsR P GL n0 Pn ops [] Q σ := fun B hB a w hr => wpList_nil ⟨σ, hr, h⟩
theorem ops_cons {ops rest : List Oper} {o : Oper} {Q : Ex → St → Prop} {σ : St} {T : Nat → Prop} (hg : o.guard = none) (h : OpR P GL n0 Pn T o σ fun σ' => OpsR P GL n0 Pn ops rest Q σ') : OpsR P GL n0 Pn ops (o :: rest) Q σ := fun B hB a w ⟨g, hr⟩ => by
  refine wpList_step fun K hK => ?_
  simp only [Region.wanted, hg, if_true]
  exact h B hB g a w hr _ _ (fun σ' g' a' w' hr' _ hk => hK _ _ (hk B hB a' w' ⟨g', hr'⟩)) (fun c w' hp => .inr ⟨hr.defers, hp⟩)
theorem oc {ops rest : List Oper} {o : Oper} {Q : Ex → St → Prop} {σ : St} {T : Nat → Prop} (h : OpR P GL n0 Pn T o σ fun σ' => OpsR P GL n0 Pn ops rest Q σ') (hg : o.guard = none := by exact rfl) : OpsR P GL n0 Pn ops (o :: rest) Q σ := ops_cons hg h
theorem ops_fl {ops rest : List Oper} {o : Oper} {Q : Ex → St → Prop} {n : Nat} {sl : List (Nat × SV)} {ob : List Ob} {t : Nat} (hg : o.guard = none) (hd : o.dst = some t) (ht : Nat.blt t n = true)
    (h : FloatR P GL o ⟨n, sl, ob⟩ fun s _ => OpsR P GL n0 Pn ops rest Q ⟨n, (t, s) :: sl, ob⟩) : OpsR P GL n0 Pn ops (o :: rest) Q ⟨n, sl, ob⟩ :=
  ops_cons (T := fun _ => False) hg (op_float hd ht h)
theorem o1 {ops rest : List Oper} {o : Oper} {Q : Ex → St → Prop} {n : Nat} {sl : List (Nat × SV)} {ob : List Ob} {t : Nat} (h : FloatR P GL o ⟨n, sl, ob⟩ fun s _ => OpsR P GL n0 Pn ops rest Q ⟨n, (t, s) :: sl, ob⟩) (hg : o.guard = none := by exact rfl) (hd : o.dst = some t := by exact rfl) (ht : Nat.blt t n = true := by exact rfl) : OpsR P GL n0 Pn ops (o :: rest) Q ⟨n, sl, ob⟩ := ops_fl hg hd ht h
def dstOf (ops : List Oper) (j : Nat) : Option Tmp := (ops[j]?).bind (·.dst)
theorem wanted_of {ops : Array Oper} {o : Oper} {j d : Nat} {want b : Bool} {a : Act} (hg : o.guard = some (j, want)) (hd : dstOf ops.toList j = some d) (hb : a.tmps.getD d undef = .bool b) :
    Region.wanted o (yielded ops a.tmps) = (b == want) := by
  have h1 : (ops[j]?).bind (·.dst) = some d := by simpa [dstOf] using hd
  have h2 : a.tmps[d]? = some (.bool b) := by
    by_cases hs : d < a.tmps.size
    · simp [hs] at hb; simp [hs, hb]
    · simp [hs] at hb; cases hb
  simp only [Region.wanted, hg, yielded, h1, Option.bind_some, h2]
  cases b <;> cases want <;> rfl
theorem wanted_undef {ops : Array Oper} {o : Oper} {j d : Nat} {want : Bool} {a : Act} {t : Array Value} (hg : o.guard = some (j, want)) (hd : dstOf ops.toList j = some d) (hb : a.tmps.getD d undef = .tuple t) :
    Region.wanted o (yielded ops a.tmps) = false := by
  have h1 : (ops[j]?).bind (·.dst) = some d := by simpa [dstOf] using hd
  cases h2 : a.tmps[d]? with
  | none => simp only [Region.wanted, hg, yielded, h1, Option.bind_some, h2]; try rfl
  | some v =>
    have hv : v = .tuple t := by
      rw [Array.getD_eq_getD_getElem?, h2] at hb; simpa using hb
    subst hv
    simp only [Region.wanted, hg, yielded, h1, Option.bind_some, h2]
    try rfl
theorem ops_guard_yes {ops rest : List Oper} {o : Oper} {Q : Ex → St → Prop} {n : Nat} {sl : List (Nat × SV)} {ob : List Ob} {j d : Nat} {want : Bool} (hg : o.guard = some (j, want)) (hd : dstOf ops j = some d) (hb : slo d sl = some (.d (.v (.bool want))))
    (h : OpsR P GL n0 Pn ops ({ o with guard := none } :: rest) Q ⟨n, sl, ob⟩) : OpsR P GL n0 Pn ops (o :: rest) Q ⟨n, sl, ob⟩ := fun B hB a w ⟨g, hr⟩ => by
  have hbv : a.tmps.getD d undef = .bool want := by have := hr.slots d; rw [slo_slk hb] at this; exact this
  have h1 := h B hB a w ⟨g, hr⟩
  unfold wpList at h1 ⊢
  rw [wanted_of hg hd hbv, if_pos (by simp)]
  have hw : Region.wanted { o with guard := none } (yielded ops.toArray a.tmps) = true := rfl
  rw [if_pos hw] at h1
  exact h1
theorem ops_guard_no {ops rest : List Oper} {o : Oper} {Q : Ex → St → Prop} {n : Nat} {sl : List (Nat × SV)} {ob : List Ob} {j d t : Nat} {want : Bool} (hg : o.guard = some (j, want)) (hd : dstOf ops j = some d) (hb : slo d sl = some (.d (.v (.bool (!want))))) (hdst : o.dst = some t) (ht : Nat.blt t n = true)
    (h : OpsR P GL n0 Pn ops rest Q ⟨n, (t, .d (.v undef)) :: sl, ob⟩) : OpsR P GL n0 Pn ops (o :: rest) Q ⟨n, sl, ob⟩ := fun B hB a w ⟨g, hr⟩ => by
  have hbv : a.tmps.getD d undef = .bool (!want) := by have := hr.slots d; rw [slo_slk hb] at this; exact this
  unfold wpList
  rw [wanted_of hg hd hbv, if_neg (by cases want <;> simp), hdst]
  exact h B hB _ w ⟨g, hr.put ht rfl⟩
theorem ops_guard_undef {ops rest : List Oper} {o : Oper} {Q : Ex → St → Prop} {n : Nat} {sl : List (Nat × SV)} {ob : List Ob} {j d t : Nat} {want : Bool} (hg : o.guard = some (j, want)) (hd : dstOf ops j = some d) (hb : slo d sl = some (.d (.v undef))) (hdst : o.dst = some t) (ht : Nat.blt t n = true)
    (h : OpsR P GL n0 Pn ops rest Q ⟨n, (t, .d (.v undef)) :: sl, ob⟩) : OpsR P GL n0 Pn ops (o :: rest) Q ⟨n, sl, ob⟩ := fun B hB a w ⟨g, hr⟩ => by
  have hbv : a.tmps.getD d undef = undef := by have := hr.slots d; rw [slo_slk hb] at this; exact this
  unfold wpList
  rw [wanted_undef hg hd (t := #[]) (by rw [hbv]; rfl), if_neg (by simp), hdst]
  exact h B hB _ w ⟨g, hr.put ht rfl⟩
theorem gud {ops rest : List Oper} {o : Oper} {Q : Ex → St → Prop} {n : Nat} {sl : List (Nat × SV)} {ob : List Ob} {j d t : Nat} {want : Bool} (h : OpsR P GL n0 Pn ops rest Q ⟨n, (t, .d (.v undef)) :: sl, ob⟩) (hg : o.guard = some (j, want) := by exact rfl) (hd : dstOf ops j = some d := by exact rfl) (hdst : o.dst = some t := by exact rfl) (hb : slo d sl = some (.d (.v undef)) := by exact rfl) (ht : Nat.blt t n = true := by exact rfl) : OpsR P GL n0 Pn ops (o :: rest) Q ⟨n, sl, ob⟩ := ops_guard_undef hg hd hb hdst ht h
/-- a guard that is not known yet: both ways -/
theorem ops_split {ops l : List Oper} {Q : Ex → St → Prop} {n : Nat} {sl : List (Nat × SV)} {ob : List Ob} (d : Nat) {b : Bool} (hb : slo d sl = some (.d (.v (.bool b))))
    (h1 : b = true → OpsR P GL n0 Pn ops l Q ⟨n, (d, .d (.v (.bool true))) :: sl, ob⟩) (h2 : b = false → OpsR P GL n0 Pn ops l Q ⟨n, (d, .d (.v (.bool false))) :: sl, ob⟩) : OpsR P GL n0 Pn ops l Q ⟨n, sl, ob⟩ := fun B hB a w ⟨g, hr⟩ => by
  have hbv : a.tmps.getD d undef = .bool b := by have := hr.slots d; rw [slo_slk hb] at this; exact this
  cases b with
  | true => exact h1 rfl B hB a w ⟨g, hr.known (t := d) hbv⟩
  | false => exact h2 rfl B hB a w ⟨g, hr.known (t := d) hbv⟩
theorem runs_region {id : Nat} {l : List Oper} {Q : Ex → St → Prop} {σ : St} (h : OpsR P GL n0 Pn l l Q σ) : Runs P GL n0 Pn (.region id l.toArray false) Q σ :=
  fun B hB _ _ hr => wp_region_list (by simpa using h B hB _ _ hr)
/-! of the slots, those that are wanted -/
def keepO (sl : List (Nat × SV)) : List Nat → Option (List (Nat × SV))
  | [] => some []
  | t :: r => (keepO sl r).bind fun l => match slo t sl with
    | some s => some ((t, s) :: l)
    | none => some l
theorem keepO_slk {sl : List (Nat × SV)} : ∀ {L : List Nat} {l : List (Nat × SV)}, keepO sl L = some l → ∀ t, slk t l = slk t sl ∨ slk t l = .junk
  | [], l, h, t => by simp [keepO] at h; subst h; exact .inr rfl
  | k :: r, l, h, t => by
    simp only [keepO, Option.bind_eq_some_iff] at h
    obtain ⟨l', h1, h2⟩ := h
    have ih := keepO_slk h1 t
    split at h2
    · rename_i s hs
      simp only [Option.some.injEq] at h2; subst h2
      rw [slk_cons]
      split
      · rename_i e; subst e; exact .inl (slo_slk hs).symm
      · exact ih
    · simp only [Option.some.injEq] at h2; subst h2; exact ih
theorem runs_keep (L : List Nat) {c : Code} {Q : Ex → St → Prop} {n : Nat} {sl sl' : List (Nat × SV)} {ob : List Ob} (hk : keepO sl L = some sl') (h : Runs P GL n0 Pn c Q ⟨n, sl', ob⟩) : Runs P GL n0 Pn c Q ⟨n, sl, ob⟩ := fun B hB a w ⟨g, hr⟩ =>
  h B hB a w ⟨g, hr.defers, hr.size, fun t => by
    show (slk t sl').Den g _
    rcases keepO_slk hk t with e | e
    · rw [e]; exact hr.slots t
    · rw [e]; trivial, hr.store, hr.stp⟩
theorem runs_seq {c1 c2 : Code} {Q : Ex → St → Prop} {σ : St} (h : Runs P GL n0 Pn c1 (Ex.seq (fun σ' => Runs P GL n0 Pn c2 Q σ') Q) σ) : Runs P GL n0 Pn (.seq c1 c2) Q σ :=
  fun B hB a w hr => wp_seq (wp_mono (h B hB a w hr) fun e a w hl => by
    cases e with
    | normal => obtain ⟨σ, hr, hk⟩ := hl; exact hk B hB a w hr
    | exit id => exact hl
    | goto l => exact hl
    | ret => exact hl
    | panic c => exact hl
    | outgrown => exact hl)
theorem seq_normal {c2 : Code} {Q Q' : Ex → St → Prop} {σ : St} (h : Runs P GL n0 Pn c2 Q σ) : Ex.seq (fun σ' => Runs P GL n0 Pn c2 Q σ') Q' .normal σ := h
theorem seq_exit {K : St → Prop} {Q : Ex → St → Prop} {σ : St} {id : Nat} (h : Q (.exit id) σ) : Ex.seq K Q (.exit id) σ := h
theorem seq_ret {K : St → Prop} {Q : Ex → St → Prop} {σ : St} (h : Q .ret σ) : Ex.seq K Q .ret σ := h
theorem inb_normal {Q : Ex → St → Prop} {σ : St} {id : Nat} (h : Q .normal σ) : Ex.inBlock id Q .normal σ := h
theorem inb_ret {Q : Ex → St → Prop} {σ : St} {id : Nat} (h : Q .ret σ) : Ex.inBlock id Q .ret σ := h
theorem inb_exit {Q : Ex → St → Prop} {σ : St} {id : Nat} (h : Q .normal σ) : Ex.inBlock id Q (.exit id) σ := by simp only [Ex.inBlock, if_true]; exact h
theorem runs_skip {Q : Ex → St → Prop} {σ : St} (h : Q .normal σ) : Runs P GL n0 Pn .skip Q σ := fun _ _ _ _ hr => wp_skip ⟨σ, hr, h⟩
theorem runs_ret {Q : Ex → St → Prop} {σ : St} (h : Q .ret σ) : Runs P GL n0 Pn .ret Q σ := fun _ _ _ _ hr => wp_ret (.inr ⟨σ, hr, h⟩)
theorem runs_exit {id : Nat} {Q : Ex → St → Prop} {σ : St} (h : Q (.exit id) σ) : Runs P GL n0 Pn (.exit id) Q σ := fun _ _ _ _ hr => wp_exit ⟨σ, hr, h⟩
theorem runs_block {id : Nat} {c : Code} {Q : Ex → St → Prop} {σ : St} (h : Runs P GL n0 Pn c (Ex.inBlock id Q) σ) : Runs P GL n0 Pn (.block id c) Q σ :=
  fun B hB a w hr => wp_block (wp_mono (h B hB a w hr) fun e a w hl => by
    cases e with
    | normal => exact hl
    | exit j =>
      obtain ⟨σ, hr, hk⟩ := hl
      simp only [Ex.inBlock] at hk
      simp only [Exit.inBlock]
      split at hk
      · rename_i e; rw [if_pos e]; exact ⟨σ, hr, hk⟩
      · rename_i e; rw [if_neg e]; exact ⟨σ, hr, hk⟩
    | goto l => exact hl
    | ret => exact hl
    | panic c => exact hl
    | outgrown => exact hl)
theorem runs_cond {c : Operand} {c1 c2 : Code} {Q : Ex → St → Prop} {σ : St} {b : Bool} (hc : evO GL σ.sl c = some (.d (.v (.bool b)))) (h1 : b = true → Runs P GL n0 Pn c1 Q σ) (h2 : b = false → Runs P GL n0 Pn c2 Q σ) :
    Runs P GL n0 Pn (.cond c c1 c2) Q σ := fun B hB a w hr => by
  obtain ⟨g, hr'⟩ := hr
  have he : a.eval c = .bool b := hr'.evo hc
  cases b
  · exact wp_cond_false he (h2 rfl B hB a w ⟨g, hr'⟩)
  · exact wp_cond_true he (h1 rfl B hB a w ⟨g, hr'⟩)
/-! one state may be looked at as another -/
inductive SlFit (ob : List Ob) (ρ : List Nat) (sl : List (Nat × SV)) : List (Nat × SV) → Prop
  | nil : SlFit ob ρ sl []
  | cons {t : Nat} {s s' : SV} {r : List (Nat × SV)} (h : s.ren ρ = some s') (hf : Fit ob (slk t sl) s') (hr : SlFit ob ρ sl r) : SlFit ob ρ sl ((t, s) :: r)
def pre : Nat → Nat → List Nat → Bool
  | _, 0, _ => true
  | _, _ + 1, [] => false
  | k, n + 1, i :: r => cond (Nat.beq i k) (pre (k + 1) n r) false
theorem pre_get : ∀ {n k : Nat} {ρ : List Nat}, pre k n ρ = true → ∀ i, i < n → ρ[i]? = some (k + i)
  | 0, k, ρ, h, i, hi => by omega
  | n + 1, k, [], h, i, hi => by cases h
  | n + 1, k, j :: r, h, i, hi => by
    simp only [pre] at h
    cases hb : Nat.beq j k with
    | false => rw [hb] at h; cases h
    | true =>
      rw [hb] at h
      have e : j = k := by simpa using hb
      subst e
      cases i with
      | zero => simp
      | succ i => have := pre_get (n := n) (k := j + 1) h i (by omega); simp only [List.getElem?_cons_succ, this]; congr 1; omega
def nodupB : List Nat → Bool
  | [] => true
  | i :: r => cond (inIx r i) false (nodupB r)
theorem nodupB_eq : ∀ {l : List Nat}, nodupB l = true → l.Nodup
  | [], _ => List.nodup_nil
  | i :: r, h => by
    simp only [nodupB] at h
    cases hb : inIx r i with
    | true => rw [hb] at h; cases h
    | false =>
      rw [hb] at h
      exact List.nodup_cons.2 ⟨fun hm => (by rw [inIx_iff.2 hm] at hb; cases hb), nodupB_eq h⟩
structure Meets (n0 : Nat) (σ σ' : St) (ρ : List Nat) : Prop where
  n : σ'.n = σ.n
  pre : pre 0 n0 ρ = true
  nd : nodupB ρ = true
  its : ∀ (j i : Nat) f dn cur, σ'.ob[j]? = some (.itI i f dn cur) → σ'.ob[i]? = some (.mapI f)
  ob : ObFits σ.ob ρ σ'.ob ρ
  sl : SlFit σ.ob ρ σ.sl σ'.sl
theorem slFit_look {ob : List Ob} {g g' : Gh} {w : World} {ρ : List Nat} {sl : List (Nat × SV)} (hs : StoreOk GL ob g w) (hb : RenB ρ g' g) {l : List (Nat × SV)} (h : SlFit ob ρ sl l) (t : Nat) {y : Value} (hd : (slk t sl).Den g y) : (slk t l).Den g' y := by
  induction h with
  | nil => trivial
  | cons h1 h2 _ ih =>
    rw [slk_cons]
    split
    · rename_i e; subst e
      exact SV.ren_back hb _ h1 (h2.den hs hd)
    · exact ih
theorem stp_sub {B : Bs} {ob obc : List Ob} {ρ : List Nat} {g : Gh} {w : World} (hn0 : B.n0 = n0) (hp : pre 0 n0 ρ = true) (h : Stp B ob g w) (hs : StoreOk GL ob g w) (hf : ObFits ob ρ obc ρ) (hnd : ρ.Nodup) (hno : ∀ (j i : Nat) f dn cur, obc[j]? = some (.itI i f dn cur) → obc[i]? = some (.mapI f)) :
    Stp B obc ⟨g.m, ρ.map fun i => g.gs.getD i (.loc 0)⟩ w := by
  refine ⟨h.fr, h.mem, h.new, fun i o p b h1 h2 h3 => ?_, fun i b hi hb => ?_⟩
  · obtain ⟨i', k, o', p', _, e2, e3, e4⟩ := (hs.sub hf hnd hno).2.2 b ⟨i, o, p, h1, h2, h3⟩
    exact h.own i' o' p' b e2 e3 e4
  · have := pre_get hp i (by omega)
    rw [Nat.zero_add] at this
    show (ρ.map _)[i]? = _
    rw [List.getElem?_map, this]
    simp [List.getD_eq_getElem?_getD, h.at' i b hi hb]
theorem Meets.rel {B : Bs} (hn0 : B.n0 = n0) {σ σ' : St} {ρ : List Nat} (h : Meets n0 σ σ' ρ) {a : Act} {w : World} (hr : Rel GL B σ a w) : Rel GL B σ' a w := by
  obtain ⟨g, hr⟩ := hr
  have hnd := nodupB_eq h.nd
  have hsub := hr.store.sub h.ob hnd h.its
  exact ⟨_, hr.defers, by rw [h.n]; exact hr.size, fun t => slFit_look hr.store hsub.2.1 h.sl t (hr.slots t), hsub.1, stp_sub hn0 h.pre hr.stp hr.store h.ob hnd h.its⟩
/-- σ is one of a family -/
def Back {ι : Type} (n0 : Nat) (S : ι → St) (I : ι → Prop) (σ : St) : Prop := ∃ i ρ, I i ∧ Meets n0 σ (S i) ρ
theorem seq_back {ι : Type} {S : ι → St} {I : ι → Prop} {Q' : Ex → St → Prop} {σ : St} (h : Back n0 S I σ) : Ex.seq (fun σ' => Back n0 S I σ') Q' .normal σ := h
theorem runs_loop {c : Code} {Q : Ex → St → Prop} {σ : St} {ι : Type} (S : ι → St) (Inv : ι → Prop) (m : ι → Nat) (h0 : Back n0 S Inv σ)
    (h : ∀ i, Inv i → Runs P GL n0 Pn c (Ex.seq (fun σ' => Back n0 S (fun j => Inv j ∧ m j < m i) σ') Q) (S i)) : Runs P GL n0 Pn (.loop c) Q σ := fun B hB a w hr => by
  obtain ⟨i, ρ, hI, hi⟩ := h0
  refine wp_loop_rounds (m i + 1) ?_
  have key : ∀ (n : Nat) (i : ι), m i < n → Inv i → ∀ a w, Rel GL B (S i) a w → Code.rounds P c (liftQ GL B Pn Q) n a w := by
    intro n
    induction n with
    | zero => intro i hi; omega
    | succ n ih =>
      intro i hlt hI a w hr
      refine wp_mono (h i hI B hB a w hr) fun e a' w' hl => ?_
      cases e with
      | normal =>
        obtain ⟨σ', hr', j, ρ, ⟨hj1, hj2⟩, hj3⟩ := hl
        exact ih j (by omega) hj1 a' w' (hj3.rel hB hr')
      | exit id => exact hl
      | goto l => exact hl
      | ret => exact hl
      | panic c => exact hl
      | outgrown => exact hl
  exact key _ i (Nat.lt_succ_self _) hI a w (hi.rel hB hr)
/-! calls -/
theorem op_call_of {o : Oper} {σ : St} {K : St → Prop} {f : FuncId} {obc : List Ob} {argsc : List SV} {Q : Out → List Ob → Prop} (ht : Tri P GL f obc argsc Q) (ix : List Nat) {svs m : List SV} (hrun : ∀ B g a w, RelG GL B σ g a w → ∃ vs, (execOp a.eval o).run P w = .ok (.enter f ⟨vs⟩) w ∧ SDenL g svs vs)
    (hfit : ObFits σ.ob ix obc ix) (hnd : nodupB ix = true) (hno : noIt obc = true) (hit : ∀ i ∈ ix, ∀ (j : Nat) f dn cur, σ.ob[j]? ≠ some (.itI i f dn cur)) (hra : renL ix argsc = some m) (hfa : FitL σ.ob svs m)
    (hret : ∀ s ob', Q (.ret s) ob' → ∃ obr ob1 obn sl1 s', renOb (names ix σ.ob.length (ob'.length - ix.length)) ob' = some obr ∧ kObL ix σ.ob = some ob1 ∧ mergeO ix ob1 obr = some obn ∧ kSlL ix σ.sl = some sl1 ∧ s.ren (names ix σ.ob.length (ob'.length - ix.length)) = some s' ∧
      (∀ t, o.dst = some t → Nat.blt t σ.n = true ∧ K ⟨σ.n, (t, s') :: sl1, obn⟩) ∧ (o.dst = none → K ⟨σ.n, sl1, obn⟩))
    (hpan : ∀ s ob', Q (.pan s) ob' → ∃ obr ob1 obn sl1 s', renOb (names ix σ.ob.length (ob'.length - ix.length)) ob' = some obr ∧ kObL ix σ.ob = some ob1 ∧ mergeO ix ob1 obr = some obn ∧ kSlL ix σ.sl = some sl1 ∧ s.ren (names ix σ.ob.length (ob'.length - ix.length)) = some s' ∧ Pn.pn s' sl1 obn) :
    OpR P GL n0 Pn (· ∈ ix) o σ K := fun B hB g a w hr next Q' hK hP => by
  obtain ⟨vs, hrun, hd⟩ := hrun B g a w hr
  have hnd' := nodupB_eq hnd
  have hsub := hr.store.sub hfit hnd' (fun j i f dn cur hj => absurd hj (noIt_get hno j i f dn cur))
  have hd2 := renL_back hsub.2.1 _ hra (hfa.den hr.store hd)
  unfold Oper.wp
  rw [hrun, Oper.upon_enter]
  refine (ht _ w vs hsub.1 hd2).mono fun e w' he => ?_
  obtain ⟨g', ob', hs, hst, hle, hno', he⟩ := he
  cases e with
  | returned v =>
    obtain ⟨s, hs1, hq⟩ := he
    obtain ⟨obr, ob1, obn, sl1, s', e1, e2, e3, e4, e5, e6, e7⟩ := hret s ob' hq
    obtain ⟨gn, hrel, hkeep, hden⟩ := hr.after hfit hnd' hno hit hs hst hle hno' e1 e2 e3 e4
    cases hdst : o.dst with
    | none => exact hK _ _ _ _ hrel hkeep (e7 hdst)
    | some t =>
      obtain ⟨e8, e9⟩ := e6 t hdst
      exact hK _ _ _ _ (hrel.put (s := s') e8 (hden s s' v e5 hs1)) hkeep e9
  | panicked c =>
    obtain ⟨v, s, rfl, hs1, hq⟩ := he
    obtain ⟨obr, ob1, obn, sl1, s', e1, e2, e3, e4, e5, e6⟩ := hpan s ob' hq
    obtain ⟨gn, hrel, hkeep, hden⟩ := hr.after hfit hnd' hno hit hs hst hle hno' e1 e2 e3 e4
    exact hP _ _ ⟨gn, sl1, obn, v, s', rfl, hrel.store, hrel.stp, hden s s' v e5 hs1, hrel.slots, e6⟩
  | outgrown => exact he.elim
def evL (GL : Nat → List D) (sl : List (Nat × SV)) : List Operand → Option (List SV)
  | [] => some []
  | x :: r => (evO GL sl x).bind fun s => (evL GL sl r).bind fun l => some (s :: l)
theorem evL_den {B : Bs} {σ : St} {g : Gh} {a : Act} {w : World} (hr : RelG GL B σ g a w) : ∀ {l : List Operand} {ss : List SV}, evL GL σ.sl l = some ss → SDenL g ss (l.map a.eval)
  | [], ss, h => by simp [evL] at h; subst h; rfl
  | x :: r, ss, h => by
    simp only [evL, Option.bind_eq_some_iff, Option.some.injEq] at h
    obtain ⟨s, h1, l, h2, rfl⟩ := h
    exact ⟨_, _, rfl, hr.evo h1, evL_den hr h2⟩
def callable (P : Program) (f : FuncId) : Bool :=
  match P.funcs[f]? with
  | some fn => fn.name != "runtime.NumGoroutine" && fn.body.isSome
  | none => false
theorem run_callFunc {f : FuncId} (h : callable P f = true) (args : Array Value) (w : World) : (callFunc f args).run P w = .ok (.enter f args) w := by
  unfold callable at h
  split at h
  · rename_i fn hf
    simp only [Bool.and_eq_true, bne_iff_ne, ne_eq] at h
    have h1 : (fn.name == "runtime.NumGoroutine") = false := by simpa using h.1
    have h2 : fn.body.isNone = false := by cases hb : fn.body <;> simp_all
    simp only [callFunc, Sem.run_bind, run_program, Result.andThen_ok, hf, h1, h2, Bool.false_eq_true, if_false]
    rfl
  · cases h
/-- a call of a function by its name -/
theorem run_call_f {o : Oper} {σ : St} {f : FuncId} {args : Array Operand} {ts : Array TypeId} {svs : List SV} (hc : callable P f = true) (ho : o.op = .call { callee := .value (.func f), args := args, argTypes := ts }) (ha : evL GL σ.sl args.toList = some svs) :
    ∀ B g a w, RelG GL B σ g a w → ∃ vs, (execOp a.eval o).run P w = .ok (.enter f ⟨vs⟩) w ∧ SDenL g svs vs := fun B g a w hr => by
  refine ⟨args.toList.map a.eval, ?_, evL_den hr ha⟩
  have hrun : (execOp a.eval o).run P w = (callFunc f ⟨args.toList.map a.eval⟩).run P w := by
    simp only [execOp, ho, resolve, Act.eval, Deferred.ofValue, Sem.run_bind, Sem.run_pure, Result.andThen_ok, invoke]
    congr 2
    apply Array.ext'
    simp
  rw [hrun, run_callFunc hc]
/-- a call of a closure -/
theorem run_call_c {o : Oper} {σ : St} {f : FuncId} {x : Operand} {first caps svs svs1 svs2 : List SV} {args : Array Operand} {ts : Array TypeId} (hc : callable P f = true) (hnf : ∀ f', x ≠ .func f') (ho : o.op = .call { callee := .value x, args := args, argTypes := ts })
    (hx : evO GL σ.sl x = some (.fn (.func f) first caps)) (ha : evL GL σ.sl args.toList = some svs) (h1 : appO first svs = some svs1) (h2 : appO svs1 caps = some svs2) :
    ∀ B g a w, RelG GL B σ g a w → ∃ vs, (execOp a.eval o).run P w = .ok (.enter f ⟨vs⟩) w ∧ SDenL g svs2 vs := fun B g a w hr => by
  obtain ⟨vs, us, e, d1, d2⟩ := hr.evo hx
  refine ⟨(vs ++ args.toList.map a.eval) ++ us, ?_, ?_⟩
  · have hrun : (execOp a.eval o).run P w = (callFunc f ⟨(vs ++ args.toList.map a.eval) ++ us⟩).run P w := by
      simp only [execOp, ho, resolve, e, Deferred.ofValue, Sem.run_bind, Sem.run_pure, Result.andThen_ok, invoke]
      congr 2
      apply Array.ext'
      simp
    rw [hrun, run_callFunc hc]
  · rw [appO_eq h2, appO_eq h1]
    exact (d1.append (evL_den hr ha)).append d2
/-! the end of a function -/
def fromRes (GL : Nat → List D) (P : Program) (σ : St) : ResultVar → SV → Prop
  | .tmp t, s => slo t σ.sl = some s
  | .cell x T, s => ∃ i off l ty l1 cs ti, slo x σ.sl = some (.blk i off) ∧ nthO i σ.ob = some (.cells l ty) ∧ tiOf P T = ti ∧ ti.ok = true ∧ dropO off l = some l1 ∧ takeO ti.size l1 = some cs ∧ fromO ti.agg cs = some s
def fromRess (GL : Nat → List D) (P : Program) (σ : St) : List ResultVar → List SV → Prop
  | [], l => l = []
  | r :: rs, l => ∃ s l', l = s :: l' ∧ fromRes GL P σ r s ∧ fromRess GL P σ rs l'
def retSV : List SV → SV
  | [s] => s
  | l => .tup l
def retOf : List Value → Value
  | [v] => v
  | vs => .tuple ⟨vs⟩
/-- what a function hands over: a part of its objects under the caller's names -/
def Leave (n0 : Nat) (Q : SV → List Ob → Prop) (s : SV) (ob : List Ob) : Prop :=
  ∃ ρ s' ob' t, pre 0 n0 ρ = true ∧ nodupB ρ = true ∧ noIt ob' = true ∧ ObFits ob ρ ob' ρ ∧ SV.ren ρ s' = some t ∧ Fit ob s t ∧ Q s' ob'
def Fin (P : Program) (GL : Nat → List D) (n0 : Nat) (rs : List ResultVar) (Q : Out → List Ob → Prop) (σ : St) : Prop :=
  ∃ l, fromRess GL P σ rs l ∧ Leave n0 (fun s ob => Q (.ret s) ob) (retSV l) σ.ob
def fin (P : Program) (GL : Nat → List D) (n0 : Nat) (rs : List ResultVar) (Q : Out → List Ob → Prop) : Ex → St → Prop
  | .normal, σ => Fin P GL n0 rs Q σ
  | .ret, σ => Fin P GL n0 rs Q σ
  | _, _ => False
theorem fin_ret {rs : List ResultVar} {Q : Out → List Ob → Prop} {σ : St} (h : Fin P GL n0 rs Q σ) : fin P GL n0 rs Q .ret σ := h
theorem fin_normal {rs : List ResultVar} {Q : Out → List Ob → Prop} {σ : St} (h : Fin P GL n0 rs Q σ) : fin P GL n0 rs Q .normal σ := h
def resOne (tmps : Array Value) : ResultVar → Sem Value
  | .tmp t => pure (tmps.getD t undef)
  | .cell x t => do loadVar t (← asAddr (tmps.getD x undef))
theorem results_eq (fn : Func) (tmps : Array Value) : results fn tmps = (do let vs ← fn.results.mapM (resOne tmps); pure (if h : vs.size = 1 then vs[0] else .tuple vs)) := by
  have h : ∀ f g : ResultVar → Sem Value, (∀ r, f r = g r) → (do let vs ← fn.results.mapM f; pure (if h : vs.size = 1 then vs[0] else .tuple vs) : Sem Value) = (do let vs ← fn.results.mapM g; pure (if h : vs.size = 1 then vs[0] else .tuple vs)) :=
    fun f g h => by rw [funext h]
  exact h _ _ fun r => by cases r <;> rfl
theorem fromRess_run {B : Bs} {σ : St} {g : Gh} {a : Act} {w : World} (hr : RelG GL B σ g a w) : ∀ {rs : List ResultVar} {l : List SV}, fromRess GL P σ rs l → ∃ vs, (rs.mapM (resOne a.tmps)).run P w = .ok vs w ∧ SDenL g l vs := by
  intro rs
  induction rs with
  | nil => intro l h; simp only [fromRess] at h; subst h; exact ⟨[], rfl, rfl⟩
  | cons r rs ih =>
    intro l h
    obtain ⟨s, l', rfl, h1, h2⟩ := h
    obtain ⟨vs, hrun, hd⟩ := ih h2
    cases r with
    | tmp t =>
      refine ⟨a.tmps.getD t undef :: vs, ?_, ⟨_, _, rfl, ?_, hd⟩⟩
      · simp only [List.mapM_cons, resOne, Sem.run_bind, Sem.run_pure, Result.andThen_ok, hrun]
      · have := hr.slots t; rw [slo_slk h1] at this; exact this
    | cell x T =>
      obtain ⟨i, off, l0, ty, l1, cs, ti, e1, e2, rfl, e4, e5, e6, e7⟩ := h1
      have hx := hr.slots x
      rw [slo_slk e1] at hx
      obtain ⟨b, hb, hx⟩ := hx
      obtain ⟨us, hh, hd0, hm⟩ := hr.store.obs i _ _ (nthO_eq e2) hb
      have hl' := dropO_eq e5
      have hc' := takeO_eq e6
      have hd2 : SDenL g cs ((us.drop off).take (tiOf P T).size) := by rw [← hc'.1, ← hl'.1]; exact (hd0.drop off).take _
      have hlen : ((us.drop off).take (tiOf P T).size).length = (tiOf P T).size := by rw [hd2.length, ← hc'.1]; simp; omega
      have hld := run_loadVar_cells (P := P) e4 (w := w) (b := b) (off := off) hlen (fun j y hj => by
          rw [List.getElem?_take] at hj
          split at hj
          · rw [List.getElem?_drop] at hj
            simp only [World.cell?, hh]
            simpa using hj
          · cases hj) (fun hag => by
          rw [hag] at e7
          have e := fromO_one e7
          match h9 : (us.drop off).take (tiOf P T).size, hd2.length.trans e with
          | [y], _ => exact ⟨y, rfl⟩)
      refine ⟨_ :: vs, ?_, ⟨_, _, rfl, fromO_den e7 hd2, hd⟩⟩
      have ha : (asAddr (.pointer (some ⟨b, off, none⟩))).run P w = .ok ⟨b, off, none⟩ w := rfl
      simp only [List.mapM_cons, resOne, Sem.run_bind, hx, ha, Sem.run_pure, Result.andThen_ok, hld, hrun]
theorem retSV_den {g : Gh} : ∀ {l : List SV} {vs : List Value}, SDenL g l vs → (retSV l).Den g (retOf vs)
  | [], _, h => by cases h; exact ⟨[], rfl, rfl⟩
  | [s], _, ⟨x, l', e, h1, h2⟩ => by cases h2; subst e; exact h1
  | s :: t :: r, _, ⟨x, l', e, h1, ⟨y, l2, e2, h2, h3⟩⟩ => by subst e e2; exact ⟨_, rfl, x, _, rfl, h1, y, _, rfl, h2, h3⟩
theorem Fin.run {B : Bs} (hB : B.n0 = n0) {fn : Func} {Q : Out → List Ob → Prop} {σ : St} {a : Act} {w : World} (hr : Rel GL B σ a w) (h : Fin P GL n0 fn.results.toList Q σ) :
    ∃ v, (results fn a.tmps).run P w = .ok v w ∧ ∃ g' ob', StoreOk GL ob' g' w ∧ Stp B ob' g' w ∧ n0 ≤ ob'.length ∧ noIt ob' = true ∧ ∃ s, s.Den g' v ∧ Q (.ret s) ob' := by
  obtain ⟨g, hr⟩ := hr
  obtain ⟨l, h1, ρ, s', ob', t, hpre, hnd, hno, hfit, hren, hf, hq⟩ := h
  obtain ⟨vs, hrun, hd⟩ := fromRess_run hr h1
  have hnd' := nodupB_eq hnd
  have hno2 : ∀ (j i : Nat) f dn cur, ob'[j]? = some (.itI i f dn cur) → ob'[i]? = some (.mapI f) := fun j i f dn cur hj => absurd hj (noIt_get hno j i f dn cur)
  have hsub := hr.store.sub hfit hnd' hno2
  refine ⟨retOf vs, ?_, _, ob', hsub.1, stp_sub hB hpre hr.stp hr.store hfit hnd' hno2, ?_, hno, s', SV.ren_back hsub.2.1 s' hren (hf.den hr.store (retSV_den hd)), hq⟩
  · rw [results_eq]
    simp only [Array.mapM_eq_mapM_toList, Sem.run_bind, Sem.run_map, hrun, Result.andThen_ok, Sem.run_pure]
    congr 1
    match vs with
    | [] => rfl
    | [v] => rfl
    | v :: u :: r => simp [retOf]
  · have h5 := hfit.get.1
    rw [h5]
    rcases Nat.lt_or_ge ρ.length n0 with h6 | h6
    · have := pre_get hpre ρ.length h6
      simp at this
    · exact h6
def slots : Nat → List SV → List (Nat × SV)
  | _, [] => []
  | k, s :: r => (k, s) :: slots (k + 1) r
theorem slk_slots {g : Gh} : ∀ {ss : List SV} {vs : List Value} (k : Nat), SDenL g ss vs → ∀ t, k ≤ t → ∀ {y : Value}, (∀ x, vs[t - k]? = some x → y = x) → (slk t (slots k ss)).Den g y
  | [], vs, k, d, t, hkt, y, h => trivial
  | s :: r, _, k, ⟨x, l', e, dx, dl⟩, t, hkt, y, h => by
    subst e
    unfold slots
    rw [slk_cons]
    split
    · rename_i ek; subst ek
      have := h x (by simp)
      subst this; exact dx
    · rename_i ek
      refine slk_slots (k + 1) dl t (by omega) (fun z hz => h z ?_)
      have : t - k = t - (k + 1) + 1 := by omega
      rw [this]; simpa using hz
abbrev pnL (n0 : Nat) (Q : Out → List Ob → Prop) : PnS := ⟨fun s _ ob => Leave n0 (fun s ob' => Q (.pan s) ob') s ob, fun _ _ _ _ => False⟩
/-- what is promised of a call's end, begun at B -/
def triPost (GL : Nat → List D) (B : Bs) (Q : Out → List Ob → Prop) (e : Ending) (w' : World) : Prop :=
  ∃ g' ob', StoreOk GL ob' g' w' ∧ Stp ⟨B.g, B.w, B.X, B.n0, []⟩ ob' g' w' ∧ B.n0 ≤ ob'.length ∧ noIt ob' = true ∧
      (match e with
       | .returned v => ∃ s, s.Den g' v ∧ Q (.ret s) ob'
       | .panicked c => ∃ v s, c = [{ v := v, recovered := false }] ∧ s.Den g' v ∧ Q (.pan s) ob'
       | .outgrown => False)
/-- a function's begin -/
theorem rel_begin {ob : List Ob} {args : List SV} {g : Gh} {w : World} {vs : List Value} {n : Nat} (hn : args.length ≤ n) (hs : StoreOk GL ob g w) (hd : SDenL g args vs) :
    RelG GL ⟨g, w, blocksOf ob g, ob.length, []⟩ ⟨n, slots 0 args, ob⟩ g { tmps := (⟨vs⟩ : Array Value) ++ Array.replicate (n - (⟨vs⟩ : Array Value).size) undef, defers := [] } w := by
  refine ⟨rfl, by have := hd.length; simp; omega, fun t => ?_, hs, ⟨Fr.refl _ _, Mle.refl _, fun b o x h1 h2 => ?_, fun i o p b h1 h2 h3 => .inl ⟨i, o, p, h1, h2, h3⟩, fun _ _ _ h => h⟩⟩
  · refine slk_slots 0 hd t (Nat.zero_le _) fun x hx => ?_
    have hx' : vs[t]? = some x := by simpa using hx
    have ht : t < vs.length := (List.getElem?_eq_some_iff.1 hx').1
    simp only [Array.getD_eq_getD_getElem?]
    rw [Array.getElem?_append_left (by simpa using ht)]
    simp [hx']
  · simp only at h2; rw [h2] at h1; cases h1
theorem Stp.forget {B : Bs} {ob : List Ob} {g : Gh} {w : World} (h : Stp B ob g w) (ds : List Deferred) : Stp ⟨B.g, B.w, B.X, B.n0, ds⟩ ob g w := ⟨h.fr, h.mem, h.new, h.own, h.at'⟩
theorem pan_post {B : Bs} {Q : Out → List Ob → Prop} {c : List PanicEntry} {a : Act} {w : World} (hp : PanOk GL B (pnL B.n0 Q) c a w) : triPost GL B Q (.panicked c) w := by
  obtain ⟨g1, sl1, ob1, v, s, rfl, hs1, hst1, hd1, _, ρ, s', ob', t, hpre, hnd, hno, hfit, hren, hf1, hq⟩ := hp
  have hnd' := nodupB_eq hnd
  have hno2 : ∀ (j i : Nat) f dn cur, ob'[j]? = some (.itI i f dn cur) → ob'[i]? = some (.mapI f) := fun j i f dn cur hj => absurd hj (noIt_get hno j i f dn cur)
  have hsub := hs1.sub hfit hnd' hno2
  refine ⟨_, ob', hsub.1, (stp_sub rfl hpre hst1 hs1 hfit hnd' hno2).forget [], ?_, hno, v, s', rfl, SV.ren_back hsub.2.1 s' hren (hf1.den hs1 hd1), hq⟩
  rw [hfit.get.1]
  rcases Nat.lt_or_ge ρ.length B.n0 with h6 | h6
  · have := pre_get hpre ρ.length h6
    simp at this
  · exact h6
theorem fin_post {B : Bs} (hB : B.n0 = n0) {fn : Func} {Q : Out → List Ob → Prop} {σ : St} {a : Act} {w : World} (hr : Rel GL B σ a w) (h : Fin P GL n0 fn.results.toList Q σ) :
    ∃ v, (results fn a.tmps).run P w = .ok v w ∧ triPost GL B Q (.returned v) w := by
  subst hB
  obtain ⟨v, h1, g', ob', h2, h3, h4, h5, h6⟩ := Fin.run rfl hr h
  exact ⟨v, h1, g', ob', h2, h3.forget [], h4, h5, h6⟩
theorem wp_of_runs {B : Bs} (hd : B.df = []) {fn : Func} {c : Code} {Q : Out → List Ob → Prop} {rs : List ResultVar} (hrs : fn.results.toList = rs) {σ : St} (h : Runs P GL B.n0 (pnL B.n0 Q) c (fin P GL B.n0 rs Q) σ) {a : Act} {w : World} (hr : Rel GL B σ a w) :
    c.wp P (bodyPost P fn (triPost GL B Q)) a w := by
  subst hrs
  refine wp_mono (h _ rfl _ w hr) fun e a' w' hl => ?_
  have hfin : ∀ σ, Rel GL B σ a' w' → Fin P GL B.n0 fn.results.toList Q σ → a'.defers = [] ∧ ∃ v, (results fn a'.tmps).run P w' = .ok v w' ∧ triPost GL B Q (.returned v) w' :=
    fun σ hr hk => ⟨by obtain ⟨_, hr⟩ := hr; exact hr.defers.trans hd, fin_post rfl hr hk⟩
  cases e with
  | normal => obtain ⟨σ, hr', hk⟩ := hl; obtain ⟨h0, v, h1, h2⟩ := hfin σ hr' hk; exact ⟨h0, v, h1, h2⟩
  | ret =>
    rcases hl with hl | ⟨σ, hr', hk⟩
    · exact hl.elim
    · obtain ⟨h0, v, h1, h2⟩ := hfin σ hr' hk; exact ⟨h0, v, h1, h2⟩
  | exit id => obtain ⟨σ, hr', hk⟩ := hl; exact hk.elim
  | goto l => obtain ⟨σ, hr', hk⟩ := hl; exact hk.elim
  | panic c =>
    rcases hl with hl | ⟨h0, hp⟩
    · exact hl.elim
    · exact ⟨h0.trans hd, pan_post hp⟩
  | outgrown => exact hl.elim
theorem tri_of_runs {f : FuncId} {fn : Func} {c : Code} {ob : List Ob} {args : List SV} {Q : Out → List Ob → Prop} (hf : P.funcs[f]? = some fn) (hb : fn.body = some c) {n : Nat} (hnt : fn.ntmps = n) {rs : List ResultVar} (hrs : fn.results.toList = rs)
    (hn : args.length ≤ n) (h : Runs P GL ob.length (pnL ob.length Q) c (fin P GL ob.length rs Q) ⟨n, slots 0 args, ob⟩) : Tri P GL f ob args Q := by
  subst hnt
  intro g w vs hs hd
  refine calls_of_wp hf hb ?_
  exact wp_of_runs (B := ⟨g, w, blocksOf ob g, ob.length, []⟩) rfl hrs h ⟨g, rel_begin hn hs hd⟩
end
end Go.Vd
