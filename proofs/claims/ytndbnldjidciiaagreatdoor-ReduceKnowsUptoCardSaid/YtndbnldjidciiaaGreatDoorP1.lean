/-
  What is proved here: lemmas of part 1, for the theorem of the last part.
-/
import Derived.WalkKit
import Derived.Carry
import Derived.MapKept
import Derived.Laws.IdiomRangeMap
import Derived.Great.BuildSlice
import Derived.Laws.AppendOwn
import Derived.Still
import Derived.KernelRfl
set_option linter.unusedSimpArgs false
set_option linter.unusedVariables false
set_option linter.unusedSectionVars false
namespace Go.Vd
open Go Go.RowKit
structure Fr (X : Nat → Prop) (w w' : World) : Prop where
 os : w'.os = w.os
 tape : w'.tape = w.tape
 output : w'.output = w.output
 size : w.heap.size ≤ w'.heap.size
 block : ∀ c, c < w.heap.size → ¬ X c → w'.heap[c]? = w.heap[c]?
theorem Fr.refl (X : Nat → Prop) (w : World) : Fr X w w := ⟨rfl, rfl, rfl, Nat.le_refl _, fun _ _ _ => rfl⟩
variable {X Y : Nat → Prop} {a b : World}
theorem Fr.mono (h : Fr X a b) (hx : ∀ c, c < a.heap.size → X c → Y c) : Fr Y a b :=
 ⟨h.os, h.tape, h.output, h.size, fun c hc hy => h.block c hc (fun x => hy (hx c hc x))⟩
theorem Fr.then {c : World} (h : Fr X a b) (k : Fr Y b c) (hy : ∀ i, Y i → X i ∨ a.heap.size ≤ i) : Fr X a c :=
 ⟨k.os.trans h.os, k.tape.trans h.tape, k.output.trans h.output, Nat.le_trans h.size k.size, fun i hi hx =>
  (k.block i (Nat.lt_of_lt_of_le hi h.size) (fun hyi => (hy i hyi).elim hx (fun hge => absurd hi (by omega)))).trans (h.block i hi hx)⟩
theorem Fr.trans {X : Nat → Prop} {a b c : World} (h : Fr X a b) (k : Fr X b c) : Fr X a c :=
 ⟨k.os.trans h.os, k.tape.trans h.tape, k.output.trans h.output, Nat.le_trans h.size k.size,
  fun i hi hx => (k.block i (Nat.lt_of_lt_of_le hi h.size) hx).trans (h.block i hi hx)⟩
theorem Fr.alloc {X : Nat → Prop} {a b : World} (h : Fr X a b) (o : Obj) : Fr X a (b.alloc o) :=
 h.trans ⟨rfl, rfl, rfl, by simp, fun c hc _ => Below.heap_alloc b o c hc⟩
theorem Fr.drew {X : Nat → Prop} {a b : World} (h : Fr X a b) : Fr X a b.drew := ⟨h.os, h.tape, h.output, h.size, h.block⟩
inductive D where
 | v (x : Value)
 | agg (l : List D)
 | cb (l : List D)
 | sl (k : Nat) (l : List (List D))
 | cp (l : List D)
 | tp (T : TypeId) (d : D)
abbrev Mem := Nat → Nat → Option Value
mutual
def D.Den (m : Mem) : D → Value → Prop
 | .v x, y => y = x
 | .agg l, y => ∃ vs, y = .agg ⟨vs⟩ ∧ dk m l vs
 | .cb l, y => ∃ vs, y = .tuple ⟨vs⟩ ∧ dk m l vs
 | .sl k ls, y => ∃ a cap, y = .slice a ls.length cap ∧ ls.length ≤ cap ∧ (ls ≠ [] → ∃ b off, a = some ⟨b, off, none⟩ ∧ dM m k b off ls)
 | .cp l, y => ∃ b off, y = .pointer (some ⟨b, off, none⟩) ∧ ej m b off l
 | .tp T d, y => ∃ x, y = .iface T x ∧ d.Den m x
def dk (m : Mem) : List D → List Value → Prop
 | [], l => l = []
 | d :: r, l => ∃ x l', l = x :: l' ∧ d.Den m x ∧ dk m r l'
def ej (m : Mem) (b : Nat) : Nat → List D → Prop
 | _, [] => True
 | off, d :: r => (∃ x, m b off = some x ∧ d.Den m x) ∧ ej m b (off + 1) r
def dM (m : Mem) (k : Nat) (b : Nat) : Nat → List (List D) → Prop
 | _, [] => True
 | off, e :: r => (e.length = k ∧ ej m b off e) ∧ dM m k b (off + k) r
end
def gg (m m' : Mem) : Prop := ∀ b o x, m b o = some x → m' b o = some x
theorem gg.refl (m : Mem) : gg m m := fun _ _ _ h => h
theorem gg.trans {a b c : Mem} (h : gg a b) (k : gg b c) : gg a c := fun i o x hx => k i o x (h i o x hx)
mutual
theorem D.Den.mono {m m' : Mem} (hm : gg m m') : ∀ (d : D) {y : Value}, d.Den m y → d.Den m' y
 | .v x, y, h => h
 | .agg l, y, ⟨vs, e, h⟩ => ⟨vs, e, dk.mono hm l h⟩
 | .cb l, y, ⟨vs, e, h⟩ => ⟨vs, e, dk.mono hm l h⟩
 | .sl k ls, y, ⟨a, cap, e, hc, h⟩ => ⟨a, cap, e, hc, fun hn => by obtain ⟨b, off, e2, h2⟩ := h hn; exact ⟨b, off, e2, dM.mono hm ls h2⟩⟩
 | .cp l, y, ⟨b, off, e, h⟩ => ⟨b, off, e, ej.mono hm l h⟩
 | .tp T d, y, ⟨x, e, h⟩ => ⟨x, e, D.Den.mono hm d h⟩
theorem dk.mono {m m' : Mem} (hm : gg m m') : ∀ (l : List D) {vs : List Value}, dk m l vs → dk m' l vs
 | [], _, h => h
 | d :: r, _, ⟨x, l', e, h1, h2⟩ => ⟨x, l', e, D.Den.mono hm d h1, dk.mono hm r h2⟩
theorem ej.mono {m m' : Mem} (hm : gg m m') : ∀ (l : List D) {b off : Nat}, ej m b off l → ej m' b off l
 | [], _, _, _ => trivial
 | d :: r, _, _, ⟨⟨x, h1, h2⟩, h3⟩ => ⟨⟨x, hm _ _ _ h1, D.Den.mono hm d h2⟩, ej.mono hm r h3⟩
theorem dM.mono {m m' : Mem} (hm : gg m m') {k : Nat} : ∀ (l : List (List D)) {b off : Nat}, dM m k b off l → dM m' k b off l
 | [], _, _, _ => trivial
 | e :: r, _, _, ⟨⟨h0, h1⟩, h2⟩ => ⟨⟨h0, ej.mono hm e h1⟩, dM.mono hm r h2⟩
end
theorem dk.length {m : Mem} : ∀ {l : List D} {vs : List Value}, dk m l vs → vs.length = l.length
 | [], _, h => by cases h; rfl
 | d :: r, _, ⟨x, l', e, _, h⟩ => by subst e; simp [dk.length h]
theorem dk.get {m : Mem} : ∀ {l : List D} {vs : List Value}, dk m l vs → ∀ {i : Nat} {d : D}, l[i]? = some d → ∃ x, vs[i]? = some x ∧ d.Den m x
 | [], _, _, i, d, h => by simp at h
 | c :: r, _, ⟨x, l', e, hx, hl⟩, i, d, h => by
  subst e
  cases i with
  | zero => simp at h; subst h; exact ⟨x, by simp, hx⟩
  | succ i => simp at h; simpa using dk.get hl h
theorem dk.append {m : Mem} : ∀ {l : List D} {vs : List Value}, dk m l vs → ∀ {l2 : List D} {vs2 : List Value}, dk m l2 vs2 → dk m (l ++ l2) (vs ++ vs2)
 | [], _, h, _, _, h2 => by cases h; exact h2
 | d :: r, _, ⟨x, l', e, hx, hl⟩, _, _, h2 => by subst e; exact ⟨x, l' ++ _, rfl, hx, dk.append hl h2⟩
theorem ej.get {m : Mem} {b : Nat} : ∀ {l : List D} {off : Nat}, ej m b off l → ∀ {i : Nat} {d : D}, l[i]? = some d → ∃ x, m b (off + i) = some x ∧ d.Den m x
 | [], _, _, i, d, h => by simp at h
 | c :: r, off, ⟨h1, h2⟩, 0, d, h => by simp at h; subst h; simpa using h1
 | c :: r, off, ⟨h1, h2⟩, i + 1, d, h => by
  have := ej.get h2 (i := i) (d := d) (by simpa using h)
  rwa [show off + 1 + i = off + (i + 1) by omega] at this
theorem ej.drop {m : Mem} {b : Nat} : ∀ {l : List D} {off : Nat} (n : Nat), ej m b off l → ej m b (off + n) (l.drop n)
 | l, off, 0, h => by simpa using h
 | [], off, n + 1, h => by simp [ej]
 | c :: r, off, n + 1, ⟨_, h⟩ => by
  have := ej.drop n h
  rwa [show off + 1 + n = off + (n + 1) by omega] at this
theorem ej.take {m : Mem} {b : Nat} : ∀ {l : List D} {off : Nat} (n : Nat), ej m b off l → ej m b off (l.take n)
 | l, off, 0, h => by simp [ej]
 | [], off, n + 1, h => by simp [ej]
 | c :: r, off, n + 1, ⟨h1, h⟩ => ⟨h1, ej.take n h⟩
theorem ej.Dd {m : Mem} {b : Nat} : ∀ {l : List D} {off : Nat}, ej m b off l → ∃ vs, dk m l vs ∧ ∀ i x, vs[i]? = some x → m b (off + i) = some x
 | [], off, _ => ⟨[], rfl, by simp⟩
 | c :: r, off, ⟨⟨x, h1, h2⟩, h3⟩ => by
  obtain ⟨vs, h4, h5⟩ := ej.Dd h3
  refine ⟨x :: vs, ⟨x, vs, rfl, h2, h4⟩, fun i y hy => ?_⟩
  cases i with
  | zero => simp at hy; subst hy; exact h1
  | succ i => simp at hy; have := h5 i y hy; rwa [show off + 1 + i = off + (i + 1) by omega] at this
theorem ej.tz {m : Mem} {b : Nat} : ∀ {l : List D} {vs : List Value} {off : Nat}, dk m l vs → (∀ i x, vs[i]? = some x → m b (off + i) = some x) → ej m b off l
 | [], _, _, _, _ => trivial
 | d :: r, _, off, ⟨x, l', e, h1, h2⟩, h => by
  subst e
  refine ⟨⟨x, by simpa using h 0 x rfl, h1⟩, ej.tz h2 fun i y hy => ?_⟩
  have := h (i + 1) y (by simpa using hy)
  rwa [show off + (i + 1) = off + 1 + i by omega] at this
theorem dM.get {m : Mem} {k b : Nat} : ∀ {l : List (List D)} {off : Nat}, dM m k b off l → ∀ {i : Nat} {e : List D}, l[i]? = some e → e.length = k ∧ ej m b (off + i * k) e
 | [], _, _, i, e, h => by simp at h
 | c :: r, off, ⟨h1, h2⟩, 0, e, h => by simp at h; subst h; simpa using h1
 | c :: r, off, ⟨h1, h2⟩, i + 1, e, h => by
  have := dM.get h2 (i := i) (e := e) (by simpa using h)
  rwa [show off + k + i * k = off + (i + 1) * k by rw [Nat.add_mul]; omega] at this
theorem dM.drop {m : Mem} {k b : Nat} : ∀ {l : List (List D)} {off : Nat} (n : Nat), dM m k b off l → dM m k b (off + n * k) (l.drop n)
 | l, off, 0, h => by simpa using h
 | [], off, n + 1, h => by simp [dM]
 | c :: r, off, n + 1, ⟨_, h⟩ => by
  have := dM.drop n h
  rwa [show off + k + n * k = off + (n + 1) * k by rw [Nat.add_mul]; omega] at this
theorem dM.take {m : Mem} {k b : Nat} : ∀ {l : List (List D)} {off : Nat} (n : Nat), dM m k b off l → dM m k b off (l.take n)
 | l, off, 0, h => by simp [dM]
 | [], off, n + 1, h => by simp [dM]
 | c :: r, off, n + 1, ⟨h1, h⟩ => ⟨h1, dM.take n h⟩
theorem dM.append {m : Mem} {k b : Nat} : ∀ {l : List (List D)} {off : Nat}, dM m k b off l → ∀ {l2 : List (List D)}, dM m k b (off + l.length * k) l2 → dM m k b off (l ++ l2)
 | [], off, _, l2, h => by simpa using h
 | c :: r, off, ⟨h1, h2⟩, l2, h => ⟨h1, dM.append h2 (by
  rwa [show off + k + r.length * k = off + (c :: r).length * k by simp [Nat.add_mul]; omega])⟩
inductive Pl where
 | loc (b : Nat)
 | row (b : Option Nat) (cap n : Nat)
structure Gh where
 m : Mem
 gs : List Pl
inductive SV where
 | d (x : D)
 | bZ (i off : Nat)
 | agg (l : List SV)
 | cb (l : List SV)
 | own (i k : Nat) (ls : List (List D))
 | fn (f : Fn) (first caps : List SV)
 | tp (T : TypeId) (s : SV)
 | map (i : Nat)
 | rp (i : Nat)
 | arr (i n : Nat)
 | bp (i off : Nat)
 | vT (k : Nat) (ls : List (List D))
 | fH
mutual
def SV.Den (g : Gh) : SV → Value → Prop
 | .d x, y => x.Den g.m y
 | .bZ i off, y => ∃ b, g.gs[i]? = some (.loc b) ∧ y = .pointer (some ⟨b, off, none⟩)
 | .agg l, y => ∃ vs, y = .agg ⟨vs⟩ ∧ bj g l vs
 | .cb l, y => ∃ vs, y = .tuple ⟨vs⟩ ∧ bj g l vs
 | .own i k ls, y => ∃ b cap, g.gs[i]? = some (.row b cap ls.length) ∧ y = .slice (b.map fun b => ⟨b, 0, none⟩) ls.length cap ∧ ls.length ≤ cap ∧ (ls ≠ [] → ∃ c, b = some c ∧ dM g.m k c 0 ls)
 | .fn f first caps, y => ∃ vs us, y = .func f ⟨vs⟩ ⟨us⟩ ∧ bj g first vs ∧ bj g caps us
 | .tp T s, y => ∃ x, y = .iface T x ∧ s.Den g x
 | .map i, y => ∃ b, g.gs[i]? = some (.loc b) ∧ y = .map (some b)
 | .rp i, y => ∃ b cap n, g.gs[i]? = some (.row (some b) cap n) ∧ y = .pointer (some ⟨b, 0, none⟩)
 | .arr i n, y => ∃ b cap, g.gs[i]? = some (.row b cap n) ∧ y = .slice (b.map fun b => ⟨b, 0, none⟩) n cap
 | .bp i off, y => ∃ b cap n, g.gs[i]? = some (.row (some b) cap n) ∧ y = .pointer (some ⟨b, off, none⟩)
 | .vT k ls, y => ∃ a, y = .slice a ls.length ls.length ∧ (ls ≠ [] → ∃ b off, a = some ⟨b, off, none⟩ ∧ dM g.m k b off ls)
 | .fH, _ => True
def bj (g : Gh) : List SV → List Value → Prop
 | [], l => l = []
 | s :: r, l => ∃ x l', l = x :: l' ∧ s.Den g x ∧ bj g r l'
end
theorem bj.length {g : Gh} : ∀ {l : List SV} {vs : List Value}, bj g l vs → vs.length = l.length
 | [], _, h => by cases h; rfl
 | d :: r, _, ⟨x, l', e, _, h⟩ => by subst e; simp [bj.length h]
theorem bj.get {g : Gh} : ∀ {l : List SV} {vs : List Value}, bj g l vs → ∀ {i : Nat} {d : SV}, l[i]? = some d → ∃ x, vs[i]? = some x ∧ d.Den g x
 | [], _, _, i, d, h => by simp at h
 | c :: r, _, ⟨x, l', e, hx, hl⟩, i, d, h => by
  subst e
  cases i with
  | zero => simp at h; subst h; exact ⟨x, by simp, hx⟩
  | succ i => simp at h; simpa using bj.get hl h
theorem bj.take {g : Gh} : ∀ {cs : List SV} {l : List Value}, bj g cs l → ∀ n, bj g (cs.take n) (l.take n)
 | [], _, d, n => by cases d; simp [bj]
 | c :: r, _, ⟨y, l', e, dy, dl⟩, n => by
  subst e
  cases n with
  | zero => simp [bj]
  | succ n => exact ⟨y, l'.take n, by simp, dy, bj.take dl n⟩
theorem bj.drop {g : Gh} : ∀ {cs : List SV} {l : List Value}, bj g cs l → ∀ n, bj g (cs.drop n) (l.drop n)
 | [], _, d, n => by cases d; simp [bj]
 | c :: r, _, ⟨y, l', e, dy, dl⟩, n => by
  subst e
  cases n with
  | zero => exact ⟨y, l', rfl, dy, dl⟩
  | succ n => simpa using bj.drop dl n
theorem bj.append {g : Gh} : ∀ {cs : List SV} {l : List Value}, bj g cs l → ∀ {ds : List SV} {m : List Value}, bj g ds m → bj g (cs ++ ds) (l ++ m)
 | [], _, d, ds, m, dm => by cases d; simpa using dm
 | c :: r, _, ⟨y, l', e, dy, dl⟩, ds, m, dm => by subst e; exact ⟨y, l' ++ m, rfl, dy, bj.append dl dm⟩
theorem bj.Ld {g : Gh} : ∀ {l : List D} {vs : List Value}, dk g.m l vs → bj g (l.map SV.d) vs
 | [], _, h => h
 | d :: r, _, ⟨x, l', e, h1, h2⟩ => ⟨x, l', e, h1, bj.Ld h2⟩
theorem bj.KO {g : Gh} : ∀ (l : List Value), bj g (l.map fun x => SV.d (.v x)) l
 | [] => rfl
 | x :: r => ⟨x, r, rfl, rfl, bj.KO r⟩
structure Gw (g g' : Gh) : Prop where
 m : gg g.m g'.m
 gs : ∀ (i : Nat) p, g.gs[i]? = some p → g'.gs[i]? = some p
theorem Gw.refl (g : Gh) : Gw g g := ⟨gg.refl _, fun _ _ h => h⟩
mutual
theorem SV.Den.mono {g g' : Gh} (h : Gw g g') : ∀ (s : SV) {y : Value}, s.Den g y → s.Den g' y
 | .d x, y, hd => D.Den.mono h.m x hd
 | .bZ i off, y, ⟨b, hb, e⟩ => ⟨b, h.gs _ _ hb, e⟩
 | .agg l, y, ⟨vs, e, hd⟩ => ⟨vs, e, bj.mono h l hd⟩
 | .cb l, y, ⟨vs, e, hd⟩ => ⟨vs, e, bj.mono h l hd⟩
 | .own i k ls, y, ⟨b, cap, hb, e, hc, hd⟩ => ⟨b, cap, h.gs _ _ hb, e, hc, fun hn => by obtain ⟨c, e2, h2⟩ := hd hn; exact ⟨c, e2, dM.mono h.m ls h2⟩⟩
 | .fn f first caps, y, ⟨vs, us, e, h1, h2⟩ => ⟨vs, us, e, bj.mono h first h1, bj.mono h caps h2⟩
 | .tp T s, y, ⟨x, e, hd⟩ => ⟨x, e, SV.Den.mono h s hd⟩
 | .map i, y, ⟨b, hb, e⟩ => ⟨b, h.gs _ _ hb, e⟩
 | .rp i, y, ⟨b, cap, n, hb, e⟩ => ⟨b, cap, n, h.gs _ _ hb, e⟩
 | .arr i n, y, ⟨b, cap, hb, e⟩ => ⟨b, cap, h.gs _ _ hb, e⟩
 | .bp i off, y, ⟨b, cap, n, hb, e⟩ => ⟨b, cap, n, h.gs _ _ hb, e⟩
 | .vT k ls, y, ⟨a, e, hd⟩ => ⟨a, e, fun hn => by obtain ⟨b, off, e2, h2⟩ := hd hn; exact ⟨b, off, e2, dM.mono h.m ls h2⟩⟩
 | .fH, _, _ => trivial
theorem bj.mono {g g' : Gh} (h : Gw g g') : ∀ (l : List SV) {vs : List Value}, bj g l vs → bj g' l vs
 | [], _, hd => hd
 | s :: r, _, ⟨x, l', e, h1, h2⟩ => ⟨x, l', e, SV.Den.mono h s h1, bj.mono h r h2⟩
end
variable {g : Gh} {k : Nat} {y : Value}
theorem IY {ls : List (List D)} (h : (SV.vT k ls).Den g y) : (D.sl k ls).Den g.m y := by
 obtain ⟨a, e, hd⟩ := h
 exact ⟨a, _, e, Nat.le_refl _, hd⟩
theorem uo {i : Nat} {ls : List (List D)} (h : (SV.own i k ls).Den g y) : (D.sl k ls).Den g.m y := by
 obtain ⟨b, cap, hb, e, hc, hd⟩ := h
 exact ⟨_, cap, e, hc, fun hn => by obtain ⟨c, e2, h2⟩ := hd hn; subst e2; exact ⟨c, 0, rfl, h2⟩⟩
mutual
def SV.kill (p : Nat → Bool) : SV → SV
 | .own i k ls => cond (p i) (.d (.sl k ls)) (.own i k ls)
 | .agg l => .agg (ji p l)
 | .cb l => .cb (ji p l)
 | .fn f first caps => .fn f (ji p first) (ji p caps)
 | .tp T s => .tp T (s.kill p)
 | .d x => .d x
 | .bZ i off => .bZ i off
 | .map i => .map i
 | .rp i => cond (p i) .fH (.rp i)
 | .arr i n => cond (p i) .fH (.arr i n)
 | .bp i off => cond (p i) .fH (.bp i off)
 | .vT k ls => .vT k ls
 | .fH => .fH
def ji (p : Nat → Bool) : List SV → List SV
 | [] => []
 | s :: r => s.kill p :: ji p r
end
structure Io (p : Nat → Bool) (g g' : Gh) : Prop where
 m : gg g.m g'.m
 gs : ∀ (i : Nat) q, g.gs[i]? = some q → p i = false → g'.gs[i]? = some q
 at' : ∀ (i b : Nat), g.gs[i]? = some (.loc b) → g'.gs[i]? = some (.loc b)
mutual
theorem SV.Den.kill {p : Nat → Bool} {g g' : Gh} (h : Io p g g') : ∀ (s : SV) {y : Value}, s.Den g y → (s.kill p).Den g' y
 | .d x, y, hd => D.Den.mono h.m x hd
 | .bZ i off, y, ⟨b, hb, e⟩ => ⟨b, h.at' _ _ hb, e⟩
 | .agg l, y, ⟨vs, e, hd⟩ => ⟨vs, e, bj.kill h l hd⟩
 | .cb l, y, ⟨vs, e, hd⟩ => ⟨vs, e, bj.kill h l hd⟩
 | .own i k ls, y, hd => by
  unfold SV.kill
  cases hp : p i with
  | true => exact D.Den.mono h.m _ (uo hd)
  | false =>
   obtain ⟨b, cap, hb, e, hc, hd⟩ := hd
   exact ⟨b, cap, h.gs _ _ hb hp, e, hc, fun hn => by obtain ⟨c, e2, h2⟩ := hd hn; exact ⟨c, e2, dM.mono h.m ls h2⟩⟩
 | .fn f first caps, y, ⟨vs, us, e, h1, h2⟩ => ⟨vs, us, e, bj.kill h first h1, bj.kill h caps h2⟩
 | .tp T s, y, ⟨x, e, hd⟩ => ⟨x, e, SV.Den.kill h s hd⟩
 | .map i, y, ⟨b, hb, e⟩ => ⟨b, h.at' _ _ hb, e⟩
 | .rp i, y, hd => by
  unfold SV.kill
  cases hp : p i with
  | true => trivial
  | false => obtain ⟨b, cap, n, hb, e⟩ := hd; exact ⟨b, cap, n, h.gs _ _ hb hp, e⟩
 | .arr i n, y, hd => by
  unfold SV.kill
  cases hp : p i with
  | true => trivial
  | false => obtain ⟨b, cap, hb, e⟩ := hd; exact ⟨b, cap, h.gs _ _ hb hp, e⟩
 | .bp i off, y, hd => by
  unfold SV.kill
  cases hp : p i with
  | true => trivial
  | false => obtain ⟨b, cap, n, hb, e⟩ := hd; exact ⟨b, cap, n, h.gs _ _ hb hp, e⟩
 | .vT k ls, y, ⟨a, e, hd⟩ => ⟨a, e, fun hn => by obtain ⟨b, off, e2, h2⟩ := hd hn; exact ⟨b, off, e2, dM.mono h.m ls h2⟩⟩
 | .fH, _, _ => trivial
theorem bj.kill {p : Nat → Bool} {g g' : Gh} (h : Io p g g') : ∀ (l : List SV) {vs : List Value}, bj g l vs → bj g' (ji p l) vs
 | [], _, hd => hd
 | s :: r, _, ⟨x, l', e, h1, h2⟩ => ⟨x, l', e, SV.Den.kill h s h1, bj.kill h r h2⟩
end
mutual
def SV.gp : SV → Option D
 | .d x => some x
 | .agg l => (qW l).bind fun l' => some (.agg l')
 | .cb l => (qW l).bind fun l' => some (.cb l')
 | .own _ k ls => some (.sl k ls)
 | .vT k ls => some (.sl k ls)
 | .tp T s => s.gp.bind fun d => some (.tp T d)
 | _ => none
def qW : List SV → Option (List D)
 | [] => some []
 | s :: r => s.gp.bind fun d => (qW r).bind fun l => some (d :: l)
end
mutual
theorem SV.Den.gp {g : Gh} : ∀ (s : SV) {y : Value} {x : D}, s.Den g y → s.gp = some x → x.Den g.m y
 | .d x, y, x', hd, h => by simp [SV.gp] at h; subst h; exact hd
 | .agg l, y, x, ⟨vs, e, hd⟩, h => by
  simp only [SV.gp, Option.bind_eq_some_iff, Option.some.injEq] at h
  obtain ⟨l', hl, rfl⟩ := h
  exact ⟨vs, e, bj.gp l hd hl⟩
 | .cb l, y, x, ⟨vs, e, hd⟩, h => by
  simp only [SV.gp, Option.bind_eq_some_iff, Option.some.injEq] at h
  obtain ⟨l', hl, rfl⟩ := h
  exact ⟨vs, e, bj.gp l hd hl⟩
 | .own i k ls, y, x, hd, h => by simp [SV.gp] at h; subst h; exact uo hd
 | .vT k ls, y, x, hd, h => by simp [SV.gp] at h; subst h; exact IY hd
 | .tp T s, y, x, ⟨z, e, hd⟩, h => by
  simp only [SV.gp, Option.bind_eq_some_iff, Option.some.injEq] at h
  obtain ⟨d, hd', rfl⟩ := h
  exact ⟨z, e, SV.Den.gp s hd hd'⟩
 | .bZ _ _, _, _, _, h => by simp [SV.gp] at h
 | .fn _ _ _, _, _, _, h => by simp [SV.gp] at h
 | .map _, _, _, _, h => by simp [SV.gp] at h
 | .rp _, _, _, _, h => by simp [SV.gp] at h
 | .arr _ _, _, _, _, h => by simp [SV.gp] at h
 | .bp _ _, _, _, _, h => by simp [SV.gp] at h
 | .fH, _, _, _, h => by simp [SV.gp] at h
theorem bj.gp {g : Gh} : ∀ (l : List SV) {vs : List Value} {ds : List D}, bj g l vs → qW l = some ds → dk g.m ds vs
 | [], vs, ds, hd, h => by simp [qW] at h; subst h; exact hd
 | s :: r, vs, ds, ⟨x, l', e, h1, h2⟩, h => by
  simp only [qW, Option.bind_eq_some_iff, Option.some.injEq] at h
  obtain ⟨d, hd, l2, hl2, rfl⟩ := h
  exact ⟨x, l', e, SV.Den.gp s h1 hd, bj.gp r h2 hl2⟩
end
inductive Ob where
 | cells (l : List SV) (ty : TypeId)
 | row (e : TypeId) (k : Nat)
 | bP (e : TypeId) (k : Nat)
 | buf (e : TypeId) (k : Nat) (ls : List (List D)) (q : Option (Option Nat × Nat))
 | fh (f : ByteArray → Option Int)
 | cz (f : ByteArray → Option D)
 | gH (own : Nat → Prop) (ok : Mem → World → Prop)
 | jk (i : Nat) (f : ByteArray → Option Int) (dn : List (ByteArray × Int)) (cur : Option (ByteArray × Int))
 | dead
end Go.Vd
namespace Go.Vd
open Go Go.RowKit Go.MapKept
def xp (w : World) (b : Nat) (M : ByteArray → Option Int) : Prop :=
 ∃ es clock, w.heap[b]? = some (.map es clock) ∧ Stamped es clock ∧ (∀ e ∈ es.toList, ∃ s n, e.key = .string s ∧ e.val = .int .i64 n) ∧
  ∀ s n, M s = some n ↔ ∃ e ∈ es.toList, e.key = .string s ∧ e.val = .int .i64 n
def GC (M : ByteArray → Option Int) (s : ByteArray) (n : Int) : ByteArray → Option Int := fun t => if t = s then some n else M t
theorem xp.lt {w : World} {b : Nat} {M : ByteArray → Option Int} (h : xp w b M) : b < w.heap.size := by
 obtain ⟨es, clock, hb, _⟩ := h
 exact (Array.getElem?_eq_some_iff.1 hb).1
variable {w' : World}
theorem xp.oA {w : World} {b : Nat} {M : ByteArray → Option Int} (h : xp w b M) (k : w'.heap[b]? = w.heap[b]?) : xp w' b M := by
 obtain ⟨es, clock, hb, r⟩ := h
 exact ⟨es, clock, k.trans hb, r⟩
section
variable {P : Program} {w : World} {b : Nat} {M : ByteArray → Option Int} {t k e : TypeId}
theorem Fy {X : Nat → Prop} {w : World} {b : Nat} {o : Obj} (hx : X b) : Fr X w { w with heap := w.heap.setIfInBounds b o } :=
 ⟨rfl, rfl, rfl, by simp, fun c _ hc => by simp [show ¬ b = c from fun e => hc (e ▸ hx)]⟩
def Eo (w : World) (it b : Nat) (M : ByteArray → Option Int) (dn : List (ByteArray × Int)) (k : Nat) : Prop :=
 ∃ es clock seen, w.heap[it]? = some (.mapIter (some b) clock seen clock) ∧ w.heap[b]? = some (.map es clock) ∧ Stamped es clock ∧ (∀ e ∈ es.toList, ∃ s n, e.key = .string s ∧ e.val = .int .i64 n) ∧
  (∀ s n, M s = some n ↔ ∃ e ∈ es.toList, e.key = .string s ∧ e.val = .int .i64 n) ∧ (leftOf es seen).size = k ∧
  ∀ s n, (s, n) ∈ dn ↔ ∃ e ∈ es.toList, e.key = .string s ∧ e.val = .int .i64 n ∧ seen.contains e.born = true
def Lx (w : World) (it b : Nat) (s : ByteArray) (n : Int) : Prop :=
 ∃ (es : Array MapEntry) (clock : Nat) (seen : Array Nat) (e : MapEntry), w.heap[it]? = some (.mapIter (some b) clock (seen.push e.born) clock) ∧ w.heap[b]? = some (.map es clock) ∧ Stamped es clock ∧ e ∈ es.toList ∧ e.key = .string s ∧ e.val = .int .i64 n
variable {it : Nat}
theorem Eo.oA {dn : List (ByteArray × Int)} {k : Nat} (h : Eo w it b M dn k) (h1 : w'.heap[it]? = w.heap[it]?) (h2 : w'.heap[b]? = w.heap[b]?) : Eo w' it b M dn k := by
 obtain ⟨es, clock, seen, a, c, r⟩ := h
 exact ⟨es, clock, seen, h1.trans a, h2.trans c, r⟩
theorem Eo.lt {dn : List (ByteArray × Int)} {k : Nat} (h : Eo w it b M dn k) : it < w.heap.size ∧ b < w.heap.size := by
 obtain ⟨es, clock, seen, a, c, r⟩ := h
 exact ⟨(Array.getElem?_eq_some_iff.1 a).1, (Array.getElem?_eq_some_iff.1 c).1⟩
end
end Go.Vd
namespace Go.Vd
open Go Go.RowKit Go.MapKept
def kI (w : World) (b : Nat) (M : ByteArray → Option Value) : Prop :=
 ∃ es clock, w.heap[b]? = some (.map es clock) ∧ Stamped es clock ∧ (∀ e ∈ es.toList, ∃ s, e.key = .string s) ∧
  ∀ s v, M s = some v ↔ ∃ e ∈ es.toList, e.key = .string s ∧ e.val = v
def Es (M : ByteArray → Option Value) (s : ByteArray) (v : Value) : ByteArray → Option Value := fun t => if t = s then some v else M t
theorem kI.lt {w : World} {b : Nat} {M : ByteArray → Option Value} (h : kI w b M) : b < w.heap.size := by
 obtain ⟨es, clock, hb, _⟩ := h
 exact (Array.getElem?_eq_some_iff.1 hb).1
theorem kI.oA {w w' : World} {b : Nat} {M : ByteArray → Option Value} (h : kI w b M) (k : w'.heap[b]? = w.heap[b]?) : kI w' b M := by
 obtain ⟨es, clock, hb, r⟩ := h
 exact ⟨es, clock, k.trans hb, r⟩
theorem kI.made (w : World) : kI (w.alloc (.map #[] 0)) w.heap.size fun _ => none :=
 ⟨#[], 0, (MapKept.heap_alloc w _).1, stamped_empty 0, by simp, by simp⟩
section
variable {P : Program} {w : World} {b : Nat} {M : ByteArray → Option Value} {t k e : TypeId}
theorem xA {z : Value} (hz : (P.info? e).bind (·.zero) = some z) : (zeroValue e).run P w = .ok z w := by
 cases hi : P.info? e with
 | none => simp [hi] at hz
 | some i =>
  rw [hi] at hz
  simp only [Option.bind_some] at hz
  simp [zeroValue, typeInfo, hi, hz, Result.andThen]
theorem kI.lookup (h : kI w b M) (ht : P.underlying t = some (.map k e)) (hk : P.underlying k = some .string) {z : Value} (hz : (P.info? e).bind (·.zero) = some z) (s : ByteArray) :
 (Instr.lookup t (.map (some b)) (.string s) false).run P w = .ok ((M s).getD z) w := by
 obtain ⟨es, clock, hb, hs, hks, hM⟩ := h
 have hkey : IsKey .string (.string s) := trivial
 have hall : ∀ x ∈ es.toList, IsKey .string x.key := fun x hx => by obtain ⟨s', h1⟩ := hks x hx; rw [h1]; trivial
 rcases findNow_spec hkey es.toList 0 hall with ⟨h1, h2⟩ | ⟨j, e0, h1, h2, h3⟩
 ·have : M s = none := by
   cases hm : M s with
   | none => rfl
   | some n => obtain ⟨x, hx, hxk, _⟩ := (hM s n).1 hm; exact absurd hxk (h2 x hx)
  rw [this]
  simp [Instr.lookup, run_underlying ht, MapKept.run_getObj_map hb, run_checkKey hk hkey, run_findKey hk h1, xA hz, Result.andThen]
 ·have hm := List.mem_of_getElem? h2
  have : M s = some e0.val := (hM s _).2 ⟨e0, hm, h3, rfl⟩
  rw [this]
  simp [Instr.lookup, run_underlying ht, MapKept.run_getObj_map hb, run_checkKey hk hkey, run_findKey hk h1, Result.andThen]
theorem kI.update (h : kI w b M) (ht : P.underlying t = some (.map k e)) (hk : P.underlying k = some .string) (s : ByteArray) (v : Value) :
 ∃ w', (Instr.mapUpdate t (.map (some b)) (.string s) v).run P w = .ok () w' ∧ kI w' b (Es M s v) ∧ Fr (fun c => c = b) w w' := by
 obtain ⟨es, clock, hb, hs, hks, hM⟩ := h
 have hkey : IsKey .string (.string s) := trivial
 have hall : ∀ x ∈ es.toList, IsKey .string x.key := fun x hx => by obtain ⟨s', h1⟩ := hks x hx; rw [h1]; trivial
 rcases findNow_spec hkey es.toList 0 hall with ⟨h1, h2⟩ | ⟨j, e0, h1, h2, h3⟩
 ·refine ⟨{ w with heap := w.heap.setIfInBounds b (.map (es.push { key := .string s, val := v, born := clock }) (clock + 1)) }, ?_, ⟨_, _, (heap_set hb).1, stamped_push hs h2, ?_, ?_⟩, Fy rfl⟩
  ·simp [Instr.mapUpdate, run_underlying ht, MapKept.run_getObj_map hb, run_checkKey hk hkey, run_findKey hk h1, MapKept.run_setObj_map _ hb, Result.andThen]
  ·intro x hx
   simp only [Array.toList_push, List.mem_append, List.mem_singleton] at hx
   rcases hx with hx | rfl
   ·exact hks x hx
   ·exact ⟨s, rfl⟩
  ·intro s' n'
   simp only [Array.toList_push, List.mem_append, List.mem_singleton, Es]
   by_cases he : s' = s
   ·subst he
    rw [if_pos rfl]
    constructor
    ·intro hh; cases hh; exact ⟨_, .inr rfl, rfl, rfl⟩
    ·rintro ⟨x, hx | rfl, hk1, hv1⟩
     ·exact absurd hk1 (h2 x hx)
     ·simp at hv1; rw [hv1]
   ·rw [if_neg he, hM]
    constructor
    ·rintro ⟨x, hx, hr⟩; exact ⟨x, .inl hx, hr⟩
    ·rintro ⟨x, hx | rfl, hk1, hv1⟩
     ·exact ⟨x, hx, hk1, hv1⟩
     ·simp at hk1; exact absurd hk1.symm he
 ·have hj : es[j]? = some e0 := by simpa using h2
  have hkk : ∀ e', es[j]? = some e' → ({ e' with key := .string s, val := v } : MapEntry).key = e'.key := fun e' he' => by rw [hj] at he'; cases he'; exact h3.symm
  have hmm : ∀ x, x ∈ (es.modify j fun e => { e with key := .string s, val := v }).toList ↔ (x ∈ es.toList ∧ x.key ≠ .string s) ∨ x = { e0 with key := .string s, val := v } := by
   intro x
   have hjl : j < es.size := (Array.getElem?_eq_some_iff.1 hj).1
   constructor
   ·intro hx
    obtain ⟨i, hi⟩ := List.mem_iff_getElem?.1 hx
    rw [Array.getElem?_toList, Array.getElem?_modify] at hi
    by_cases hij : j = i
    ·subst hij
     rw [if_pos rfl, hj] at hi
     simp at hi
     exact .inr hi.symm
    ·rw [if_neg hij] at hi
     have hxm : x ∈ es.toList := Array.mem_toList_iff.2 (Array.mem_of_getElem? hi)
     refine .inl ⟨hxm, fun hk1 => hij ?_⟩
     have hnd := hs.2.2
     have e1 : (es.toList.map (·.key))[j]? = some (.string s) := by simp [hj, h3]
     have e2 : (es.toList.map (·.key))[i]? = some (.string s) := by simp [hi, hk1]
     exact (List.getElem?_inj (by simpa using hjl) hnd).1 (e1.trans e2.symm)
   ·rintro (⟨hx, hk1⟩ | rfl)
    ·obtain ⟨i, hi⟩ := List.mem_iff_getElem?.1 hx
     refine List.mem_iff_getElem?.2 ⟨i, ?_⟩
     rw [Array.getElem?_toList, Array.getElem?_modify]
     have hij : ¬ j = i := fun e => by subst e; rw [h2] at hi; cases hi; exact hk1 h3
     rw [if_neg hij]; simpa using hi
    ·refine List.mem_iff_getElem?.2 ⟨j, ?_⟩
     rw [Array.getElem?_toList, Array.getElem?_modify, if_pos rfl, hj]; rfl
  refine ⟨{ w with heap := w.heap.setIfInBounds b (.map (es.modify j fun e => { e with key := .string s, val := v }) clock) }, ?_, ⟨_, _, (heap_set hb).1, stamped_modify hs _ _ (fun _ _ => rfl) (fun e' _ he' => hkk e' he'), ?_, ?_⟩, Fy rfl⟩
  ·simp [Instr.mapUpdate, run_underlying ht, MapKept.run_getObj_map hb, run_checkKey hk hkey, run_findKey hk h1, hj, h3, run_keyThatStays hkey, MapKept.run_setObj_map _ hb, Result.andThen]
  ·intro x hx
   rcases (hmm x).1 hx with ⟨h, _⟩ | rfl
   ·exact hks x h
   ·exact ⟨s, rfl⟩
  ·intro s' n'
   simp only [Es]
   by_cases he : s' = s
   ·subst he
    rw [if_pos rfl]
    constructor
    ·intro hh; cases hh; exact ⟨_, (hmm _).2 (.inr rfl), rfl, rfl⟩
    ·rintro ⟨x, hx, hk1, hv1⟩
     rcases (hmm x).1 hx with ⟨_, h⟩ | rfl
     ·exact absurd hk1 h
     ·simp at hv1; rw [hv1]
   ·rw [if_neg he, hM]
    constructor
    ·rintro ⟨x, hx, hk1, hv1⟩; exact ⟨x, (hmm x).2 (.inl ⟨hx, by rw [hk1]; simpa using he⟩), hk1, hv1⟩
    ·rintro ⟨x, hx, hk1, hv1⟩
     rcases (hmm x).1 hx with ⟨h, _⟩ | rfl
     ·exact ⟨x, h, hk1, hv1⟩
     ·simp at hk1; exact absurd hk1.symm he
end
end Go.Vd
namespace Go.Vd
open Go Go.RowKit
def dA : Ob → Pl → Option Nat
 | .cells _ _, .loc b => some b
 | .fh _, .loc b => some b
 | .cz _, .loc b => some b
 | .jk _ _ _ _, .loc b => some b
 | .row _ _, .row b _ _ => b
 | .buf _ _ _ _, .row b _ _ => b
 | _, _ => none
def cO : Ob → Pl → Nat → Prop
 | .gH own _, _, b => own b
 | o, p, b => dA o p = some b
variable {p : Pl} {b : Nat}
theorem Ds {own : Nat → Prop} {ok : Mem → World → Prop} : cO (.gH own ok) p b ↔ own b := by cases p <;> exact Iff.rfl
variable {o : Ob}
theorem dY (h : dA o p = some b) : cO o p b := by
 cases o <;> first | exact h | (cases p <;> cases h)
theorem y7 {c : Nat} (h : dA o p = some b) (hc : cO o p c) : c = b := by
 cases o <;> first | (have h2 : dA _ p = some c := hc; rw [h] at h2; cases h2; rfl) | (cases p <;> cases h)
theorem GW (hn : ∀ own ok, o ≠ .gH own ok) (h : cO o p b) : dA o p = some b := by
 cases o <;> first | exact h | exact absurd rfl (hn _ _)
def vw (m : Mem) (f : ByteArray → Option D) (M : ByteArray → Option Value) : Prop := ∀ s, match f s with
 | none => M s = none
 | some d => ∃ v, M s = some v ∧ d.Den m v
theorem vw.mono {m m' : Mem} {f : ByteArray → Option D} {M : ByteArray → Option Value} (hm : gg m m') (h : vw m f M) : vw m' f M := fun s => by
 have h1 := h s
 cases hf : f s with
 | none => rw [hf] at h1; exact h1
 | some d => rw [hf] at h1; obtain ⟨v, h2, h3⟩ := h1; exact ⟨v, h2, D.Den.mono hm d h3⟩
def ef (g : Gh) (w : World) : Ob → Pl → Prop
 | .cells l ty, .loc b => ∃ vs, w.heap[b]? = some (.cells ⟨vs⟩ ty (0, 0)) ∧ bj g l vs ∧ ∀ o, g.m b o = none
 | .row e k, .row b cap n => (∃ xs, w.ownsRow 0 e k (.slice (b.map fun c => ⟨c, 0, none⟩) n cap) n xs) ∧ ∀ c, b = some c → ∀ o, n * k ≤ o → g.m c o = none
 | .bP _ _, p => p = .row none 0 0
 | .buf e k ls q, .row b cap n => n = ls.length ∧ (∀ x ∈ ls, x.length = k) ∧ (∃ xs, w.ownsRow 0 e k (.slice (b.map fun c => ⟨c, 0, none⟩) n cap) n xs ∧ dk g.m ls.flatten xs ∧ ∀ u ∈ xs, u.oneCell' = true) ∧ (∀ c, b = some c → ∀ o, g.m c o = none) ∧ ∀ r, q = some r → r = (b, cap)
 | .fh f, .loc b => xp w b f ∧ ∀ o, g.m b o = none
 | .cz f, .loc b => (∃ M, kI w b M ∧ vw g.m f M) ∧ ∀ o, g.m b o = none
 | .gH own ok, _ => ok g.m w ∧ (∀ b, own b → b < w.heap.size) ∧ ∀ m m' w w', gg m m' → (∀ b, own b → w'.heap[b]? = w.heap[b]?) → (∀ b, own b → ∀ i, m b i = none → m' b i = none) → ok m w → ok m' w'
 | .jk i f dn cur, .loc b => ∃ c, g.gs[i]? = some (.loc c) ∧ (∃ k, Eo w b c f dn k) ∧ (∀ s n, cur = some (s, n) → Lx w b c s n) ∧ ∀ o, g.m b o = none
 | .dead, _ => True
 | _, _ => False
def JN (g : Gh) (o : Ob) (p : Pl) (b : Nat) : Prop := cO o p b ∨ ∃ i f dn cur, o = .jk i f dn cur ∧ g.gs[i]? = some (.loc b)
structure cH (GL : Nat → List D) (ob : List Ob) (g : Gh) (w : World) : Prop where
 len : ob.length = g.gs.length
 gM : ∀ (i : Nat) o p, ob[i]? = some o → g.gs[i]? = some p → ef g w o p
 dQ : ∀ (j i : Nat) f dn cur, ob[j]? = some (.jk i f dn cur) → ob[i]? = some (.fh f)
 oI : ∀ (i j : Nat) oi oj pi pj b, ob[i]? = some oi → ob[j]? = some oj → g.gs[i]? = some pi → g.gs[j]? = some pj → cO oi pi b → cO oj pj b → i = j
 sat : ∀ b o x, g.m b o = some x → w.cell? ⟨b, o, none⟩ = some x ∧ x.oneCell' = true
 Fx : ∀ b, ej g.m b 0 (GL b)
variable {GL : Nat → List D} {ob : List Ob} {g : Gh} {w : World}
theorem cH.place (h : cH GL ob g w) {i : Nat} (hi : ob[i]? = some o) : ∃ p, g.gs[i]? = some p := by
 have h1 := (List.getElem?_eq_some_iff.1 hi).1
 rw [h.len] at h1
 exact ⟨_, List.getElem?_eq_getElem h1⟩
def gX (g g' : Gh) : Ob → Ob → Prop
 | .cells l ty, .cells l' ty' => ty = ty' ∧ ∀ vs, bj g l vs → bj g' l' vs
 | .bP e k, .row e' k' => e = e' ∧ k = k'
 | .dead, .dead => True
 | _, .dead => True
 | .row e k, .row e' k' => e = e' ∧ k = k'
 | .bP e k, .bP e' k' => e = e' ∧ k = k'
 | .buf e k ls q, .buf e' k' ls' q' => e = e' ∧ k = k' ∧ ls = ls' ∧ q = q' ∧ ∀ vs, dk g.m ls.flatten vs → dk g'.m ls.flatten vs
 | .fh f, .fh f' => f = f'
 | .cz f, .cz f' => f = f' ∧ gg g.m g'.m
 | .gH o k, .gH o' k' => o = o' ∧ k = k' ∧ gg g.m g'.m
 | .jk i f dn cur, .jk i' f' dn' cur' => i = i' ∧ f = f' ∧ dn = dn' ∧ (cur = cur' ∨ cur' = none)
 | _, _ => False
variable {g' : Gh}
theorem gX.bZ {o' : Ob} (h : gX g g' o o') (hb : cO o' p b) (hk : ∀ w, ef g w o p → True) : cO o p b ∨ ∃ e k, o = .bP e k := by
 cases o <;> cases o' <;> cases p <;> simp_all [gX, cO, dA]
theorem ef.lt {g : Gh} {w : World} {o : Ob} {p : Pl} {b : Nat} (h : ef g w o p) (hb : cO o p b) : b < w.heap.size := by
 by_cases hp : ∃ own ok, o = .gH own ok
 ·obtain ⟨own, ok, rfl⟩ := hp
  cases p <;> exact h.2.1 b hb
 have hb := GW (fun own ok e => hp ⟨own, ok, e⟩) hb
 cases o <;> cases p <;> simp only [dA, Option.some.injEq, reduceCtorEq] at hb
 case cz.loc => subst hb; obtain ⟨⟨M, h1, _⟩, _⟩ := h; exact h1.lt
 case cells.loc => subst hb; obtain ⟨vs, h, _⟩ := h; exact (Array.getElem?_eq_some_iff.1 h).1
 case fh.loc => subst hb; exact h.1.lt
 case jk.loc => subst hb; obtain ⟨c, _, ⟨k, h⟩, _⟩ := h; exact h.lt.1
 case row.row => subst hb; obtain ⟨⟨xs, h⟩, _⟩ := h; exact (h.lt b rfl).2
 case buf.row => subst hb; obtain ⟨_, _, ⟨xs, h, _⟩, _⟩ := h; exact (h.lt b rfl).2
theorem ef.oA {g g' : Gh} {w w' : World} {o o' : Ob} {p : Pl} (hle : gX g g' o o') (hat : ∀ (i b : Nat), g.gs[i]? = some (.loc b) → g'.gs[i]? = some (.loc b))
 (hb : ∀ b, JN g o p b → w'.heap[b]? = w.heap[b]?) (hm : ∀ b, cO o p b → ∀ i, g.m b i = none → g'.m b i = none) (h : ef g w o p) : ef g' w' o' p := by
 cases o <;> cases o' <;> simp only [gX] at hle <;> try (first | exact hle.elim | trivial)
 case gH.gH o k o' k' =>
  obtain ⟨rfl, rfl, hmm⟩ := hle
  have h2 : k g.m w ∧ (∀ b, o b → b < w.heap.size) ∧ ∀ m m' w w', gg m m' → (∀ b, o b → w'.heap[b]? = w.heap[b]?) → (∀ b, o b → ∀ i, m b i = none → m' b i = none) → k m w → k m' w' := by cases p <;> exact h
  have h3 : k g'.m w' ∧ (∀ b, o b → b < w'.heap.size) ∧ ∀ m m' w w', gg m m' → (∀ b, o b → w'.heap[b]? = w.heap[b]?) → (∀ b, o b → ∀ i, m b i = none → m' b i = none) → k m w → k m' w' := ⟨h2.2.2 _ _ _ _ hmm (fun b hb' => hb b (.inl hb')) (fun b hb' => hm b hb') h2.1, fun b hb' => by
   have h4 := hb b (.inl hb')
   have h6 := h2.2.1 b hb'
   have h5 : w.heap[b]? = some w.heap[b] := Array.getElem?_eq_getElem h6
   rw [h5] at h4
   exact (Array.getElem?_eq_some_iff.1 h4).1, h2.2.2⟩
  cases p <;> exact h3
 case cz.cz f f' =>
  cases p with
  | loc b =>
   obtain ⟨rfl, hmm⟩ := hle
   obtain ⟨⟨M, h1, h2⟩, h3⟩ := h
   exact ⟨⟨M, h1.oA (hb b (.inl rfl)), h2.mono hmm⟩, fun i => hm b rfl i (h3 i)⟩
  | row b c n => exact h.elim
 case cells.cells l ty l' ty' =>
  cases p with
  | loc b =>
   obtain ⟨rfl, hl⟩ := hle
   obtain ⟨vs, h1, h2, h3⟩ := h
   exact ⟨vs, (hb b (.inl rfl)).trans h1, hl vs h2, fun i => hm b rfl i (h3 i)⟩
  | row b c n => exact h.elim
 case row.row e k e' k' =>
  cases p with
  | loc b => exact h.elim
  | row b c n =>
   obtain ⟨rfl, rfl⟩ := hle
   obtain ⟨⟨xs, h1⟩, h2⟩ := h
   refine ⟨⟨xs, h1.1, ?_⟩, fun c hc o ho => hm c hc o (h2 c hc o ho)⟩
   rcases h1.2 with h3 | ⟨g0, cap, cur, e1, h3, h4, h5⟩
   ·exact .inl h3
   ·refine .inr ⟨g0, cap, cur, e1, h3, ?_, h5⟩
    rw [hb g0 (.inl ?_)]; exact h4
    cases b with
    | none => simp at e1
    | some b => simp at e1; simp [cO, dA, e1.1]
 case buf.buf e k ls q e' k' ls' q' =>
  cases p with
  | loc b => exact h.elim
  | row b c n =>
   obtain ⟨rfl, rfl, rfl, rfl, hd⟩ := hle
   obtain ⟨h0, h1, ⟨xs, h2, h3, h4⟩, h5, h9⟩ := h
   refine ⟨h0, h1, ⟨xs, ⟨h2.1, ?_⟩, hd _ h3, h4⟩, fun c hc o => hm c hc o (h5 c hc o), h9⟩
   rcases h2.2 with h6 | ⟨g0, cap, cur, e1, h6, h7, h8⟩
   ·exact .inl h6
   ·refine .inr ⟨g0, cap, cur, e1, h6, ?_, h8⟩
    rw [hb g0 (.inl ?_)]; exact h7
    cases b with
    | none => simp at e1
    | some b => simp at e1; simp [cO, dA, e1.1]
 case bP.row e k e' k' =>
  obtain ⟨rfl, rfl⟩ := hle
  simp only [ef] at h
  subst h
  exact ⟨⟨[], by simp, .inl ⟨rfl, rfl⟩⟩, fun c hc => by cases hc⟩
 case fh.fh f f' =>
  cases p with
  | loc b => subst hle; exact ⟨h.1.oA (hb b (.inl rfl)), fun i => hm b rfl i (h.2 i)⟩
  | row b c n => exact h.elim
 case jk.jk i f dn cur i' f' dn' cur' =>
  cases p with
  | loc b =>
   obtain ⟨rfl, rfl, rfl, hcur⟩ := hle
   obtain ⟨c, h1, ⟨k, h2⟩, h3, h4⟩ := h
   have hc := hb c (.inr ⟨_, _, _, _, rfl, h1⟩)
   have hb' := hb b (.inl rfl)
   refine ⟨c, hat _ _ h1, ⟨k, h2.oA hb' hc⟩, fun s n e => ?_, fun i => hm b rfl i (h4 i)⟩
   rcases hcur with rfl | rfl
   ·obtain ⟨es, clock, seen, en, a1, a2, r⟩ := h3 s n e
    exact ⟨es, clock, seen, en, hb'.trans a1, hc.trans a2, r⟩
   ·cases e
  | row b c n => exact h.elim
theorem cH.step {ob' : List Ob} {w' : World} (h : cH GL ob g w) (p : Nat → Prop) (hmm : gg g.m g'.m) (hat : ∀ (i b : Nat), g.gs[i]? = some (.loc b) → g'.gs[i]? = some (.loc b))
 (hpl : ∀ (i : Nat) q, ¬ p i → g.gs[i]? = some q → g'.gs[i]? = some q)
 (hsat : ∀ b o x, g'.m b o = some x → w'.cell? ⟨b, o, none⟩ = some x ∧ x.oneCell' = true) (hlen : ob'.length = g'.gs.length)
 (hsame : ∀ (j : Nat) o', ¬ p j → ob'[j]? = some o' → ∃ o, ob[j]? = some o ∧ gX g g' o o')
 (hits : ∀ (j i : Nat) f dn cur, ob'[j]? = some (.jk i f dn cur) → ob'[i]? = some (.fh f))
 (hitp : ∀ (j i : Nat) f dn cur, ¬ p j → ob'[j]? = some (.jk i f dn cur) → ¬ p i)
 (hkeep : ∀ (j : Nat) o q b, ¬ p j → ob[j]? = some o → g.gs[j]? = some q → cO o q b → w'.heap[b]? = w.heap[b]? ∧ ∀ i, g.m b i = none → g'.m b i = none)
 (htou : ∀ (j : Nat) o', p j → ob'[j]? = some o' → ∃ q', g'.gs[j]? = some q' ∧ ef g' w' o' q')
 (hblo : ∀ (j : Nat) o' q' b, p j → ob'[j]? = some o' → g'.gs[j]? = some q' → cO o' q' b → (∃ i o q, p i ∧ ob[i]? = some o ∧ g.gs[i]? = some q ∧ cO o q b) ∨ w.heap.size ≤ b)
 (hdis : ∀ (i j : Nat) oi oj pi pj b, p i → p j → ob'[i]? = some oi → ob'[j]? = some oj → g'.gs[i]? = some pi → g'.gs[j]? = some pj → cO oi pi b → cO oj pj b → i = j) :
 cH GL ob' g' w' := by
 have old : ∀ (j : Nat) o' q' b, ¬ p j → ob'[j]? = some o' → g'.gs[j]? = some q' → cO o' q' b → ∃ o, ob[j]? = some o ∧ gX g g' o o' ∧ g.gs[j]? = some q' ∧ cO o q' b := by
  intro j o' q' b hp ho' hq' hb
  obtain ⟨o, ho, hle⟩ := hsame j o' hp ho'
  obtain ⟨q, hq⟩ := h.place ho
  have hqq := hpl j q hp hq
  rw [hq'] at hqq; cases hqq
  have hok := h.gM j o q' ho hq
  refine ⟨o, ho, hle, hq, ?_⟩
  rcases hle.bZ hb (fun _ _ => trivial) with h1 | ⟨e, k, rfl⟩
  ·exact h1
  ·simp only [ef] at hok; subst hok
   cases o' <;> first | exact False.elim hle | (simp [cO, dA] at hb)
 refine ⟨hlen, fun j o' q' ho' hq' => ?_, hits, fun i j oi oj pi pj b h1 h2 h3 h4 h5 h6 => ?_, hsat, fun b => ej.mono hmm _ (h.Fx b)⟩
 ·by_cases hp : p j
  ·obtain ⟨q, hq, hok⟩ := htou j o' hp ho'
   rw [hq'] at hq; cases hq; exact hok
  ·obtain ⟨o, ho, hle⟩ := hsame j o' hp ho'
   obtain ⟨q, hq⟩ := h.place ho
   have hqq := hpl j q hp hq
   rw [hq'] at hqq; cases hqq
   by_cases hdead : o' = .dead
   ·subst hdead; cases q' <;> trivial
   refine (h.gM j o q' ho hq).oA hle hat (fun b hb => ?_) (fun b hb => (hkeep j o q' b hp ho hq hb).2)
   rcases hb with hb | ⟨i, f, dn, cur, rfl, hi⟩
   ·exact (hkeep j o q' b hp ho hq hb).1
   ·have hm := h.dQ j i f dn cur ho
    cases o' <;> simp only [gX] at hle <;> try (exact hle.elim)
    case dead => exact absurd rfl hdead
    obtain ⟨rfl, rfl, rfl, _⟩ := hle
    exact (hkeep i _ _ b (hitp j _ _ _ _ hp ho') hm hi rfl).1
 ·by_cases hpi : p i
  ·by_cases hpj : p j
   ·exact hdis i j oi oj pi pj b hpi hpj h1 h2 h3 h4 h5 h6
   ·obtain ⟨o, ho, _, hq, hb⟩ := old j oj pj b hpj h2 h4 h6
    rcases hblo i oi pi b hpi h1 h3 h5 with ⟨k, ok, qk, hpk, hok, hqk, hbk⟩ | hge
    ·have := h.oI k j ok o qk pj b hok ho hqk hq hbk hb
     subst this; exact absurd hpk hpj
    ·have := (h.gM j o pj ho hq).lt hb; omega
  ·obtain ⟨o, ho, _, hq, hb⟩ := old i oi pi b hpi h1 h3 h5
   by_cases hpj : p j
   ·rcases hblo j oj pj b hpj h2 h4 h6 with ⟨k, ok, qk, hpk, hok, hqk, hbk⟩ | hge
    ·have := h.oI k i ok o qk pi b hok ho hqk hq hbk hb
     subst this; exact absurd hpk hpi
    ·have := (h.gM i o pi ho hq).lt hb; omega
   ·obtain ⟨o2, ho2, _, hq2, hb2⟩ := old j oj pj b hpj h2 h4 h6
    exact h.oI i j o o2 pi pj b ho ho2 hq hq2 hb hb2
structure St where
 n : Nat
 sl : List (Nat × SV)
 ob : List Ob
def nf (t : Nat) : List (Nat × SV) → SV
 | [] => .fH
 | (k, s) :: r => cond (Nat.beq k t) s (nf t r)
def Ke (GL : Nat → List D) (sl : List (Nat × SV)) : Operand → SV
 | .tmp t => nf t sl
 | .const v => .d (.v v)
 | .global b => .d (.cp (GL b))
 | .func f => .d (.v (.func (.func f) #[] #[]))
structure Bs where
 g : Gh
 w : World
 X : Nat → Prop
 n0 : Nat
 df : List Deferred
structure C6 (B : Bs) (ob : List Ob) (g : Gh) (w : World) : Prop where
 fr : Fr B.X B.w w
 mem : gg B.g.m g.m
 new : ∀ b o x, g.m b o = some x → B.g.m b o = none → B.X b ∨ B.w.heap.size ≤ b
 own : ∀ (i : Nat) o p b, ob[i]? = some o → g.gs[i]? = some p → cO o p b → B.X b ∨ B.w.heap.size ≤ b
 at' : ∀ (i b : Nat), i < B.n0 → B.g.gs[i]? = some (.loc b) → g.gs[i]? = some (.loc b)
structure cT (GL : Nat → List D) (B : Bs) (σ : St) (g : Gh) (a : Act) (w : World) : Prop where
 defers : a.defers = B.df
 size : a.tmps.size = σ.n
 di : ∀ t, (nf t σ.sl).Den g (a.tmps.getD t undef)
 store : cH GL σ.ob g w
 iR : C6 B σ.ob g w
def Rel (GL : Nat → List D) (B : Bs) (σ : St) (a : Act) (w : World) : Prop := ∃ g, cT GL B σ g a w
variable {B : Bs} {σ : St} {a : Act}
theorem cT.ev (h : cT GL B σ g a w) (x : Operand) : (Ke GL σ.sl x).Den g (a.eval x) := by
 cases x with
 | tmp t => exact h.di t
 | const v => rfl
 | global b => exact ⟨b, 0, rfl, h.store.Fx b⟩
 | func f => rfl
theorem fe (t k : Nat) (s : SV) (r : List (Nat × SV)) : nf t ((k, s) :: r) = if k = t then s else nf t r := by
 show cond (Nat.beq k t) s (nf t r) = _
 by_cases h : k = t
 ·subst h; simp
 ·have : Nat.beq k t = false := by rw [← Bool.not_eq_true, Nat.beq_eq]; exact h
  rw [this, if_neg h]; rfl
theorem cT.put {GL : Nat → List D} {B : Bs} {σ : St} {g : Gh} {a : Act} {w : World} (h : cT GL B σ g a w) {t : Nat} (ht : Nat.blt t σ.n = true) {s : SV} {x : Value} (hx : s.Den g x) : cT GL B ⟨σ.n, (t, s) :: σ.sl, σ.ob⟩ g (a.put (some t) x) w := by
 have hn : t < σ.n := by simpa [Nat.blt_eq] using ht
 refine ⟨h.defers, by simp [Act.put, h.size], fun u => ?_, h.store, h.iR⟩
 show (nf u ((t, s) :: σ.sl)).Den g ((a.tmps.setIfInBounds t x).getD u undef)
 rw [fe]
 by_cases htu : t = u
 ·subst htu
  rw [if_pos rfl]
  have : (a.tmps.setIfInBounds t x).getD t undef = x := by
   have hs : t < a.tmps.size := by rw [h.size]; exact hn
   simp [hs]
  rw [this]; exact hx
 ·rw [if_neg htu]
  have : (a.tmps.setIfInBounds t x).getD u undef = a.tmps.getD u undef := by
   simp only [Array.getD_eq_getD_getElem?]
   rw [Array.getElem?_setIfInBounds_ne htu]
  rw [this]; exact h.di u
theorem cT.known (h : cT GL B σ g a w) {t : Nat} {s : SV} (hx : s.Den g (a.tmps.getD t undef)) : cT GL B ⟨σ.n, (t, s) :: σ.sl, σ.ob⟩ g a w := by
 refine ⟨h.defers, h.size, fun u => ?_, h.store, h.iR⟩
 show (nf u ((t, s) :: σ.sl)).Den g _
 rw [fe]
 split
 ·rename_i e; subst e; exact hx
 ·exact h.di u
end Go.Vd
namespace Go.Vd
open Go Go.RowKit
inductive Sh where
 | int (k : IntKind) | bool | str | slice | ptr | map | any
structure TI where
 ok : Bool
 size : Nat
 agg : Bool
 jX : List (Nat × Nat × Bool)
 IZ : Bool
 zero : List Value
 Gq : Bool
 elem : TypeId
 cb : Option (List TypeId)
 sh : List Sh
def Iy (P : Program) : Nat → TypeId → List Sh
 | 0, _ => []
 | n + 1, T => match P.underlying T with
  | some (.int k) => [.int k]
  | some .bool => [.bool]
  | some .string => [.str]
  | some (.slice _) => [.slice]
  | some (.pointer _) => [.ptr]
  | some (.map _ _) => [.map]
  | some (.struct fs) => fs.toList.flatMap fun f => Iy P n f.type
  | some (.array k e) => (List.replicate k (Iy P n e)).flatten
  | some _ => [.any]
  | none => []
def pX : Option TypeDesc → Bool
 | some (.struct _) => true
 | some (.array _ _) => true
 | _ => false
def bc (P : Program) (T : TypeId) : TI where
 ok := (P.info? T).isSome && (P.underlying T).isSome
 size := ((P.info? T).map (·.size)).getD 0
 agg := pX (P.underlying T)
 jX := match P.underlying T with
  | some (.struct fs) => fs.toList.map fun f => (f.offset, ((P.info? f.type).map (·.size)).getD 0, pX (P.underlying f.type))
  | _ => []
 IZ := match P.underlying T with
  | some (.struct fs) => fs.toList.all fun f => (P.info? f.type).isSome
  | _ => false
 zero := (((P.info? T).bind (·.zero)).map (·.cells.toList)).getD []
 Gq := ((P.info? T).bind (·.zero)).isSome
 elem := match P.underlying T with
  | some (.slice e) => e
  | some (.pointer e) => e
  | some (.array _ e) => e
  | _ => 0
 cb := match P.underlying T with
  | some (.tuple ts) => some ts.toList
  | _ => none
 sh := Iy P 6 T
section
variable {P : Program}
variable {T : TypeId}
theorem rS (h : (bc P T).ok = true) : ∃ i d, P.info? T = some i ∧ P.underlying T = some d ∧ (bc P T).size = i.size ∧ (bc P T).agg = pX (some d) := by
 simp only [bc, Bool.and_eq_true, Option.isSome_iff_exists] at h
 obtain ⟨⟨i, hi⟩, d, hd⟩ := h
 exact ⟨i, d, hi, hd, by simp [bc, hi], by simp [bc, hd]⟩
theorem Dl {d : TypeDesc} (h : P.underlying T = some d) (w : World) : (isAgg T).run P w = .ok (pX (some d)) w := by
 cases d <;> simp [isAgg, run_underlying h, pX]
theorem Value.xj {x : Value} (h : x.oneCell' = true) : x.cells = #[x] := by cases x <;> simp_all [Value.cells, Value.oneCell']
theorem eS (b off i : Nat) : (⟨b, off, none⟩ : Addr).add i = ⟨b, off + i, none⟩ := by
 unfold Addr.add; split
 ·subst_vars; rfl
 ·rfl
theorem gF (hT : (bc P T).ok = true) {w : World} {b off : Nat} {xs : List Value} (hl : xs.length = (bc P T).size)
 (h : ∀ j x, xs[j]? = some x → w.cell? ⟨b, off + j, none⟩ = some x) (h1 : (bc P T).agg = false → ∃ x, xs = [x]) :
 (loadVar T ⟨b, off, none⟩).run P w = .ok (if (bc P T).agg then .agg ⟨xs⟩ else xs.headD undef) w := by
 obtain ⟨i, d, hi, hd, hs, ha⟩ := rS hT
 have hag := Dl hd w
 rw [← ha] at hag
 cases hag2 : (bc P T).agg with
 | true =>
  rw [hag2] at hag
  have hload := run_loadCells_list (P := P) w ⟨b, off, none⟩ xs (fun j x hj => by rw [eS]; exact h j x hj)
  rw [hl, hs] at hload
  simp [loadVar, hag, sizeOf, typeInfo, hi, hload]
 | false =>
  rw [hag2] at hag
  obtain ⟨x, rfl⟩ := h1 hag2
  have h0 := h 0 x rfl
  simp at h0
  simp [loadVar, hag, h0]
end
end Go.Vd
namespace Go.Vd
open Go Go.RowKit
def CH (Hc : List (Addr × Value)) (w : World) : Prop := ∀ p ∈ Hc, w.cell? p.1 = some p.2
def JA (g : Gh) (L : List Nat) (Hc : List (Addr × Value)) : Prop :=
 ∀ p ∈ Hc, p.1.spot = none ∧ (g.m p.1.block p.1.off = some p.2 ∨ ∃ i b, i ∈ L ∧ g.gs[i]? = some (.loc b) ∧ p.1.block = b)
def gw (t : Nat) : List (Nat × SV) → Option SV
 | [] => none
 | (k, s) :: r => cond (Nat.beq k t) (some s) (gw t r)
theorem fI {t : Nat} {s : SV} : ∀ {l : List (Nat × SV)}, gw t l = some s → nf t l = s
 | [], h => by cases h
 | (k, x) :: r, h => by
  change cond (Nat.beq k t) (some x) (gw t r) = some s at h
  show cond (Nat.beq k t) x (nf t r) = s
  cases hb : Nat.beq k t with
  | true => rw [hb] at h; simpa using h
  | false => rw [hb] at h; exact fI h
def bJ (GL : Nat → List D) (sl : List (Nat × SV)) : Operand → Option SV
 | .tmp t => gw t sl
 | .const v => some (.d (.v v))
 | .global b => some (.d (.cp (GL b)))
 | .func f => some (.d (.v (.func (.func f) #[] #[])))
theorem Hk {GL : Nat → List D} {sl : List (Nat × SV)} {x : Operand} {s : SV} (h : bJ GL sl x = some s) : Ke GL sl x = s := by
 cases x with
 | tmp t => exact fI h
 | const v => simpa [bJ, Ke] using h
 | global b => simpa [bJ, Ke] using h
 | func f => simpa [bJ, Ke] using h
section
variable {P : Program} {GL : Nat → List D}
theorem cT.fo {B : Bs} {σ : St} {g : Gh} {a : Act} {w : World} (h : cT GL B σ g a w) {x : Operand} {s : SV} (hx : bJ GL σ.sl x = some s) : s.Den g (a.eval x) := by
 have := h.ev x; rwa [Hk hx] at this
def aj (P : Program) (GL : Nat → List D) (o : Oper) (σ : St) (K : SV → List Nat → Prop) : Prop :=
 ∀ B g a w, cT GL B σ g a w → ∃ Hc s y L, (∀ w', CH Hc w' → (execOp a.eval o).run P w' = .ok (.value y) w') ∧ CH Hc w ∧ JA g L Hc ∧ s.Den g y ∧ K s L
variable {o : Oper} {σ : St} {K : SV → List Nat → Prop}
theorem eF (h : ∀ B g a w, cT GL B σ g a w → ∃ s y, (∀ w', (execOp a.eval o).run P w' = .ok (.value y) w') ∧ s.Den g y ∧ K s []) : aj P GL o σ K := fun B g a w hr => by
 obtain ⟨s, y, h1, h2, h3⟩ := h B g a w hr
 exact ⟨[], s, y, [], fun w' _ => h1 w', (fun p hp => by cases hp), (fun p hp => by cases hp), h2, h3⟩
theorem Hf {x : Operand} {s : SV} (ho : o.op = .move x) (hx : bJ GL σ.sl x = some s) (hK : K s []) : aj P GL o σ K := eF fun B g a w hr => ⟨s, a.eval x, fun w' => by simp [execOp, ho], hr.fo hx, hK⟩
theorem mv {x : Operand} {s : SV} (hK : K s []) (ho : o.op = .move x := by exact rfl) (hx : bJ GL σ.sl x = some s := by exact rfl) : aj P GL o σ K := Hf ho hx hK
theorem DN {x : Operand} {s : SV} (ho : o.op = .assign x) (hx : bJ GL σ.sl x = some s) (hK : K s []) : aj P GL o σ K := eF fun B g a w hr => ⟨s, a.eval x, fun w' => by simp [execOp, ho], hr.fo hx, hK⟩
theorem Mc {x : Operand} {s : SV} (hK : K s []) (ho : o.op = .assign x := by exact rfl) (hx : bJ GL σ.sl x = some s := by exact rfl) : aj P GL o σ K := DN ho hx hK
variable {c : Operand}
theorem mr {x y : Operand} {s : SV} (ho : o.op = .pick c x y) (hc : bJ GL σ.sl c = some (.d (.v (.bool true)))) (hx : bJ GL σ.sl x = some s) (hK : K s []) : aj P GL o σ K := eF fun B g a w hr => by
 have h1 : a.eval c = .bool true := hr.fo hc
 exact ⟨s, a.eval x, fun w' => by simp [execOp, ho, h1, asBool], hr.fo hx, hK⟩
theorem u5 {x y : Operand} {s : SV} (hK : K s []) (ho : o.op = .pick c x y := by exact rfl) (hc : bJ GL σ.sl c = some (.d (.v (.bool true))) := by exact rfl) (hx : bJ GL σ.sl x = some s := by exact rfl) : aj P GL o σ K := mr ho hc hx hK
theorem my {x y : Operand} {s : SV} (ho : o.op = .pick c x y) (hc : bJ GL σ.sl c = some (.d (.v (.bool false)))) (hy : bJ GL σ.sl y = some s) (hK : K s []) : aj P GL o σ K := eF fun B g a w hr => by
 have h1 : a.eval c = .bool false := hr.fo hc
 exact ⟨s, a.eval y, fun w' => by simp [execOp, ho, h1, asBool], hr.fo hy, hK⟩
theorem qG {x y : Operand} {s : SV} (hK : K s []) (ho : o.op = .pick c x y := by exact rfl) (hc : bJ GL σ.sl c = some (.d (.v (.bool false))) := by exact rfl) (hy : bJ GL σ.sl y = some s := by exact rfl) : aj P GL o σ K := my ho hc hy hK
variable {i off : Nat}
theorem Bv {x : Operand} (ho : o.op = .nilCheck x) (hx : bJ GL σ.sl x = some (.bZ i off)) (hK : K (.bZ i off) []) : aj P GL o σ K := eF fun B g a w hr => by
 have h1 := hr.fo hx
 obtain ⟨b, hb, e⟩ := h1
 exact ⟨.bZ i off, a.eval x, fun w' => by simp only [execOp, ho, e]; rfl, ⟨b, hb, e⟩, hK⟩
theorem LU {x : Operand} (hK : K (.bZ i off) []) (ho : o.op = .nilCheck x := by exact rfl) (hx : bJ GL σ.sl x = some (.bZ i off) := by exact rfl) : aj P GL o σ K := Bv ho hx hK
variable {l : List D}
theorem DM {x : Operand} (ho : o.op = .nilCheck x) (hx : bJ GL σ.sl x = some (.d (.cp l))) (hK : K (.d (.cp l)) []) : aj P GL o σ K := eF fun B g a w hr => by
 have h1 := hr.fo hx
 obtain ⟨b, off, e, hl⟩ := h1
 exact ⟨.d (.cp l), a.eval x, fun w' => by simp only [execOp, ho, e]; rfl, ⟨b, off, e, hl⟩, hK⟩
theorem LS {x : Operand} (hK : K (.d (.cp l)) []) (ho : o.op = .nilCheck x := by exact rfl) (hx : bJ GL σ.sl x = some (.d (.cp l)) := by exact rfl) : aj P GL o σ K := DM ho hx hK
theorem toList_inj {a b : ByteArray} (h : a.toList = b.toList) : a = b := by
 rw [ByteArray.toList_eq, ByteArray.toList_eq] at h
 have := Array.toList_inj.1 h
 cases a; cases b; simp_all
theorem Co (a b : ByteArray) : (a.toList == b.toList) = decide (a = b) := by
 rw [Bool.eq_iff_iff]; simp only [beq_iff_eq, decide_eq_true_eq]
 exact ⟨toList_inj, fun h => by rw [h]⟩
variable {op : BinOp}
theorem fq {T : TypeId} {x y : Operand} {a b : Value} (ha : a.oneCell' = true) (hn : ¬ (a = .nilIface ∧ b = .nilIface)) (w : World) :
 (eqGuard op T x y a b).run P w = .ok () w := by
 unfold eqGuard
 cases a <;> cases b <;> first
  | (exfalso; exact hn ⟨rfl, rfl⟩)
  | (exfalso; simp [Value.oneCell'] at ha; done)
  | (cases op <;> rfl)
theorem fY {T T' : TypeId} {x y : Operand} {va vb r : Value} (ho : o.op = .binOp op T x y T') (hx : bJ GL σ.sl x = some (.d (.v va))) (hy : bJ GL σ.sl y = some (.d (.v vb))) (ha : va.oneCell' = true) (hn : ¬ (va = .nilIface ∧ vb = .nilIface))
 (hrun : ∀ w, (binOp op T va vb).run P w = .ok r w) (hK : K (.d (.v r)) []) : aj P GL o σ K := eF fun B g a w hr => by
 have h1 : a.eval x = va := hr.fo hx
 have h2 : a.eval y = vb := hr.fo hy
 exact ⟨.d (.v r), r, fun w' => by simp only [execOp, ho, h1, h2, Sem.run_bind, fq ha hn, hrun, Result.andThen_ok]; rfl, rfl, hK⟩
section
variable {T T' : TypeId} {x y : Operand} {k : IntKind} {m n : Int}
theorem Je (ho : o.op = .binOp .lss T x y T') (hx : bJ GL σ.sl x = some (.d (.v (.int k m)))) (hy : bJ GL σ.sl y = some (.d (.v (.int k n)))) (hK : K (.d (.v (.bool (decide (m < n))))) []) : aj P GL o σ K :=
 fY ho hx hy rfl (by simp) (fun w => by simp [binOp, Op.intCmp]) hK
theorem L0  (hK : K (.d (.v (.bool (decide (m < n))))) []) (ho : o.op = .binOp .lss T x y T' := by exact rfl) (hx : bJ GL σ.sl x = some (.d (.v (.int k m))) := by exact rfl) (hy : bJ GL σ.sl y = some (.d (.v (.int k n))) := by exact rfl) : aj P GL o σ K := Je ho hx hy hK
theorem Jf (ho : o.op = .binOp .leq T x y T') (hx : bJ GL σ.sl x = some (.d (.v (.int k m)))) (hy : bJ GL σ.sl y = some (.d (.v (.int k n)))) (hK : K (.d (.v (.bool (decide (m ≤ n))))) []) : aj P GL o σ K :=
 fY ho hx hy rfl (by simp) (fun w => by simp [binOp, Op.intCmp]) hK
theorem L3  (hK : K (.d (.v (.bool (decide (m ≤ n))))) []) (ho : o.op = .binOp .leq T x y T' := by exact rfl) (hx : bJ GL σ.sl x = some (.d (.v (.int k m))) := by exact rfl) (hy : bJ GL σ.sl y = some (.d (.v (.int k n))) := by exact rfl) : aj P GL o σ K := Jf ho hx hy hK
theorem Jh (ho : o.op = .binOp .gtr T x y T') (hx : bJ GL σ.sl x = some (.d (.v (.int k m)))) (hy : bJ GL σ.sl y = some (.d (.v (.int k n)))) (hK : K (.d (.v (.bool (decide (n < m))))) []) : aj P GL o σ K :=
 fY ho hx hy rfl (by simp) (fun w => by simp [binOp, Op.intCmp]) hK
theorem L4  (hK : K (.d (.v (.bool (decide (n < m))))) []) (ho : o.op = .binOp .gtr T x y T' := by exact rfl) (hx : bJ GL σ.sl x = some (.d (.v (.int k m))) := by exact rfl) (hy : bJ GL σ.sl y = some (.d (.v (.int k n))) := by exact rfl) : aj P GL o σ K := Jh ho hx hy hK
theorem Ji (ho : o.op = .binOp .geq T x y T') (hx : bJ GL σ.sl x = some (.d (.v (.int k m)))) (hy : bJ GL σ.sl y = some (.d (.v (.int k n)))) (hK : K (.d (.v (.bool (decide (n ≤ m))))) []) : aj P GL o σ K :=
 fY ho hx hy rfl (by simp) (fun w => by simp [binOp, Op.intCmp]) hK
theorem L5  (hK : K (.d (.v (.bool (decide (n ≤ m))))) []) (ho : o.op = .binOp .geq T x y T' := by exact rfl) (hx : bJ GL σ.sl x = some (.d (.v (.int k m))) := by exact rfl) (hy : bJ GL σ.sl y = some (.d (.v (.int k n))) := by exact rfl) : aj P GL o σ K := Ji ho hx hy hK
theorem Jj (ho : o.op = .binOp .eql T x y T') (hx : bJ GL σ.sl x = some (.d (.v (.int k m)))) (hy : bJ GL σ.sl y = some (.d (.v (.int k n)))) (hK : K (.d (.v (.bool (decide (m = n))))) []) : aj P GL o σ K :=
 fY ho hx hy rfl (by simp) (fun w => by simp [binOp, Op.intCmp]; by_cases h : m = n <;> simp [h]) hK
theorem L6  (hK : K (.d (.v (.bool (decide (m = n))))) []) (ho : o.op = .binOp .eql T x y T' := by exact rfl) (hx : bJ GL σ.sl x = some (.d (.v (.int k m))) := by exact rfl) (hy : bJ GL σ.sl y = some (.d (.v (.int k n))) := by exact rfl) : aj P GL o σ K := Jj ho hx hy hK
theorem Jc (ho : o.op = .binOp .neq T x y T') (hx : bJ GL σ.sl x = some (.d (.v (.int k m)))) (hy : bJ GL σ.sl y = some (.d (.v (.int k n)))) (hK : K (.d (.v (.bool (!decide (m = n))))) []) : aj P GL o σ K :=
 fY ho hx hy rfl (by simp) (fun w => by simp [binOp, Op.intCmp, bne]; by_cases h : m = n <;> simp [h]) hK
theorem LZ  (hK : K (.d (.v (.bool (!decide (m = n))))) []) (ho : o.op = .binOp .neq T x y T' := by exact rfl) (hx : bJ GL σ.sl x = some (.d (.v (.int k m))) := by exact rfl) (hy : bJ GL σ.sl y = some (.d (.v (.int k n))) := by exact rfl) : aj P GL o σ K := Jc ho hx hy hK
theorem Ce {x : Int} (h1 : -9223372036854775808 ≤ x) (h2 : x ≤ 9223372036854775807) : IntKind.i64.wrap x = x := by
 have := IntWalk.i64_in x
 exact this (by omega)
theorem Jk (ho : o.op = .binOp .add T x y T') (hx : bJ GL σ.sl x = some (.d (.v (.int .i64 m)))) (hy : bJ GL σ.sl y = some (.d (.v (.int .i64 n)))) (hb : -9223372036854775808 ≤ m + n ∧ m + n ≤ 9223372036854775807) (hK : K (.d (.v (.int .i64 (m + n)))) []) : aj P GL o σ K :=
 fY ho hx hy rfl (by simp) (fun w => by simp [binOp, Op.intArith, Ce hb.1 hb.2]) hK
theorem cw  (hK : K (.d (.v (.int .i64 (m + n)))) []) (ho : o.op = .binOp .add T x y T' := by exact rfl) (hx : bJ GL σ.sl x = some (.d (.v (.int .i64 m))) := by exact rfl) (hy : bJ GL σ.sl y = some (.d (.v (.int .i64 n))) := by exact rfl) (hb : -9223372036854775808 ≤ m + n ∧ m + n ≤ 9223372036854775807 := by omega) : aj P GL o σ K := Jk ho hx hy hb hK
theorem I0 (ho : o.op = .binOp .sub T x y T') (hx : bJ GL σ.sl x = some (.d (.v (.int .i64 m)))) (hy : bJ GL σ.sl y = some (.d (.v (.int .i64 n)))) (hb : -9223372036854775808 ≤ m - n ∧ m - n ≤ 9223372036854775807) (hK : K (.d (.v (.int .i64 (m - n)))) []) : aj P GL o σ K :=
 fY ho hx hy rfl (by simp) (fun w => by simp [binOp, Op.intArith, Ce hb.1 hb.2]) hK
theorem nT  (hK : K (.d (.v (.int .i64 (m - n)))) []) (ho : o.op = .binOp .sub T x y T' := by exact rfl) (hx : bJ GL σ.sl x = some (.d (.v (.int .i64 m))) := by exact rfl) (hy : bJ GL σ.sl y = some (.d (.v (.int .i64 n))) := by exact rfl) (hb : -9223372036854775808 ≤ m - n ∧ m - n ≤ 9223372036854775807 := by omega) : aj P GL o σ K := I0 ho hx hy hb hK
theorem uZ (ho : o.op = .binOp .mul T x y T') (hx : bJ GL σ.sl x = some (.d (.v (.int .i64 m)))) (hy : bJ GL σ.sl y = some (.d (.v (.int .i64 n)))) (hb : -9223372036854775808 ≤ m * n ∧ m * n ≤ 9223372036854775807) (hK : K (.d (.v (.int .i64 (m * n)))) []) : aj P GL o σ K :=
 fY ho hx hy rfl (by simp) (fun w => by simp [binOp, Op.intArith, Ce hb.1 hb.2]) hK
theorem Ja (ho : o.op = .binOp .rem T x y T') (hx : bJ GL σ.sl x = some (.d (.v (.int .i64 m)))) (hy : bJ GL σ.sl y = some (.d (.v (.int .i64 n)))) (hb : 0 ≤ m ∧ 0 < n) (hK : K (.d (.v (.int .i64 (m % n)))) []) : aj P GL o σ K :=
 fY ho hx hy rfl (by simp) (fun w => by
  have h1 : m.tmod n = m % n := Int.tmod_eq_emod_of_nonneg hb.1
  have h2 : ¬ n = 0 := by omega
  simp only [binOp, Op.intDiv, if_neg h2, h1]; rfl) hK
theorem FN  (hK : K (.d (.v (.int .i64 (m % n)))) []) (ho : o.op = .binOp .rem T x y T' := by exact rfl) (hx : bJ GL σ.sl x = some (.d (.v (.int .i64 m))) := by exact rfl) (hy : bJ GL σ.sl y = some (.d (.v (.int .i64 n))) := by exact rfl) (hb : 0 ≤ m ∧ 0 < n := by omega) : aj P GL o σ K := Ja ho hx hy hb hK
theorem Br (ho : o.op = .binOp .quo T x y T') (hx : bJ GL σ.sl x = some (.d (.v (.int .i64 m)))) (hy : bJ GL σ.sl y = some (.d (.v (.int .i64 n)))) (hb : 0 ≤ m ∧ 0 < n ∧ m ≤ 9223372036854775807) (hK : K (.d (.v (.int .i64 (m / n)))) []) : aj P GL o σ K :=
 fY ho hx hy rfl (by simp) (fun w => by
  have h1 : m.tdiv n = m / n := Int.tdiv_eq_ediv_of_nonneg hb.1
  have h2 : ¬ n = 0 := by omega
  have h5 : 0 ≤ m / n := Int.ediv_nonneg hb.1 (by omega)
  have h6 : m / n ≤ m := Int.ediv_le_self _ hb.1
  have h4 : IntKind.i64.wrap (m / n) = m / n := by generalize m / n = q at h5 h6 ⊢; exact Ce (by omega) (by omega)
  simp only [binOp, Op.intDiv, if_neg h2, h1, h4]; rfl) hK
end
section
variable {T T' : TypeId} {x y : Operand} {s t : ByteArray}
theorem Hb (ho : o.op = .binOp .eql T x y T') (hx : bJ GL σ.sl x = some (.d (.v (.string s)))) (hy : bJ GL σ.sl y = some (.d (.v (.string t)))) (hK : K (.d (.v (.bool (decide (s = t))))) []) : aj P GL o σ K :=
 fY ho hx hy rfl (by simp) (fun w => by simp only [binOp, Op.stringOp, Co]; rfl) hK
theorem seq1  (hK : K (.d (.v (.bool (decide (s = t))))) []) (ho : o.op = .binOp .eql T x y T' := by exact rfl) (hx : bJ GL σ.sl x = some (.d (.v (.string s))) := by exact rfl) (hy : bJ GL σ.sl y = some (.d (.v (.string t))) := by exact rfl) : aj P GL o σ K := Hb ho hx hy hK
theorem Ha (ho : o.op = .binOp .neq T x y T') (hx : bJ GL σ.sl x = some (.d (.v (.string s)))) (hy : bJ GL σ.sl y = some (.d (.v (.string t)))) (hK : K (.d (.v (.bool (!decide (s = t))))) []) : aj P GL o σ K :=
 fY ho hx hy rfl (by simp) (fun w => by simp only [binOp, Op.stringOp, Co]; rfl) hK
theorem K7  (hK : K (.d (.v (.bool (!decide (s = t))))) []) (ho : o.op = .binOp .neq T x y T' := by exact rfl) (hx : bJ GL σ.sl x = some (.d (.v (.string s))) := by exact rfl) (hy : bJ GL σ.sl y = some (.d (.v (.string t))) := by exact rfl) : aj P GL o σ K := Ha ho hx hy hK
theorem He (ho : o.op = .binOp .add T x y T') (hx : bJ GL σ.sl x = some (.d (.v (.string s)))) (hy : bJ GL σ.sl y = some (.d (.v (.string t)))) (hb : ((s.size + t.size : Nat) : Int) ≤ 9223372036854775807) (hK : K (.d (.v (.string (s ++ t)))) []) : aj P GL o σ K :=
 fY ho hx hy rfl (by simp) (fun w => by
  have h2 : ¬ (((s.size + t.size : Nat) : Int) > IntKind.i64.max) := by show ¬ (9223372036854775807 < ((s.size + t.size : Nat) : Int)); omega
  simp only [binOp, Op.stringOp, h2, if_false]
  rfl) hK
theorem pY  (hK : K (.d (.v (.string (s ++ t)))) []) (ho : o.op = .binOp .add T x y T' := by exact rfl) (hx : bJ GL σ.sl x = some (.d (.v (.string s))) := by exact rfl) (hy : bJ GL σ.sl y = some (.d (.v (.string t))) := by exact rfl) (hb : ((s.size + t.size : Nat) : Int) ≤ 9223372036854775807 := by omega) : aj P GL o σ K := He ho hx hy hb hK
end
variable {b : Bool}
theorem Jb {T : TypeId} {x : Operand} (ho : o.op = .unOp .not T x) (hx : bJ GL σ.sl x = some (.d (.v (.bool b)))) (hK : K (.d (.v (.bool (!b)))) []) : aj P GL o σ K := eF fun B g a w hr => by
 have h1 : a.eval x = .bool b := hr.fo hx
 exact ⟨.d (.v (.bool (!b))), _, fun w' => by simp only [execOp, ho, h1, Op.unary]; rfl, rfl, hK⟩
theorem Kc {T : TypeId} {x : Operand} (hK : K (.d (.v (.bool (!b)))) []) (ho : o.op = .unOp .not T x := by exact rfl) (hx : bJ GL σ.sl x = some (.d (.v (.bool b))) := by exact rfl) : aj P GL o σ K := Jb ho hx hK
theorem CP {s d : TypeId} {x : Operand} {k k' : IntKind} {n : Int} (hd : P.underlying d = some (.int k')) (hs : (P.underlying s).isSome = true) (ho : o.op = .convert s d x) (hx : bJ GL σ.sl x = some (.d (.v (.int k n)))) (hK : K (.d (.v (.int k' (k'.wrap n)))) []) : aj P GL o σ K := eF fun B g a w hr => by
 have h1 : a.eval x = .int k n := hr.fo hx
 obtain ⟨ds, hds⟩ := Option.isSome_iff_exists.1 hs
 exact ⟨.d (.v (.int k' (k'.wrap n))), .int k' (k'.wrap n), fun w' => by simp [execOp, ho, h1, convert, run_underlying hds, run_underlying hd, Conv.intToInt], rfl, hK⟩
variable {f sz : Nat} {ag : Bool}
theorem FA {T : TypeId} {o : Nat} (h : (bc P T).jX[f]? = some (o, sz, ag)) : ∃ fs fd, P.underlying T = some (.struct fs) ∧ fs[f]? = some fd ∧ fd.offset = o ∧
 ((P.info? fd.type).map (·.size)).getD 0 = sz ∧ pX (P.underlying fd.type) = ag := by
 unfold bc at h
 simp only at h
 split at h
 ·rename_i fs hfs
  rw [List.getElem?_map] at h
  cases hf : fs.toList[f]? with
  | none => rw [hf] at h; cases h
  | some fd =>
   rw [hf] at h
   simp only [Option.map_some, Option.some.injEq, Prod.mk.injEq] at h
   exact ⟨fs, fd, hfs, by simpa using hf, h.1, h.2.1, h.2.2⟩
 ·simp at h
theorem si {T : TypeId} {o : Nat} (h : (bc P T).jX[f]? = some (o, sz, ag)) (hsz : sz ≠ 0) (b off : Nat) (w : World) :
 (Instr.fieldAt T (.pointer (some ⟨b, off, none⟩)) f).run P w = .ok (.pointer (some ⟨b, off + o, none⟩)) w := by
 obtain ⟨fs, fd, hu, hfd, rfl, hs, _⟩ := FA h
 have hsize : ∃ i, P.info? fd.type = some i ∧ i.size ≠ 0 := by
  cases hi : P.info? fd.type with
  | none => rw [hi] at hs; simp at hs; exact absurd hs.symm hsz
  | some i => rw [hi] at hs; simp at hs; exact ⟨i, rfl, by omega⟩
 obtain ⟨i, hi, hi0⟩ := hsize
 simp [Instr.fieldAt, run_underlying hu, hfd, Instr.sureAddr, fieldPlace, sizeOf, typeInfo, hi, hi0, eS]
def fW {α : Type} : Nat → List α → Option (List α)
 | 0, l => some l
 | n + 1, [] => none
 | n + 1, _ :: r => fW n r
theorem jT {α : Type} : ∀ {n : Nat} {l r : List α}, fW n l = some r → l.drop n = r ∧ n ≤ l.length
 | 0, l, r, h => by simp [fW] at h; subst h; simp
 | n + 1, [], r, h => by cases h
 | n + 1, x :: l, r, h => by have := jT (n := n) (l := l) h; exact ⟨by simpa using this.1, by simp; exact this.2⟩
def lH {α : Type} : Nat → List α → Option (List α)
 | 0, _ => some []
 | n + 1, [] => none
 | n + 1, x :: r => (lH n r).bind fun l => some (x :: l)
theorem qd {α : Type} : ∀ {n : Nat} {l r : List α}, lH n l = some r → l.take n = r ∧ n ≤ l.length
 | 0, l, r, h => by simp [lH] at h; subst h; simp
 | n + 1, [], r, h => by cases h
 | n + 1, x :: l, r, h => by
  simp only [lH, Option.bind_eq_some_iff, Option.some.injEq] at h
  obtain ⟨r', h1, rfl⟩ := h
  have := qd (n := n) (l := l) h1
  exact ⟨by simpa using this.1, by simp; exact this.2⟩
variable {ti : TI} {o1 : Nat}
theorem yc {T : TypeId} {x : Operand} (hT : bc P T = ti) {r : List (Nat × Nat × Bool)} (hf : fW f ti.jX = some ((o1, sz, ag) :: r)) (hsz : Nat.beq sz 0 = false) (ho : o.op = .fieldAddr T x f) (hx : bJ GL σ.sl x = some (.bZ i off)) (hK : K (.bZ i (off + o1)) []) : aj P GL o σ K := eF fun B g a w hr => by
 have hf2 : (bc P T).jX[f]? = some (o1, sz, ag) := by
  have := jT hf
  rw [hT]
  have h2 := congrArg List.head? this.1
  simpa using h2
 obtain ⟨b, hb, h1⟩ := hr.fo hx
 exact ⟨.bZ i (off + o1), _, fun w' => by simp only [execOp, ho, h1, Sem.run_bind, si hf2 (by intro h; rw [h] at hsz; cases hsz), Result.andThen_ok]; rfl, ⟨b, hb, rfl⟩, hK⟩
theorem Kb {T : TypeId} {x : Operand} {r : List (Nat × Nat × Bool)} (hT : bc P T = ti) (hK : K (.bZ i (off + o1)) []) (ho : o.op = .fieldAddr T x f := by exact rfl) (hx : bJ GL σ.sl x = some (.bZ i off) := by exact rfl) (hf : fW f ti.jX = some ((o1, sz, ag) :: r) := by exact rfl) (hsz : Nat.beq sz 0 = false := by exact rfl) : aj P GL o σ K := yc hT hf hsz ho hx hK
variable {l' : List D}
theorem zV {T : TypeId} {x : Operand} (hT : bc P T = ti) {r : List (Nat × Nat × Bool)} (hf : fW f ti.jX = some ((o1, sz, ag) :: r)) (hsz : Nat.beq sz 0 = false) (ho : o.op = .fieldAddr T x f) (hx : bJ GL σ.sl x = some (.d (.cp l))) (hl : fW o1 l = some l') (hK : K (.d (.cp l')) []) : aj P GL o σ K := eF fun B g a w hr => by
 have hf2 : (bc P T).jX[f]? = some (o1, sz, ag) := by
  have := jT hf
  rw [hT]
  have h2 := congrArg List.head? this.1
  simpa using h2
 obtain ⟨b, off, h1, hd⟩ := hr.fo hx
 refine ⟨.d (.cp l'), _, fun w' => by simp only [execOp, ho, h1, Sem.run_bind, si hf2 (by intro h; rw [h] at hsz; cases hsz), Result.andThen_ok]; rfl, ⟨b, off + o1, rfl, ?_⟩, hK⟩
 rw [← (jT hl).1]; exact hd.drop _
theorem KR {T : TypeId} {x : Operand} {r : List (Nat × Nat × Bool)} (hT : bc P T = ti) (hK : K (.d (.cp l')) []) (ho : o.op = .fieldAddr T x f := by exact rfl) (hx : bJ GL σ.sl x = some (.d (.cp l)) := by exact rfl) (hf : fW f ti.jX = some ((o1, sz, ag) :: r) := by exact rfl) (hsz : Nat.beq sz 0 = false := by exact rfl) (hl : fW o1 l = some l' := by exact rfl) : aj P GL o σ K := zV hT hf hsz ho hx hl hK
variable {j : Int} {kd : IntKind} {e : List D}
theorem sS {T : TypeId} {x i : Operand} {k : Nat} {ls : List (List D)} (hu : P.underlying T = some (.slice (bc P T).elem)) (hT : bc P (bc P T).elem = ti) (hok : ti.ok = true) (hs : ti.size = k) (ho : o.op = .indexAddr T x i)
 (hx : bJ GL σ.sl x = some (.d (.sl k ls)) ∨ ∃ i, bJ GL σ.sl x = some (.own i k ls)) (hi : bJ GL σ.sl i = some (.d (.v (.int kd j)))) (h0 : 0 ≤ j) (he : ls[j.toNat]? = some e) (hK : K (.d (.cp e)) []) : aj P GL o σ K := eF fun B g a w hr => by
 have hxx : (D.sl k ls).Den g.m (a.eval x) := by
  rcases hx with hx | ⟨i, hx⟩
  ·exact hr.fo hx
  ·exact uo (hr.fo hx)
 obtain ⟨ad, cap, h1, hc, hd⟩ := hxx
 have hj := (List.getElem?_eq_some_iff.1 he).1
 obtain ⟨b, off, rfl, hd2⟩ := hd (by intro h; subst h; simp at he)
 have h2 : a.eval i = .int kd j := hr.fo hi
 rw [← hT] at hok
 obtain ⟨inf, d, hi', hd', hs', _⟩ := rS hok
 refine ⟨.d (.cp e), .pointer (some ⟨b, off + j.toNat * k, none⟩), fun w' => ?_, ⟨b, _, rfl, (hd2.get he).2⟩, hK⟩
 have h3 : j < (ls.length : Int) := by omega
 rw [hT, hs] at hs'
 simp [execOp, ho, h1, h2, Instr.indexAt, run_underlying hu, asIntOf, h0, h3, sizeOf, typeInfo, hi', ← hs', eS]
theorem FD {T : TypeId} {x i : Operand} {k : Nat} {ls : List (List D)} (hu : P.underlying T = some (.slice (bc P T).elem)) (hT : bc P (bc P T).elem = ti) (hok : ti.ok = true) (hs : ti.size = k) (ho : o.op = .indexAddr T x i) (hx : bJ GL σ.sl x = some (.d (.sl k ls))) (hi : bJ GL σ.sl i = some (.d (.v (.int kd j)))) (h0 : 0 ≤ j) (he : ls[j.toNat]? = some e) (hK : K (.d (.cp e)) []) : aj P GL o σ K :=
 sS hu hT hok hs ho (.inl hx) hi h0 he hK
theorem bV {T : TypeId} {x i : Operand} {k : Nat} {ls : List (List D)} (hu : P.underlying T = some (.slice (bc P T).elem)) (hT : bc P (bc P T).elem = ti) (hK : K (.d (.cp e)) []) (ho : o.op = .indexAddr T x i := by exact rfl) (hx : bJ GL σ.sl x = some (.d (.sl k ls)) := by exact rfl) (hi : bJ GL σ.sl i = some (.d (.v (.int kd j))) := by exact rfl) (hok : ti.ok = true := by exact rfl) (hs : ti.size = k := by exact rfl) (h0 : 0 ≤ j := by omega) (he : ls[j.toNat]? = some e := by omega) : aj P GL o σ K := FD hu hT hok hs ho hx hi h0 he hK
theorem yb {T : TypeId} {x i : Operand} {k n : Nat} {ls : List (List D)} (hu : P.underlying T = some (.slice (bc P T).elem)) (hT : bc P (bc P T).elem = ti) (hok : ti.ok = true) (hs : ti.size = k) (ho : o.op = .indexAddr T x i) (hx : bJ GL σ.sl x = some (.own n k ls)) (hi : bJ GL σ.sl i = some (.d (.v (.int kd j)))) (h0 : 0 ≤ j) (he : ls[j.toNat]? = some e) (hK : K (.d (.cp e)) []) : aj P GL o σ K :=
 sS hu hT hok hs ho (.inr ⟨n, hx⟩) hi h0 he hK
theorem wU {T : TypeId} {x i : Operand} {k n : Nat} {ls : List (List D)} (hu : P.underlying T = some (.slice (bc P T).elem)) (hT : bc P (bc P T).elem = ti) (hK : K (.d (.cp e)) []) (ho : o.op = .indexAddr T x i := by exact rfl) (hx : bJ GL σ.sl x = some (.own n k ls) := by exact rfl) (hi : bJ GL σ.sl i = some (.d (.v (.int kd j))) := by exact rfl) (hok : ti.ok = true := by exact rfl) (hs : ti.size = k := by exact rfl) (h0 : 0 ≤ j := by omega) (he : ls[j.toNat]? = some e := by omega) : aj P GL o σ K := yb hu hT hok hs ho hx hi h0 he hK
def aZ (s : ByteArray) (i : Nat) : Int := (s.data.getD i 0).toNat
theorem Hg {T : TypeId} {x i : Operand} {s : ByteArray} (hu : P.underlying T = some .string) (ho : o.op = .index T x i) (hx : bJ GL σ.sl x = some (.d (.v (.string s)))) (hi : bJ GL σ.sl i = some (.d (.v (.int kd j)))) (h01 : 0 ≤ j ∧ j < s.size) (hK : K (.d (.v (.int .u8 (aZ s j.toNat)))) []) : aj P GL o σ K := eF fun B g a w hr => by
 obtain ⟨h0, h1⟩ := h01
 have h2 : a.eval x = .string s := hr.fo hx
 have h3 : a.eval i = .int kd j := hr.fo hi
 refine ⟨.d (.v (.int .u8 (aZ s j.toNat))), .int .u8 (aZ s j.toNat), fun w' => ?_, rfl, hK⟩
 have hd : j.toNat < s.data.size := by have : s.data.size = s.size := rfl; omega
 simp only [execOp, ho, h2, h3, Sem.run_bind, run_index_string w' T s kd j hu, dif_pos (And.intro h0 h1), Result.andThen_ok, aZ, Array.getD, hd, dite_true]
 rfl
theorem BT {T : TypeId} {x i : Operand} {s : ByteArray} (hu : P.underlying T = some .string) (hK : K (.d (.v (.int .u8 (aZ s j.toNat)))) []) (ho : o.op = .index T x i := by exact rfl) (hx : bJ GL σ.sl x = some (.d (.v (.string s))) := by exact rfl) (hi : bJ GL σ.sl i = some (.d (.v (.int kd j))) := by exact rfl) (h01 : 0 ≤ j ∧ j < s.size := by omega) : aj P GL o σ K := Hg hu ho hx hi h01 hK
theorem jv {i : Int} {y : Nat} {c : BoundsCode} (h0 : 0 ≤ i) (h1 : i ≤ y) (w : World) : (Instr.sliceBound (.int kd i) y c).run P w = .ok i.toNat w := by
 simp [Instr.sliceBound, asIntOf, h0, h1]
variable {lo hi : Operand} {h : Int} {k1 k2 : IntKind}
theorem DL {T : TypeId} {x : Operand} {s : ByteArray} {l : Int} (hu : P.underlying T = some .string) (ho : o.op = .slice T x (some lo) (some hi) none) (hx : bJ GL σ.sl x = some (.d (.v (.string s)))) (hl : bJ GL σ.sl lo = some (.d (.v (.int k1 l)))) (hh : bJ GL σ.sl hi = some (.d (.v (.int k2 h)))) (hb : 0 ≤ l ∧ l ≤ h ∧ h ≤ s.size)
 (hK : K (.d (.v (.string (s.extract l.toNat h.toNat)))) []) : aj P GL o σ K := eF fun B g a w hr => by
 obtain ⟨h0, h1, h2⟩ := hb
 have e1 : a.eval x = .string s := hr.fo hx
 have e2 : a.eval lo = .int k1 l := hr.fo hl
 have e3 : a.eval hi = .int k2 h := hr.fo hh
 refine ⟨.d (.v (.string (s.extract l.toNat h.toNat))), _, fun w' => ?_, rfl, hK⟩
 simp [execOp, ho, e1, e2, e3, Instr.sliceAt, Instr.slice, run_underlying hu, Instr.sliceBounds, jv (P := P) (i := _) (y := _) (by omega : (0:Int) ≤ _) h2]
 rw [jv (by omega) (by omega)]
 simp
theorem oG {T : TypeId} {x : Operand} {s : ByteArray} {l : Int} (hu : P.underlying T = some .string) (hK : K (.d (.v (.string (s.extract l.toNat h.toNat)))) []) (ho : o.op = .slice T x (some lo) (some hi) none := by exact rfl) (hx : bJ GL σ.sl x = some (.d (.v (.string s))) := by exact rfl) (hl : bJ GL σ.sl lo = some (.d (.v (.int k1 l))) := by exact rfl) (hh : bJ GL σ.sl hi = some (.d (.v (.int k2 h))) := by exact rfl) (hb : 0 ≤ l ∧ l ≤ h ∧ h ≤ s.size := by omega) : aj P GL o σ K := DL hu ho hx hl hh hb hK
theorem FB {T : TypeId} {x : Operand} {s : ByteArray} {l : Int} (hu : P.underlying T = some .string) (ho : o.op = .slice T x (some lo) none none) (hx : bJ GL σ.sl x = some (.d (.v (.string s)))) (hl : bJ GL σ.sl lo = some (.d (.v (.int k1 l)))) (hb : 0 ≤ l ∧ l ≤ s.size)
 (hK : K (.d (.v (.string (s.extract l.toNat s.size)))) []) : aj P GL o σ K := eF fun B g a w hr => by
 obtain ⟨h0, h1⟩ := hb
 have e1 : a.eval x = .string s := hr.fo hx
 have e2 : a.eval lo = .int k1 l := hr.fo hl
 refine ⟨.d (.v (.string (s.extract l.toNat s.size))), _, fun w' => ?_, rfl, hK⟩
 simp [execOp, ho, e1, e2, Instr.sliceAt, Instr.slice, run_underlying hu, Instr.sliceBounds]
 rw [jv (by omega) (by omega)]
 simp
def cC {α : Type} : Nat → List α → Option α
 | _, [] => none
 | 0, x :: _ => some x
 | n + 1, _ :: r => cC n r
theorem bL {α : Type} : ∀ {n : Nat} {l : List α} {x : α}, cC n l = some x → l[n]? = some x
 | 0, [], _, h => by cases h
 | _ + 1, [], _, h => by cases h
 | 0, y :: l, x, h => by simpa [cC] using h
 | n + 1, y :: l, x, h => by simpa using bL (n := n) (l := l) h
theorem Bz {x : Operand} {l : List SV} {s : SV} (ho : o.op = .extract x i) (hx : bJ GL σ.sl x = some (.cb l)) (hi : cC i l = some s) (hK : K s []) : aj P GL o σ K := eF fun B g a w hr => by
 obtain ⟨vs, h1, hd⟩ := hr.fo hx
 obtain ⟨y, hy, hdy⟩ := hd.get (bL hi)
 exact ⟨s, y, fun w' => by simp [execOp, ho, h1, Instr.extract, hy], hdy, hK⟩
theorem Lg {x : Operand} {l : List SV} {s : SV} (hK : K s []) (ho : o.op = .extract x i := by exact rfl) (hx : bJ GL σ.sl x = some (.cb l) := by exact rfl) (hi : cC i l = some s := by exact rfl) : aj P GL o σ K := Bz ho hx hi hK
theorem yd {x : Operand} {s : D} (ho : o.op = .extract x i) (hx : bJ GL σ.sl x = some (.d (.cb l))) (hi : cC i l = some s) (hK : K (.d s) []) : aj P GL o σ K := eF fun B g a w hr => by
 obtain ⟨vs, h1, hd⟩ := hr.fo hx
 obtain ⟨y, hy, hdy⟩ := hd.get (bL hi)
 exact ⟨.d s, y, fun w' => by simp [execOp, ho, h1, Instr.extract, hy], hdy, hK⟩
theorem KT {x : Operand} {s : D} (hK : K (.d s) []) (ho : o.op = .extract x i := by exact rfl) (hx : bJ GL σ.sl x = some (.d (.cb l)) := by exact rfl) (hi : cC i l = some s := by exact rfl) : aj P GL o σ K := yd ho hx hi hK
theorem wX {T : TypeId} {x : Operand} {k : Nat} {ls : List (List D)} {ty : Array TypeId} (hu : P.underlying T = some (.slice (bc P T).elem)) (ho : o.op = .call { callee := .builtin .len, args := #[x], argTypes := #[T] })
 (hx : bJ GL σ.sl x = some (.d (.sl k ls)) ∨ ∃ i, bJ GL σ.sl x = some (.own i k ls)) (hK : K (.d (.v (.int .i64 ls.length))) []) : aj P GL o σ K := eF fun B g a w hr => by
 have hxx : (D.sl k ls).Den g.m (a.eval x) := by
  rcases hx with hx | ⟨i, hx⟩
  ·exact hr.fo hx
  ·exact uo (hr.fo hx)
 obtain ⟨ad, cap, h1, hc, hd⟩ := hxx
 exact ⟨.d (.v (.int .i64 ls.length)), .int .i64 ls.length, fun w' => by simp [execOp, ho, h1, resolve, invoke, builtin, Builtin.len_, run_underlying hu, goInt], rfl, hK⟩
theorem Jg {T : TypeId} {x : Operand} {k : Nat} {ls : List (List D)} (hu : P.underlying T = some (.slice (bc P T).elem)) (ho : o.op = .call { callee := .builtin .len, args := #[x], argTypes := #[T] })
 (hx : bJ GL σ.sl x = some (.d (.sl k ls))) (hK : K (.d (.v (.int .i64 ls.length))) []) : aj P GL o σ K := wX (ty := #[]) hu ho (.inl hx) hK
theorem LY {T : TypeId} {x : Operand} {k : Nat} {ls : List (List D)} (hu : P.underlying T = some (.slice (bc P T).elem)) (hK : K (.d (.v (.int .i64 ls.length))) []) (ho : o.op = .call { callee := .builtin .len, args := #[x], argTypes := #[T] } := by exact rfl) (hx : bJ GL σ.sl x = some (.d (.sl k ls)) := by exact rfl) : aj P GL o σ K := Jg hu ho hx hK
theorem Bx {T : TypeId} {x : Operand} {k : Nat} {ls : List (List D)} (hu : P.underlying T = some (.slice (bc P T).elem)) (ho : o.op = .call { callee := .builtin .len, args := #[x], argTypes := #[T] })
 (hx : bJ GL σ.sl x = some (.own i k ls)) (hK : K (.d (.v (.int .i64 ls.length))) []) : aj P GL o σ K := wX (ty := #[]) hu ho (.inr ⟨i, hx⟩) hK
theorem LX {T : TypeId} {x : Operand} {k : Nat} {ls : List (List D)} (hu : P.underlying T = some (.slice (bc P T).elem)) (hK : K (.d (.v (.int .i64 ls.length))) []) (ho : o.op = .call { callee := .builtin .len, args := #[x], argTypes := #[T] } := by exact rfl) (hx : bJ GL σ.sl x = some (.own i k ls) := by exact rfl) : aj P GL o σ K := Bx hu ho hx hK
theorem FC {T : TypeId} {x : Operand} {s : ByteArray} (hu : P.underlying T = some .string) (ho : o.op = .call { callee := .builtin .len, args := #[x], argTypes := #[T] })
 (hx : bJ GL σ.sl x = some (.d (.v (.string s)))) (hK : K (.d (.v (.int .i64 s.size))) []) : aj P GL o σ K := eF fun B g a w hr => by
 have h1 : a.eval x = .string s := hr.fo hx
 exact ⟨.d (.v (.int .i64 s.size)), .int .i64 s.size, fun w' => by simp [execOp, ho, h1, resolve, invoke, builtin, Builtin.len_, run_underlying hu, goInt], rfl, hK⟩
theorem LW {T : TypeId} {x : Operand} {s : ByteArray} (hu : P.underlying T = some .string) (hK : K (.d (.v (.int .i64 s.size))) []) (ho : o.op = .call { callee := .builtin .len, args := #[x], argTypes := #[T] } := by exact rfl) (hx : bJ GL σ.sl x = some (.d (.v (.string s))) := by exact rfl) : aj P GL o σ K := FC hu ho hx hK
theorem By {T : TypeId} {x : Operand} {n c : Nat} (hu : P.underlying T = some (.slice (bc P T).elem)) (ho : o.op = .call { callee := .builtin .len, args := #[x], argTypes := #[T] })
 (hx : bJ GL σ.sl x = some (.d (.v (.slice none n c)))) (hK : K (.d (.v (.int .i64 n))) []) : aj P GL o σ K := eF fun B g a w hr => by
 have h1 : a.eval x = .slice none n c := hr.fo hx
 exact ⟨.d (.v (.int .i64 n)), .int .i64 n, fun w' => by simp [execOp, ho, h1, resolve, invoke, builtin, Builtin.len_, run_underlying hu, goInt], rfl, hK⟩
theorem LV {T : TypeId} {x : Operand} {n c : Nat} (hu : P.underlying T = some (.slice (bc P T).elem)) (hK : K (.d (.v (.int .i64 n))) []) (ho : o.op = .call { callee := .builtin .len, args := #[x], argTypes := #[T] } := by exact rfl) (hx : bJ GL σ.sl x = some (.d (.v (.slice none n c))) := by exact rfl) : aj P GL o σ K := By hu ho hx hK
variable {ts : Array TypeId}
theorem Jd {x y : Operand} {m n : Int} (ho : o.op = .call { callee := .builtin .max, args := #[x, y], argTypes := ts }) (hx : bJ GL σ.sl x = some (.d (.v (.int .i64 m)))) (hy : bJ GL σ.sl y = some (.d (.v (.int .i64 n)))) (hK : K (.d (.v (.int .i64 (max m n)))) []) : aj P GL o σ K := eF fun B g a w hr => by
 have e1 : a.eval x = .int .i64 m := hr.fo hx
 have e2 : a.eval y = .int .i64 n := hr.fo hy
 have e3 : (if n > m then n else m) = max m n := by split <;> omega
 exact ⟨.d (.v (.int .i64 (max m n))), .int .i64 (max m n), fun w' => by
  simp only [execOp, ho, resolve, invoke, builtin, Builtin.max_, Builtin.max2, Sem.run_bind, Sem.run_pure, Result.andThen_ok, List.map_toArray, List.map_cons, List.map_nil, e1, e2, List.foldlM_cons, List.foldlM_nil, e3], rfl, hK⟩
theorem Kd {x y : Operand} {m n : Int} (hK : K (.d (.v (.int .i64 (max m n)))) []) (ho : o.op = .call { callee := .builtin .max, args := #[x, y], argTypes := ts } := by exact rfl) (hx : bJ GL σ.sl x = some (.d (.v (.int .i64 m))) := by exact rfl) (hy : bJ GL σ.sl y = some (.d (.v (.int .i64 n))) := by exact rfl) : aj P GL o σ K := Jd ho hx hy hK
end
end Go.Vd
namespace Go.Vd
open Go Go.RowKit
def G0 : D → Bool
 | .v (.agg _) => false
 | .v (.tuple _) => false
 | .agg _ => false
 | .cb _ => false
 | _ => true
def ze : SV → Bool
 | .d x => G0 x
 | .agg _ => false
 | .cb _ => false
 | .fH => false
 | _ => true
theorem zh {m : Mem} {d : D} {x : Value} (h : G0 d = true) (hd : d.Den m x) : x.oneCell' = true := by
 cases d with
 | v y => simp only [D.Den] at hd; subst hd; cases x <;> first | rfl | cases h
 | agg l => cases h
 | cb l => cases h
 | sl k l => obtain ⟨a, c, rfl, _⟩ := hd; rfl
 | cp l => obtain ⟨b, off, rfl, _⟩ := hd; rfl
 | tp T d => obtain ⟨y, rfl, _⟩ := hd; rfl
variable {g : Gh} {s : SV}
theorem wM {x : Value} (h : ze s = true) (hd : s.Den g x) : x.oneCell' = true := by
 cases s with
 | d y => exact zh h hd
 | bZ i off => obtain ⟨b, _, rfl⟩ := hd; rfl
 | agg l => cases h
 | cb l => cases h
 | own i k ls => obtain ⟨b, c, _, rfl, _⟩ := hd; rfl
 | fn f a b => obtain ⟨vs, us, rfl, _⟩ := hd; rfl
 | tp T s => obtain ⟨y, rfl, _⟩ := hd; rfl
 | map i => obtain ⟨b, _, rfl⟩ := hd; rfl
 | rp i => obtain ⟨b, cap, n, _, rfl⟩ := hd; rfl
 | arr i n => obtain ⟨b, cap, _, rfl⟩ := hd; rfl
 | bp i off => obtain ⟨b, cap, n, _, rfl⟩ := hd; rfl
 | vT k ls => obtain ⟨a, rfl, _⟩ := hd; rfl
 | fH => cases h
def fP : List SV → Bool
 | [] => true
 | s :: r => cond (ze s) (fP r) false
theorem iY {g : Gh} : ∀ {l : List SV} {vs : List Value}, fP l = true → bj g l vs → ∀ x ∈ vs, x.oneCell' = true
 | [], _, _, h, x, hx => by cases h; cases hx
 | s :: r, _, h, ⟨y, l', e, h1, h2⟩, x, hx => by
  subst e
  unfold fP at h
  cases hs : ze s with
  | false => rw [hs] at h; cases h
  | true =>
   rw [hs] at h
   cases hx with
   | head => exact wM hs h1
   | tail _ hx => exact iY h h2 x hx
def zu : List D → Option (List SV)
 | [] => some []
 | d :: r => (zu r).bind fun l => some (.d d :: l)
theorem xR : ∀ {l : List D} {r : List SV}, zu l = some r → r = l.map SV.d
 | [], r, h => by simp [zu] at h; simp [h]
 | d :: l, r, h => by
  simp only [zu, Option.bind_eq_some_iff, Option.some.injEq] at h
  obtain ⟨r', h1, rfl⟩ := h
  simp [xR h1]
def nN : List Value → Option (List SV)
 | [] => some []
 | d :: r => (nN r).bind fun l => some (.d (.v d) :: l)
theorem qx : ∀ {l : List Value} {r : List SV}, nN l = some r → r = l.map fun x => SV.d (.v x)
 | [], r, h => by simp [nN] at h; simp [h]
 | d :: l, r, h => by
  simp only [nN, Option.bind_eq_some_iff, Option.some.injEq] at h
  obtain ⟨r', h1, rfl⟩ := h
  simp [qx h1]
def jd (ag : Bool) (s : SV) : Option (List SV) :=
 cond ag (match s with | .agg cs => some cs | .d (.agg ds) => zu ds | .d (.v (.agg arr)) => nN arr.toList | _ => none) (cond (ze s) (some [s]) none)
variable {ag : Bool} {cs : List SV}
theorem iI {x : Value} (h : jd ag s = some cs) (d : s.Den g x) : bj g cs x.cells.toList := by
 unfold jd at h
 cases ag with
 | false =>
  simp only [cond_false] at h
  cases h1 : ze s with
  | false => rw [h1] at h; cases h
  | true =>
   rw [h1] at h
   simp only [cond_true, Option.some.injEq] at h
   subst h
   rw [Value.xj (wM h1 d)]
   exact ⟨x, [], rfl, d, rfl⟩
 | true =>
  simp only [cond_true] at h
  split at h
  ·simp only [Option.some.injEq] at h; subst h
   obtain ⟨l, rfl, hd⟩ := d; exact hd
  ·rw [xR h]
   obtain ⟨l, rfl, hd⟩ := d
   exact bj.Ld hd
  ·rw [qx h]
   cases d
   exact bj.KO _
  ·cases h
def ud : Nat → List SV → List SV → Option (List SV)
 | 0, [], l => some l
 | 0, _ :: _, [] => none
 | 0, s :: r, _ :: l => (ud 0 r l).bind fun l' => some (s :: l')
 | n + 1, cs, [] => none
 | n + 1, cs, x :: l => (ud n cs l).bind fun l' => some (x :: l')
theorem qm : ∀ {n : Nat} {cs l r : List SV}, ud n cs l = some r → n + cs.length ≤ l.length ∧ r = l.take n ++ cs ++ l.drop (n + cs.length)
 | 0, [], l, r, h => by simp [ud] at h; subst h; simp
 | 0, s :: cs, [], r, h => by cases h
 | 0, s :: cs, x :: l, r, h => by
  simp only [ud, Option.bind_eq_some_iff, Option.some.injEq] at h
  obtain ⟨r', h1, rfl⟩ := h
  have := qm h1
  simp at this ⊢
  exact ⟨by omega, this.2⟩
 | n + 1, cs, [], r, h => by cases h
 | n + 1, cs, x :: l, r, h => by
  simp only [ud, Option.bind_eq_some_iff, Option.some.injEq] at h
  obtain ⟨r', h1, rfl⟩ := h
  have := qm h1
  refine ⟨by simp; omega, ?_⟩
  rw [this.2, show n + 1 + cs.length = (n + cs.length) + 1 by omega]
  simp
variable {vs : List Value}
theorem yL {n : Nat} {l r : List SV} (h : ud n cs l = some r) {us : List Value} (hl : bj g l vs) (hc : bj g cs us) : bj g r (vs.take n ++ us ++ vs.drop (n + us.length)) := by
 obtain ⟨h1, rfl⟩ := qm h
 rw [hc.length]
 exact ((hl.take n).append hc).append (hl.drop _)
section
variable {P : Program} {GL : Nat → List D} {o : Oper} {σ : St}
def mn (ag : Bool) (cs : List SV) : Option SV := cond ag (some (.agg cs)) (match cs with | [s] => some s | _ => none)
theorem rA (h : mn ag cs = some s) (hd : bj g cs vs) : s.Den g (if ag then .agg ⟨vs⟩ else vs.headD undef) := by
 unfold mn at h
 cases ag with
 | true => simp only [cond_true, Option.some.injEq] at h; subst h; exact ⟨vs, rfl, hd⟩
 | false =>
  simp only [cond_false] at h
  split at h
  ·simp only [Option.some.injEq] at h; subst h
   obtain ⟨x, l', rfl, h1, _⟩ := hd
   exact h1
  ·cases h
variable {T : TypeId} {off : Nat} {xs : List Value}
theorem kQ {Hc : List (Addr × Value)} {b : Nat} (hok : (bc P T).ok = true) (hl : xs.length = (bc P T).size) (h1 : (bc P T).agg = false → xs.length = 1)
 (hH : ∀ (j : Nat) x, xs[j]? = some x → ((⟨b, off + j, none⟩ : Addr), x) ∈ Hc) (w : World) (hc : CH Hc w) :
 (Instr.loadAt T (.pointer (some ⟨b, off, none⟩))).run P w = .ok (if (bc P T).agg then .agg ⟨xs⟩ else xs.headD undef) w := by
 have := gF hok (w := w) (b := b) (off := off) hl (fun j x hj => hc _ (hH j x hj)) (fun hag => by
  have e := h1 hag
  match xs, e with
  | [y], _ => exact ⟨y, rfl⟩)
 simpa [Instr.loadAt, Instr.sureAddr] using this
theorem xP {α : Type} (f : Value × Nat → α) {j : Nat} {x : Value} (h : xs[j]? = some x) : f (x, j) ∈ xs.zipIdx.map f := by
 refine List.mem_map.2 ⟨(x, j), ?_, rfl⟩
 rw [List.mem_zipIdx_iff_getElem?]
 exact h
theorem rz (h : mn false cs = some s) : cs.length = 1 := by
 unfold mn at h
 simp only [cond_false] at h
 split at h
 ·rfl
 ·cases h
variable {x : Operand} {K : SV → List Nat → Prop} {i : Nat} {ty : TypeId} {l1 : List SV} {ti : TI}
theorem zT {l : List SV} (hT : bc P T = ti) (hok : ti.ok = true) (ho : o.op = .load T x) (hx : bJ GL σ.sl x = some (.bZ i off)) (hi : cC i σ.ob = some (.cells l ty))
 (hl : fW off l = some l1) (hc : lH ti.size l1 = some cs) (hs : mn ti.agg cs = some s) (hK : K s [i]) : aj P GL o σ K := fun B g a w hr => by
 subst hT
 obtain ⟨b, hb, h1⟩ := hr.fo hx
 obtain ⟨vs, hh, hd, hm⟩ := hr.store.gM i _ _ (bL hi) hb
 have hl' := jT hl
 have hc' := qd hc
 have hd2 : bj g cs ((vs.drop off).take (bc P T).size) := by rw [← hc'.1, ← hl'.1]; exact (hd.drop off).take _
 have hlen : ((vs.drop off).take (bc P T).size).length = (bc P T).size := by rw [hd2.length, ← hc'.1]; simp; omega
 refine ⟨((vs.drop off).take (bc P T).size).zipIdx.map fun p => (⟨b, off + p.2, none⟩, p.1), s, _, [i], fun w' hcw => ?_, fun p hp => ?_, fun p hp => ?_, rA hs hd2, hK⟩
 ·have := kQ (P := P) hok hlen (fun hag => by rw [hag] at hs; have := rz hs; rw [hd2.length, this]) (b := b) (off := off) (fun j y hj => xP (fun p => ((⟨b, off + p.2, none⟩ : Addr), p.1)) hj) w' hcw
  simp only [execOp, ho, h1, Sem.run_bind, this, Result.andThen_ok, Sem.run_pure]
 ·obtain ⟨⟨y, j⟩, hq, rfl⟩ := List.mem_map.1 hp
  rw [List.mem_zipIdx_iff_getElem?] at hq
  rw [List.getElem?_take] at hq
  split at hq
  ·rw [List.getElem?_drop] at hq
   simp only [World.cell?, hh]
   simpa using hq
  ·cases hq
 ·obtain ⟨⟨y, j⟩, hq, rfl⟩ := List.mem_map.1 hp
  exact ⟨rfl, .inr ⟨i, b, by simp, hb, rfl⟩⟩
theorem DC {l : List SV} (hT : bc P T = ti) (hK : K s [i]) (ho : o.op = .load T x := by exact rfl) (hx : bJ GL σ.sl x = some (.bZ i off) := by exact rfl) (hi : cC i σ.ob = some (.cells l ty) := by exact rfl) (hok : ti.ok = true := by exact rfl) (hl : fW off l = some l1 := by exact rfl) (hc : lH ti.size l1 = some cs := by exact rfl) (hs : mn ti.agg cs = some s := by exact rfl) : aj P GL o σ K := zT hT hok ho hx hi hl hc hs hK
variable {l ds : List D}
theorem Bw (hT : bc P T = ti) (hok : ti.ok = true) (ho : o.op = .load T x) (hx : bJ GL σ.sl x = some (.d (.cp l)))
 (hc : lH ti.size l = some ds) (hm : zu ds = some cs) (hs : mn ti.agg cs = some s) (hK : K s []) : aj P GL o σ K := fun B g a w hr => by
 subst hT
 obtain ⟨b, off, h1, hd⟩ := hr.fo hx
 have hc' := qd hc
 have hd2 := hd.take (bc P T).size
 rw [hc'.1] at hd2
 obtain ⟨vs, hv, hcell⟩ := hd2.Dd
 have hlen : vs.length = (bc P T).size := by rw [hv.length, ← hc'.1]; simp; omega
 have hsd : bj g cs vs := by rw [xR hm]; exact bj.Ld hv
 refine ⟨vs.zipIdx.map fun p => (⟨b, off + p.2, none⟩, p.1), s, _, [], fun w' hcw => ?_, fun p hp => ?_, fun p hp => ?_, rA hs hsd, hK⟩
 ·have := kQ (P := P) hok hlen (fun hag => by rw [hag] at hs; have := rz hs; rw [hsd.length, this]) (b := b) (off := off) (fun j y hj => xP (fun p => ((⟨b, off + p.2, none⟩ : Addr), p.1)) hj) w' hcw
  simp only [execOp, ho, h1, Sem.run_bind, this, Result.andThen_ok, Sem.run_pure]
 ·obtain ⟨⟨y, j⟩, hq, rfl⟩ := List.mem_map.1 hp
  rw [List.mem_zipIdx_iff_getElem?] at hq
  exact (hr.store.sat _ _ _ (hcell j y hq)).1
 ·obtain ⟨⟨y, j⟩, hq, rfl⟩ := List.mem_map.1 hp
  rw [List.mem_zipIdx_iff_getElem?] at hq
  exact ⟨rfl, .inl (hcell j y hq)⟩
theorem J9 (hT : bc P T = ti) (hK : K s []) (ho : o.op = .load T x := by exact rfl) (hx : bJ GL σ.sl x = some (.d (.cp l)) := by exact rfl) (hok : ti.ok = true := by exact rfl) (hc : lH ti.size l = some ds := by exact rfl) (hm : zu ds = some cs := by exact rfl) (hs : mn ti.agg cs = some s := by exact rfl) : aj P GL o σ K := Bw hT hok ho hx hc hm hs hK
theorem zU (hT : bc P T = ti) (hok : ti.ok = true) (hag : ti.agg = true) (ho : o.op = .load T x) (hx : bJ GL σ.sl x = some (.d (.cp l))) (hlen : l.length = ti.size) (hK : K (.d (.agg l)) []) : aj P GL o σ K := fun B g a w hr => by
 subst hT
 obtain ⟨b, off, h1, hd⟩ := hr.fo hx
 obtain ⟨vs, hv, hcell⟩ := hd.Dd
 have hlen2 : vs.length = (bc P T).size := by rw [hv.length, hlen]
 refine ⟨vs.zipIdx.map fun p => (⟨b, off + p.2, none⟩, p.1), .d (.agg l), .agg ⟨vs⟩, [], fun w' hcw => ?_, fun p hp => ?_, fun p hp => ?_, ⟨vs, rfl, hv⟩, hK⟩
 ·have := kQ (P := P) hok hlen2 (fun hag' => by rw [hag] at hag'; cases hag') (b := b) (off := off) (fun j y hj => xP (fun p => ((⟨b, off + p.2, none⟩ : Addr), p.1)) hj) w' hcw
  rw [hag] at this
  simp only [execOp, ho, h1, Sem.run_bind, this, Result.andThen_ok, Sem.run_pure]
  rfl
 ·obtain ⟨⟨y, j⟩, hq, rfl⟩ := List.mem_map.1 hp
  rw [List.mem_zipIdx_iff_getElem?] at hq
  exact (hr.store.sat _ _ _ (hcell j y hq)).1
 ·obtain ⟨⟨y, j⟩, hq, rfl⟩ := List.mem_map.1 hp
  rw [List.mem_zipIdx_iff_getElem?] at hq
  exact ⟨rfl, .inl (hcell j y hq)⟩
theorem Gt (hT : bc P T = ti) (hK : K (.d (.agg l)) []) (ho : o.op = .load T x := by exact rfl) (hx : bJ GL σ.sl x = some (.d (.cp l)) := by exact rfl) (hok : ti.ok = true := by exact rfl) (hag : ti.agg = true := by exact rfl) (hlen : l.length = ti.size := by omega) : aj P GL o σ K := zU hT hok hag ho hx hlen hK
def BE (GL : Nat → List D) (sl : List (Nat × SV)) : List (Nat × Operand) → Option (List (Nat × SV))
 | [] => some []
 | (i, x) :: r => (bJ GL sl x).bind fun s => (BE GL sl r).bind fun l => some ((i, s) :: l)
def u4 (jX : List (Nat × Nat × Bool)) : List SV → List (Nat × SV) → Option (List SV)
 | cells, [] => some cells
 | cells, (i, s) :: r => (cC i jX).bind fun f => (jd f.2.2 s).bind fun cs => cond (Nat.beq cs.length f.2.1) ((ud f.1 cs cells).bind fun c' => u4 jX c' r) none
theorem FJ {jX : List (Nat × Nat × Bool)} {place : Nat → Option (Nat × Nat)} (hp : ∀ (i : Nat) o sz ag, jX[i]? = some (o, sz, ag) → place i = some (o, sz)) (ρ : Operand → Value) {sl : List (Nat × SV)} (hρ : ∀ x s, bJ GL sl x = some s → s.Den g (ρ x)) :
 ∀ {ps : List (Nat × Operand)} {es : List (Nat × SV)} {cs : List SV} {l : List Value} {out : List SV}, bj g cs l → BE GL sl ps = some es → u4 jX cs es = some out →
  ∃ l', Instr.fill place ⟨l⟩ (ps.map fun p => (p.1, ρ p.2)) = some ⟨l'⟩ ∧ bj g out l' := by
 intro ps
 induction ps with
 | nil =>
  intro es cs l out hd he hf
  simp only [BE, Option.some.injEq] at he; subst he
  simp only [u4, Option.some.injEq] at hf; subst hf
  exact ⟨l, rfl, hd⟩
 | cons p r ih =>
  intro es cs l out hd he hf
  obtain ⟨i, x⟩ := p
  simp only [BE, Option.bind_eq_some_iff, Option.some.injEq] at he
  obtain ⟨s, hs, es', hes, rfl⟩ := he
  simp only [u4, Option.bind_eq_some_iff] at hf
  obtain ⟨⟨o, sz, ag⟩, hfl, cs1, hcs, hf⟩ := hf
  cases hb : Nat.beq cs1.length sz with
  | false => simp only [hb, cond_false] at hf; cases hf
  | true =>
   simp only [hb, cond_true, Option.bind_eq_some_iff] at hf
   obtain ⟨c', hset, hf⟩ := hf
   have hcd := iI hcs (hρ x s hs)
   have hcl := hcd.length
   have hll := hd.length
   have hsz : cs1.length = sz := by simpa using hb
   have h1 : (ρ x).cells.size = sz := by
    have : (ρ x).cells.toList.length = sz := by omega
    simpa using this
   have hset2 := qm hset
   simp only [List.map_cons, Instr.fill, hp i o sz ag (bL hfl)]
   have h3 : (decide ((ρ x).cells.size ≠ sz) || decide (o + (ρ x).cells.size > (⟨l⟩ : Array Value).size)) = false := by simp; omega
   rw [h3]
   simp only [Bool.false_eq_true, if_false]
   have hfold : ((ρ x).cells.zipIdx.foldl (fun (cs : Array Value) (y : Value × Nat) => cs.setIfInBounds (o + y.2) y.1) ⟨l⟩) = ⟨l.take o ++ (ρ x).cells.toList ++ l.drop (o + (ρ x).cells.toList.length)⟩ := by
    have key : ∀ (vs : List Value) (k : Nat) (l : List Value), o + k + vs.length ≤ l.length → (vs.zipIdx k).foldl (fun (cs : Array Value) (y : Value × Nat) => cs.setIfInBounds (o + y.2) y.1) ⟨l⟩ = ⟨l.take (o + k) ++ vs ++ l.drop (o + k + vs.length)⟩ := by
     intro vs
     induction vs with
     | nil => intro k l hl; simp
     | cons v r ih2 =>
      intro k l hl
      simp only [List.length_cons] at hl
      have e1 : (⟨l⟩ : Array Value).setIfInBounds (o + k) v = ⟨l.set (o + k) v⟩ := by apply Array.ext'; simp
      simp only [List.zipIdx_cons, List.foldl_cons, e1]
      rw [ih2 (k + 1) _ (by simp; omega)]
      congr 1
      rw [List.take_set, List.drop_set]
      simp only [List.length_cons]
      rw [show o + (k + 1) = o + k + 1 by omega]
      rw [if_pos (by omega)]
      rw [List.take_add_one]
      have hlt : o + k < l.length := by omega
      rw [List.set_append]
      have hmin : min (o + k) l.length = o + k := by omega
      simp [hlt, hmin]
      rw [show o + k + 1 + r.length = o + k + (r.length + 1) by omega]
    rw [← Array.foldl_toList, Array.toList_zipIdx]
    exact key _ 0 l (by omega)
   obtain ⟨l', hl', hd'⟩ := ih (yL hset hd hcd) hes hf
   refine ⟨l', ?_, hd'⟩
   rw [← hl']
   exact congrArg (fun z => Instr.fill place z (r.map fun p => (p.1, ρ p.2))) hfold
variable {z0 : List SV} {es : List (Nat × SV)}
theorem FE {ps : Array (Nat × Operand)} (hT : bc P T = ti) (hz : ti.Gq = true) (hfk : ti.IZ = true) (hfl : ti.IZ = true) (ho : o.op = .build T ps) (he : BE GL σ.sl ps.toList = some es)
 (hm : nN ti.zero = some z0) (hf : u4 ti.jX z0 es = some cs) (hK : K (.agg cs) []) : aj P GL o σ K := eF fun B g a w hr => by
 subst hT
 have hz' : ∃ i z, P.info? T = some i ∧ i.zero = some z ∧ (bc P T).zero = z.cells.toList := by
  simp only [bc, Option.isSome_iff_exists, Option.bind_eq_some_iff] at hz
  obtain ⟨z, i, hi, hzz⟩ := hz
  exact ⟨i, z, hi, hzz, by simp [bc, hi, hzz]⟩
 obtain ⟨i, z, hi, hzz, hze⟩ := hz'
 have hst : ∃ fs, P.underlying T = some (.struct fs) ∧ fs.toList.all (fun f => (P.info? f.type).isSome) = true := by
  unfold bc at hfl
  simp only at hfl
  split at hfl
  ·rename_i fs hfs; exact ⟨fs, hfs, hfl⟩
  ·cases hfl
 obtain ⟨fs, hfs, hall⟩ := hst
 have hpl : fs.toList.mapM (fun f => (P.info? f.type).map fun i => (f.offset, i.size)) = some (fs.toList.map fun f => (f.offset, ((P.info? f.type).map (·.size)).getD 0)) := by
  generalize fs.toList = l at hall
  induction l with
  | nil => rfl
  | cons f r ih =>
   simp only [List.all_cons, Bool.and_eq_true] at hall
   obtain ⟨i, hi⟩ := Option.isSome_iff_exists.1 hall.1
   simp [List.mapM_cons, hi, ih hall.2]
 have hflds : (bc P T).jX = fs.toList.map fun f => (f.offset, ((P.info? f.type).map (·.size)).getD 0, pX (P.underlying f.type)) := by simp [bc, hfs]
 have hz0 : bj g z0 z.cells.toList := by rw [qx hm, hze]; exact bj.KO _
 obtain ⟨l', hl', hd'⟩ := FJ (g := g) (jX := (bc P T).jX) (place := ((fs.toList.map fun f => (f.offset, ((P.info? f.type).map (·.size)).getD 0)).toArray[·]?)) (fun i o sz ag hf => by
  rw [hflds, List.getElem?_map] at hf
  cases hfd : fs.toList[i]? with
  | none => rw [hfd] at hf; cases hf
  | some fd =>
   rw [hfd] at hf
   simp only [Option.map_some, Option.some.injEq, Prod.mk.injEq] at hf
   simp only [List.getElem?_toArray, List.getElem?_map, hfd, Option.map_some]
   rw [hf.1, hf.2.1]) a.eval (fun x s hx => hr.fo hx) hz0 he hf
 have hb : P.built T (ps.map fun p => (p.1, a.eval p.2)).toList = some ⟨l'⟩ := by
  unfold Program.built
  simp only [hi, hfs, hzz, hpl, Array.toList_map]
  exact hl'
 refine ⟨.agg cs, .agg ⟨l'⟩, fun w' => ?_, ⟨l', rfl, hd'⟩, hK⟩
 have := run_build w' T (ps.map fun p => (p.1, a.eval p.2)) ⟨l'⟩ hb
 simp only [execOp, ho, Sem.run_bind]
 rw [this]
 rfl
theorem Mb {ps : Array (Nat × Operand)} (hT : bc P T = ti) (hK : K (.agg cs) []) (ho : o.op = .build T ps := by exact rfl) (hz : ti.Gq = true := by exact rfl) (hfk : ti.IZ = true := by exact rfl) (hfl : ti.IZ = true := by exact rfl) (he : BE GL σ.sl ps.toList = some es := by exact rfl) (hm : nN ti.zero = some z0 := by exact rfl) (hf : u4 ti.jX z0 es = some cs := by exact rfl) : aj P GL o σ K := FE hT hz hfk hfl ho he hm hf hK
end
end Go.Vd
namespace Go.Vd
open Go Go.RowKit
structure je (P : Program) (t e : TypeId) (size bytes : Nat) : Prop where
 under : P.underlying t = some (.slice e)
 info : (P.info? e).map (fun i => (i.size, i.bytes)) = some (size, bytes)
 zero : ((P.info? e).bind (·.zero)).map (·.cells.size) = some size
structure Cd (P : Program) (t k e : TypeId) : Prop where
 under : P.underlying t = some (.map k e)
 key : P.underlying k = some .string
 zero : (P.info? e).bind (·.zero) = some (.pointer none)
theorem flat_get {s : Nat} (hs : 0 < s) : ∀ (l : List Value) (k : Nat), (∀ v ∈ l, v.cells.size = s) → (l.flatMap fun v => v.cells.toList)[k]? = (l[k / s]?).bind fun v => v.cells[k % s]?
 | [], k, _ => by simp
 | v :: r, k, h => by
  have hv : v.cells.toList.length = s := by simpa using h v List.mem_cons_self
  simp only [List.flatMap_cons, List.getElem?_append, hv]
  by_cases hk : k < s
  ·rw [if_pos hk, Nat.div_eq_of_lt hk, Nat.mod_eq_of_lt hk]
   simp
  ·rw [if_neg hk, flat_get hs r (k - s) fun u hu => h u (List.mem_cons_of_mem _ hu)]
   have e1 : k / s = (k - s) / s + 1 := by rw [Nat.div_eq k s, if_pos ⟨hs, by omega⟩]
   have e2 : k % s = (k - s) % s := by rw [Nat.mod_eq k s, if_pos ⟨hs, by omega⟩]
   rw [e1, e2, List.getElem?_cons_succ]
theorem zN {s : Nat} : ∀ (l : List Value), (∀ v ∈ l, v.cells.size = s) → (l.flatMap fun v => v.cells.toList).length = l.length * s
 | [], _ => by simp
 | v :: r, h => by
  have hv : v.cells.toList.length = s := by simpa using h v List.mem_cons_self
  simp only [List.flatMap_cons, List.length_append, hv, zN r fun u hu => h u (List.mem_cons_of_mem _ hu), List.length_cons, Nat.add_mul]
  omega
section
variable {P : Program}
variable {t e : TypeId} {size bytes n : Nat}
theorem GQ {parts : Array (Nat × Operand)} {ρ : Operand → Value} (T : je P t e size bytes) (xs : List Operand) (l : List Value) (hρ : xs.map ρ = l)
 (hp : parts.toList = (xs.zipIdx 0).map fun p => (p.2, p.1)) (hn : n = l.length) (hs : ∀ v ∈ l, v.cells.size = size) (hsz : 0 < size) (hn0 : 0 < n) (hbig : n * size ≤ 16777216) (w : World) :
 (Instr.buildSlice t n (parts.map fun (i, x) => (i, ρ x))).run P w = .ok (.slice (some ⟨w.heap.size, 0, none⟩) n n) (w.alloc (.cells ⟨l.flatMap fun v => v.cells.toList⟩ e)) := by
 have hinfo := T.info
 have hzero := T.zero
 cases hi : P.info? e with
 | none => simp [hi] at hinfo
 | some ie =>
  rw [hi] at hinfo hzero
  simp only [Option.map_some, Option.some.injEq, Prod.mk.injEq, Option.bind_some] at hinfo hzero
  cases hz : ie.zero with
  | none => simp [hz] at hzero
  | some z =>
   rw [hz] at hzero
   simp only [Option.map_some, Option.some.injEq] at hzero
   obtain ⟨h1, h2⟩ := hinfo
   have hparts : (parts.map fun (x : Nat × Operand) => (x.1, ρ x.2)).toList = (l.zipIdx 0).map fun x => (x.2, x.1) := by
    rw [Array.toList_map, hp, ← hρ]
    simp [List.zipIdx_map]
   obtain ⟨r, hr, hrs, hrk⟩ := Great.fill_dense hsz l 0 ((Array.range (n * size)).map (z.cells[· % z.cells.size]!)) hs (by simp [hn])
   have hrl : r = ⟨l.flatMap fun v => v.cells.toList⟩ := by
    apply Array.ext'
    apply List.ext_getElem?
    intro k
    have := hrk k
    rw [flat_get hsz l k hs]
    rw [Array.getElem?_toList, this]
    simp only [Nat.zero_mul, Nat.zero_le, true_and, Nat.zero_add, Nat.sub_zero]
    split
    ·rfl
    ·rename_i hk
     have hk' : n * size ≤ k := by rw [hn]; omega
     have h3 : l.length ≤ k / size := by rw [← hn]; exact (Nat.le_div_iff_mul_le hsz).2 hk'
     simp only [List.getElem?_eq_none h3, Option.bind_none]
     rw [Array.getElem?_eq_none]; simp; exact hk'
   have hrun := run_buildSlice w t e n (parts.map fun (i, x) => (i, ρ x)) r ie z T.under hi hz (by rw [h1]; omega) (by rw [h1]; intro h0; rcases Nat.mul_eq_zero.1 h0 with h | h <;> omega) (by rw [h1, ← hr]; congr 1)
   rw [hrun, hrl]
theorem Cr {w : World} {ty : TypeId} (T : je P t e size bytes) (hsz : 0 < size) {v : Value} {xs : List Value} (hown : w.ownsRow 0 e size v n xs)
 {a : Addr} {m c : Nat} {news : List Value} (hl : news.length = m * size) (hm : 0 < m) (hnews : ∀ j u, news[j]? = some u → w.cell? (a.add j) = some u) (h1 : ∀ u ∈ news, u.oneCell' = true)
 (h63 : n + m ≤ maxLen) (hbytes : (n + m) * bytes ≤ 140737488355328) :
 ∃ v' w', (Builtin.append_ #[t, t] ty #[v, .slice (some a) m c]).run P w = .ok v' w' ∧ w'.ownsRow 0 e size v' (n + m) (xs ++ news) ∧ Fr (fun c => v.ownBlock = some c ∧ v'.ownBlock = some c) w w' ∧
  ∃ k, v'.ownBlock = some k ∧ (v.ownBlock = some k ∨ k = w.heap.size) ∧ k < w'.heap.size ∧ ∃ c, v' = .slice (some ⟨k, 0, none⟩) (n + m) c := by
 have hinfo := T.info
 have hzero := T.zero
 cases hi : P.info? e with
 | none => simp [hi] at hinfo
 | some i =>
  rw [hi] at hinfo hzero
  simp only [Option.map_some, Option.some.injEq, Prod.mk.injEq, Option.bind_some] at hinfo hzero
  cases hz : i.zero with
  | none => simp [hz] at hzero
  | some z =>
  rw [hz] at hzero
  simp only [Option.map_some, Option.some.injEq] at hzero
  obtain ⟨q1, q2⟩ := hinfo
  subst q1
  subst q2
  have hsmall : n + m ≤ 9223372036854775807 := by simp only [maxLen] at h63; omega
  have hlen : (xs ++ news).length = (n + m) * i.size := by rw [List.length_append, hown.1, hl, Nat.add_mul]
  have grown : ∀ (old : Nat), old < n + m →
   (w.drew.alloc (.cells (xs.toArray ++ news.toArray ++ Builtin.zeroCells z.cells (grownCap w (n + m) old e - (n + m))) e)).ownsRow 0 e i.size
    (.slice (some ⟨w.heap.size, 0, none⟩) (n + m) (grownCap w (n + m) old e)) (n + m) (xs ++ news) := by
   intro old ho
   have hge := grownCap_ge w (n + m) old e
   have hcm : grownCap w (n + m) old e ≤ maxLen := grownCap_le_maxLen w (n + m) old e h63
   refine ⟨hlen, .inr ⟨w.heap.size, _, _, rfl, Nat.zero_le _, heap_alloc_new w.drew _, hge, hcm, ?_, ?_⟩⟩
   ·simp only [Array.size_append, List.size_toArray, size_zeroCells, hzero, hown.1, hl, ← Nat.add_mul]
    congr 1
    omega
   ·simp only [Array.toList_append, List.append_assoc]
    rw [← List.append_assoc, ← hlen]
    exact List.take_left
  rcases hown.2 with ⟨rfl, rfl⟩ | ⟨g, cap, cur, rfl, hbg, hg, hnc, hcm, hcs, htake⟩
  ·have hx : xs = [] := List.eq_nil_of_length_eq_zero (by simpa using hown.1)
   subst hx
   have hr := run_append_nil (P := P) w t ty e i z T.under hi hz a m c news hl hnews (by omega) (by omega) (by have hb := hbytes; simp only [Nat.zero_add] at hb; omega)
   have hgr := grown 0 (by omega)
   simp only [Nat.zero_add, List.nil_append, Array.empty_append] at hgr ⊢
   exact ⟨_, _, hr, hgr, ((Fr.refl _ w).drew).alloc _, _, rfl, .inr rfl, by simp, _, rfl⟩
  ·by_cases hroom : n + m ≤ cap
   ·have hfit : n * i.size + news.length ≤ cur.size := by rw [hl, hcs, ← Nat.add_mul]; exact Nat.mul_le_mul_right _ hroom
    have hr := run_append_room (P := P) w t ty e i T.under hi g n cap cur hg a m c news hl hnews h1 hroom hfit
    refine ⟨_, _, hr, ⟨hlen, .inr ⟨g, cap, _, rfl, hbg, setRow_heap w g cur _ e _ hg, hroom, hcm, ?_, ?_⟩⟩, ⟨rfl, rfl, rfl, by simp, fun k _ hk => setRow_other w g k _ (fun e => hk ⟨by simp [Value.ownBlock, e], by simp [Value.ownBlock, e]⟩)⟩,
     g, rfl, .inl rfl, by have := (Array.getElem?_eq_some_iff.1 hg).1; simpa using this, _, rfl⟩
    ·simp only [List.size_toArray, List.length_append, List.length_take, List.length_drop, Array.length_toList]
     omega
    ·rw [htake, ← hlen]
     exact List.take_left
   ·have holds : ∀ j u, xs[j]? = some u → w.cell? ((⟨g, 0, none⟩ : Addr).add j) = some u := hown.cells (g := g) rfl
    have hr := run_append_grow (P := P) w t ty e i z T.under hi hz ⟨g, 0, none⟩ n cap xs hown.1 holds a m c news hl hnews (by omega) (by omega) (growslice_fits (by omega) hbytes)
    have hgr := grown cap (by omega)
    exact ⟨_, _, hr, hgr, ((Fr.refl _ w).drew).alloc _, _, rfl, .inr rfl, by simp, _, rfl⟩
end
end Go.Vd
namespace Go.Vd
open Go Go.RowKit
def qP (T : Nat → Prop) (ob : List Ob) (g : Gh) (w : World) (g' : Gh) (w' : World) : Prop :=
 gg g.m g'.m ∧ ∀ (i b : Nat) o, ¬ T i → ob[i]? = some o → g.gs[i]? = some (.loc b) → dA o (.loc b) = some b → g'.gs[i]? = some (.loc b) ∧ w'.heap[b]? = w.heap[b]?
theorem qP.refl (T : Nat → Prop) (ob : List Ob) (g : Gh) (w : World) : qP T ob g w g w := ⟨gg.refl _, fun _ _ _ _ _ h _ => ⟨h, rfl⟩⟩
variable {g' : Gh}
theorem gX.refl {g : Gh} (h : Gw g g') : ∀ o : Ob, gX g g' o o
 | .cells l ty => ⟨rfl, fun vs hd => bj.mono h l hd⟩
 | .row e k => ⟨rfl, rfl⟩
 | .bP e k => ⟨rfl, rfl⟩
 | .buf e k ls q => ⟨rfl, rfl, rfl, rfl, fun vs hd => dk.mono h.m _ hd⟩
 | .fh f => rfl
 | .cz f => ⟨rfl, h.m⟩
 | .gH o k => ⟨rfl, rfl, h.m⟩
 | .jk i f dn cur => ⟨rfl, rfl, rfl, .inl rfl⟩
 | .dead => trivial
section
variable {GL : Nat → List D} {B : Bs} {σ : St} {g : Gh} {a : Act} {w : World}
variable {ob ob' : List Ob} {w' : World}
theorem C6.step (h : C6 B ob g w) {X : Nat → Prop} (hf : Fr X w w') (hX : ∀ b, X b → B.X b ∨ B.w.heap.size ≤ b) (hm : gg g.m g'.m)
 (hnew : ∀ b o x, g'.m b o = some x → g.m b o = none → X b ∨ w.heap.size ≤ b)
 (hown : ∀ (i : Nat) o p b, ob'[i]? = some o → g'.gs[i]? = some p → cO o p b → (B.X b ∨ B.w.heap.size ≤ b) ∨ w.heap.size ≤ b)
 (hat : ∀ (i b : Nat), g.gs[i]? = some (.loc b) → g'.gs[i]? = some (.loc b)) : C6 B ob' g' w' := by
 have hs := h.fr.size
 refine ⟨h.fr.then hf (fun i hi => by rcases hX i hi with h1 | h1; exact .inl h1; exact .inr h1), h.mem.trans hm, fun b o x hx hn => ?_, fun i o p b h1 h2 h3 => ?_, fun i b hi hb => hat i b (h.at' i b hi hb)⟩
 ·cases hg : g.m b o with
  | some y => exact h.new b o y hg hn
  | none =>
   rcases hnew b o x hx hg with h1 | h1
   ·exact hX b h1
   ·exact .inr (by omega)
 ·rcases hown i o p b h1 h2 h3 with h4 | h4
  ·exact h4
  ·exact .inr (by omega)
theorem cH.lt {ob : List Ob} (h : cH GL ob g w) {i : Nat} {o : Ob} {p : Pl} {b : Nat} (ho : ob[i]? = some o) (hp : g.gs[i]? = some p) (hb : cO o p b) : b < w.heap.size := (h.gM i o p ho hp).lt hb
variable {b : Nat}
theorem cH.jH (h : cH GL ob g w) {o : Nat} {x : Value} (hx : g.m b o = some x) : b < w.heap.size := World.block_lt_of_cell? w ⟨b, o, none⟩ (h.sat b o x hx).1
variable {m' : Mem} {o' : Ob} {pl : Pl}
theorem cT.Bc (h : cT GL B σ g a w) (hf : Fr (fun _ => False) w w') (hm : gg g.m m')
 (hnew : ∀ b o x, m' b o = some x → g.m b o = none → w.heap.size ≤ b ∧ w'.cell? ⟨b, o, none⟩ = some x ∧ x.oneCell' = true)
 (hok : ef ⟨m', g.gs ++ [pl]⟩ w' o' pl) (hblk : ∀ b, cO o' pl b → w.heap.size ≤ b) (hit : ∀ i f dn cur, o' = .jk i f dn cur → σ.ob[i]? = some (.fh f)) :
 cT GL B ⟨σ.n, σ.sl, σ.ob ++ [o']⟩ ⟨m', g.gs ++ [pl]⟩ a w' ∧ qP (fun _ => False) σ.ob g w ⟨m', g.gs ++ [pl]⟩ w' := by
 have hlen := h.store.len
 have hle : Gw g ⟨m', g.gs ++ [pl]⟩ := ⟨hm, fun i p hp => by
  show (g.gs ++ [pl])[i]? = some p
  rw [List.getElem?_append_left (List.getElem?_eq_some_iff.1 hp).1]; exact hp⟩
 have hnone : ∀ b i, b < w.heap.size → g.m b i = none → m' b i = none := fun b i hb hn => by
  cases hx : m' b i with
  | none => rfl
  | some x => have := (hnew b i x hx hn).1; omega
 have hlast : (g.gs ++ [pl])[σ.ob.length]? = some pl := by rw [hlen]; simp
 refine ⟨⟨h.defers, h.size, fun t => SV.Den.mono hle _ (h.di t), ?_, ?_⟩, hm, fun i b o _ ho hg hb => ⟨hle.gs _ _ hg, hf.block b (h.store.lt ho hg (dY hb)) (fun x => x)⟩⟩
 ·refine h.store.step (p := fun j => j = σ.ob.length) hm (fun i b => hle.gs i _) (fun i q _ => hle.gs i q) (fun b o x hx => ?_) (by simp [hlen]) (fun j o1 hj ho => ?_) (fun j i f dn cur ho => ?_) (fun j i f dn cur hj ho hi => ?_)
   (fun j o1 q b hj ho hq hb => ?_) (fun j o1 hj ho => ?_) (fun j o1 q b hj ho hq hb => ?_) (fun i j oi oj pi pj b hi hj _ _ _ _ _ _ => hi.trans hj.symm)
  ·cases hg : g.m b o with
   | some y =>
    have e := hm b o y hg
    simp only at hx
    rw [e] at hx; cases hx
    have hs := h.store.sat b o x hg
    refine ⟨?_, hs.2⟩
    rw [World.cell?_of_block (w := w) (hf.block b (h.store.jH hg) (fun x => x))]; exact hs.1
   | none => exact (hnew b o x hx hg).2
  ·have hlt : j < σ.ob.length := by
    have := (List.getElem?_eq_some_iff.1 ho).1
    simp at this; omega
   rw [List.getElem?_append_left hlt] at ho
   exact ⟨o1, ho, gX.refl hle o1⟩
  ·by_cases hj : j < σ.ob.length
   ·rw [List.getElem?_append_left hj] at ho
    have := h.store.dQ j i f dn cur ho
    rw [List.getElem?_append_left (List.getElem?_eq_some_iff.1 this).1]; exact this
   ·have hj' : j = σ.ob.length := by have := (List.getElem?_eq_some_iff.1 ho).1; simp at this; omega
    subst hj'
    simp at ho
    have := hit i f dn cur ho
    rw [List.getElem?_append_left (List.getElem?_eq_some_iff.1 this).1]; exact this
  ·have hlt : j < σ.ob.length := by
    have := (List.getElem?_eq_some_iff.1 ho).1
    simp at this; omega
   rw [List.getElem?_append_left hlt] at ho
   have := (List.getElem?_eq_some_iff.1 (h.store.dQ j i f dn cur ho)).1
   omega
  ·have hlt := h.store.lt ho hq hb
   exact ⟨hf.block b hlt (fun x => x), fun i hn => hnone b i hlt hn⟩
  ·subst hj
   simp at ho; subst ho
   exact ⟨pl, hlast, hok⟩
  ·subst hj
   simp at ho; subst ho
   simp only at hq
   rw [hlast] at hq; cases hq
   exact .inr (hblk b hb)
 ·refine h.iR.step hf (fun b hb => hb.elim) hm (fun b o x hx hn => .inr (hnew b o x hx hn).1) (fun i o p b h1 h2 h3 => ?_) (fun i b => hle.gs i _)
  by_cases hj : i < σ.ob.length
  ·rw [List.getElem?_append_left hj] at h1
   simp only at h2
   rw [List.getElem?_append_left (by omega)] at h2
   exact .inl (h.iR.own i o p b h1 h2 h3)
  ·have hj' : i = σ.ob.length := by have := (List.getElem?_eq_some_iff.1 h1).1; simp at this; omega
   subst hj'
   simp at h1; subst h1
   simp only at h2
   rw [hlast] at h2; cases h2
   exact .inr (hblk b h3)
variable {i : Nat} {o : Ob}
theorem cT.Iu (h : cT GL B σ g a w) (ho : σ.ob[i]? = some o) (hpl : g.gs[i]? = some pl) (hb : dA o pl = some b) (hf : Fr (fun c => c = b) w w')
 (hok : ef g w' o' pl) (hb' : dA o' pl = some b ∨ o' = .dead) (hno : ∀ (j : Nat) f dn cur, σ.ob[j]? ≠ some (.jk i f dn cur)) (hit : ∀ k f dn cur, o' = .jk k f dn cur → k ≠ i ∧ σ.ob[k]? = some (.fh f))
 (hmn : ∀ off, g.m b off = none) :
 cT GL B ⟨σ.n, σ.sl, σ.ob.set i o'⟩ g a w' ∧ qP (fun j => j = i) σ.ob g w g w' := by
 have hlen := h.store.len
 have hi := (List.getElem?_eq_some_iff.1 ho).1
 have hne : ∀ (j : Nat) oj pj c, j ≠ i → σ.ob[j]? = some oj → g.gs[j]? = some pj → cO oj pj c → c ≠ b := fun j oj pj c hj h1 h2 h3 e => by
  subst e; exact hj (h.store.oI j i oj o pj _ c h1 ho h2 hpl h3 (dY hb))
 refine ⟨⟨h.defers, h.size, h.di, ?_, ?_⟩, gg.refl _, fun j c oj hj h1 h2 h3 => ⟨h2, hf.block c (h.store.lt h1 h2 (dY h3)) (hne j oj _ c hj h1 h2 (dY h3))⟩⟩
 ·refine h.store.step (p := fun j => j = i) (gg.refl _) (fun _ _ h => h) (fun _ _ _ h => h) (fun c off x hx => ?_) (by simp [hlen]) (fun j o1 hj h1 => ?_) (fun j k f dn cur h1 => ?_) (fun j k f dn cur hj h1 hk => ?_)
   (fun j o1 q c hj h1 h2 h3 => ⟨hf.block c (h.store.lt h1 h2 h3) (hne j o1 q c hj h1 h2 h3), fun _ h => h⟩) (fun j o1 hj h1 => ?_) (fun j o1 q c hj h1 h2 h3 => ?_) (fun i j oi oj pi pj b hi hj _ _ _ _ _ _ => hi.trans hj.symm)
  ·have hs := h.store.sat c off x hx
   refine ⟨?_, hs.2⟩
   have hcb : ¬ c = b := fun e => by subst e; rw [hmn] at hx; cases hx
   rw [World.cell?_of_block (w := w) (hf.block c (h.store.jH hx) hcb)]; exact hs.1
  ·rw [List.getElem?_set_ne (Ne.symm hj)] at h1
   exact ⟨o1, h1, gX.refl (Gw.refl g) o1⟩
  ·by_cases hj : j = i
   ·subst hj
    rw [List.getElem?_set_self hi] at h1
    cases h1
    obtain ⟨h5, h6⟩ := hit k f dn cur rfl
    rw [List.getElem?_set_ne (Ne.symm h5)]; exact h6
   ·rw [List.getElem?_set_ne (Ne.symm hj)] at h1
    have h2 := h.store.dQ j k f dn cur h1
    by_cases hk : k = i
    ·subst hk; exact absurd h1 (hno j f dn cur)
    ·rw [List.getElem?_set_ne (Ne.symm hk)]; exact h2
  ·rw [List.getElem?_set_ne (Ne.symm hj)] at h1
   subst hk
   exact hno j f dn cur h1
  ·subst hj
   rw [List.getElem?_set_self hi] at h1
   cases h1
   exact ⟨_, hpl, hok⟩
  ·subst hj
   rw [List.getElem?_set_self hi] at h1
   cases h1
   rw [hpl] at h2; cases h2
   rcases hb' with hb' | rfl
   ·have e9 := y7 hb' h3
    subst e9
    exact .inl ⟨j, o, _, rfl, ho, hpl, dY hb⟩
   ·cases h3
 ·refine h.iR.step hf (fun c e => by subst e; exact h.iR.own i o _ c ho hpl (dY hb)) (gg.refl _) (fun c off x hx hn => by rw [hn] at hx; cases hx) (fun j o1 p c h1 h2 h3 => ?_) (fun _ _ h => h)
  by_cases hj : j = i
  ·subst hj
   rw [List.getElem?_set_self hi] at h1
   cases h1
   rw [hpl] at h2; cases h2
   rcases hb' with hb' | rfl
   ·have e9 := y7 hb' h3
    subst e9
    exact .inl (h.iR.own j o _ _ ho hpl (dY hb))
   ·cases h3
  ·rw [List.getElem?_set_ne (Ne.symm hj)] at h1
   exact .inl (h.iR.own j o1 p c h1 h2 h3)
mutual
def SV.kO (i : Nat) : SV → Option SV
 | .own j k ls => cond (Nat.beq j i) (some (.d (.sl k ls))) (some (.own j k ls))
 | .agg l => (G5 i l).bind fun l' => some (.agg l')
 | .cb l => (G5 i l).bind fun l' => some (.cb l')
 | .fn f first caps => (G5 i first).bind fun a => (G5 i caps).bind fun b => some (.fn f a b)
 | .tp T s => (s.kO i).bind fun s' => some (.tp T s')
 | .d x => some (.d x)
 | .bZ j off => some (.bZ j off)
 | .map j => some (.map j)
 | .rp j => cond (Nat.beq j i) (some .fH) (some (.rp j))
 | .arr j n => cond (Nat.beq j i) (some .fH) (some (.arr j n))
 | .bp j off => cond (Nat.beq j i) (some .fH) (some (.bp j off))
 | .vT k ls => some (.vT k ls)
 | .fH => some .fH
def G5 (i : Nat) : List SV → Option (List SV)
 | [] => some []
 | s :: r => (s.kO i).bind fun s' => (G5 i r).bind fun r' => some (s' :: r')
end
mutual
theorem Fk {i : Nat} : ∀ {s s' : SV}, s.kO i = some s' → s' = s.kill fun j => Nat.beq j i
 | .own j k ls, s', h => by
  simp only [SV.kO] at h
  simp only [SV.kill]
  cases hb : Nat.beq j i <;> rw [hb] at h <;> simp at h <;> simp [h]
 | .agg l, s', h => by
  simp only [SV.kO, Option.bind_eq_some_iff, Option.some.injEq] at h
  obtain ⟨l', h1, rfl⟩ := h
  simp only [SV.kill, oB h1]
 | .cb l, s', h => by
  simp only [SV.kO, Option.bind_eq_some_iff, Option.some.injEq] at h
  obtain ⟨l', h1, rfl⟩ := h
  simp only [SV.kill, oB h1]
 | .fn f a b, s', h => by
  simp only [SV.kO, Option.bind_eq_some_iff, Option.some.injEq] at h
  obtain ⟨a', h1, b', h2, rfl⟩ := h
  simp only [SV.kill, oB h1, oB h2]
 | .tp T s, s', h => by
  simp only [SV.kO, Option.bind_eq_some_iff, Option.some.injEq] at h
  obtain ⟨a', h1, rfl⟩ := h
  simp only [SV.kill, Fk h1]
 | .d x, s', h => by simp [SV.kO] at h; subst h; rfl
 | .bZ j off, s', h => by simp [SV.kO] at h; subst h; rfl
 | .map j, s', h => by simp [SV.kO] at h; subst h; rfl
 | .arr j n, s', h => by
  simp only [SV.kO] at h
  simp only [SV.kill]
  cases hb : Nat.beq j i <;> rw [hb] at h <;> simp at h <;> simp [h]
 | .bp j off, s', h => by
  simp only [SV.kO] at h
  simp only [SV.kill]
  cases hb : Nat.beq j i <;> rw [hb] at h <;> simp at h <;> simp [h]
 | .rp j, s', h => by
  simp only [SV.kO] at h
  simp only [SV.kill]
  cases hb : Nat.beq j i <;> rw [hb] at h <;> simp at h <;> simp [h]
 | .vT k ls, s', h => by simp [SV.kO] at h; subst h; rfl
 | .fH, s', h => by simp [SV.kO] at h; subst h; rfl
theorem oB {i : Nat} : ∀ {s s' : List SV}, G5 i s = some s' → s' = ji (fun j => Nat.beq j i) s
 | [], s', h => by simp [G5] at h; subst h; rfl
 | s :: r, s', h => by
  simp only [G5, Option.bind_eq_some_iff, Option.some.injEq] at h
  obtain ⟨a', h1, b', h2, rfl⟩ := h
  simp only [ji, Fk h1, oB h2]
end
def yq (i : Nat) : List (Nat × SV) → Option (List (Nat × SV))
 | [] => some []
 | (t, s) :: r => (s.kO i).bind fun s' => (yq i r).bind fun r' => some ((t, s') :: r')
theorem qB {i t : Nat} : ∀ {l l' : List (Nat × SV)}, yq i l = some l' → nf t l' = (nf t l).kill fun j => Nat.beq j i
 | [], l', h => by simp [yq] at h; subst h; rfl
 | (k, s) :: r, l', h => by
  simp only [yq, Option.bind_eq_some_iff, Option.some.injEq] at h
  obtain ⟨a', h1, b', h2, rfl⟩ := h
  rw [fe, fe]
  split
  ·exact Fk h1
  ·exact qB h2
def Ob.kO (i : Nat) : Ob → Option Ob
 | .cells l ty => (G5 i l).bind fun l' => some (.cells l' ty)
 | .row e k => some (.row e k)
 | .bP e k => some (.bP e k)
 | .buf e k ls q => some (.buf e k ls q)
 | .fh f => some (.fh f)
 | .cz f => some (.cz f)
 | .gH o k => some (.gH o k)
 | .jk j f dn cur => some (.jk j f dn cur)
 | .dead => some .dead
def yr (i : Nat) : List Ob → Option (List Ob)
 | [] => some []
 | o :: r => (o.kO i).bind fun o' => (yr i r).bind fun r' => some (o' :: r')
theorem o6 {i : Nat} : ∀ {l l' : List Ob}, yr i l = some l' → l'.length = l.length ∧ ∀ (j : Nat) o', l'[j]? = some o' → ∃ o, l[j]? = some o ∧ o.kO i = some o'
 | [], l', h => by simp [yr] at h; subst h; simp
 | o :: r, l', h => by
  simp only [yr, Option.bind_eq_some_iff, Option.some.injEq] at h
  obtain ⟨a', h1, b', h2, rfl⟩ := h
  have ih := o6 h2
  refine ⟨by simp [ih.1], fun j o' hj => ?_⟩
  cases j with
  | zero => simp at hj; subst hj; exact ⟨o, rfl, h1⟩
  | succ j => simpa using ih.2 j o' (by simpa using hj)
theorem gX.kO {g g' : Gh} {i : Nat} (h : Io (fun j => Nat.beq j i) g g') {o o' : Ob} (hk : o.kO i = some o') : gX g g' o o' := by
 cases o <;> simp only [Ob.kO, Option.bind_eq_some_iff, Option.some.injEq] at hk
 case cells l ty => obtain ⟨l', h1, rfl⟩ := hk; rw [oB h1]; exact ⟨rfl, fun vs hd => bj.kill h l hd⟩
 case row => subst hk; exact ⟨rfl, rfl⟩
 case bP => subst hk; exact ⟨rfl, rfl⟩
 case buf => subst hk; exact ⟨rfl, rfl, rfl, rfl, fun vs hd => dk.mono h.m _ hd⟩
 case fh => subst hk; rfl
 case cz => subst hk; exact ⟨rfl, h.m⟩
 case gH => subst hk; exact ⟨rfl, rfl, h.m⟩
 case jk => subst hk; exact ⟨rfl, rfl, rfl, .inl rfl⟩
 case dead => subst hk; trivial
theorem cT.K9 (h : cT GL B σ g a w) {b : Option Nat} {cap n : Nat} {e : TypeId} {k : Nat} (ho : σ.ob[i]? = some o) (hor : o = .row e k ∨ o = .bP e k) (hpl : g.gs[i]? = some (.row b cap n)) (hf : Fr (fun c => b = some c ∧ o = .row e k) w w')
 (hm : gg g.m m') {c cap' n' : Nat} (hc : (b = some c ∧ o = .row e k) ∨ w.heap.size ≤ c)
 (hnew : ∀ d off x, m' d off = some x → g.m d off = none → d = c) (hsat : ∀ off x, m' c off = some x → w'.cell? ⟨c, off, none⟩ = some x ∧ x.oneCell' = true)
 (hold : ∀ d off x, b = some d → g.m d off = some x → w'.cell? ⟨d, off, none⟩ = some x)
 (hok : ∃ xs, w'.ownsRow 0 e k (.slice (some ⟨c, 0, none⟩) n' cap') n' xs) (hfree : ∀ off, n' * k ≤ off → m' c off = none)
 {sl' : List (Nat × SV)} (hsl : yq i σ.sl = some sl') (hob : yr i σ.ob = some ob') :
 cT GL B ⟨σ.n, sl', ob'.set i (.row e k)⟩ ⟨m', g.gs.set i (.row (some c) cap' n')⟩ a w' ∧ qP (fun j => j = i) σ.ob g w ⟨m', g.gs.set i (.row (some c) cap' n')⟩ w' := by
 have hlen := h.store.len
 have hi := (List.getElem?_eq_some_iff.1 ho).1
 have hob2 := o6 hob
 have hself : (g.gs.set i (.row (some c) cap' n'))[i]? = some (.row (some c) cap' n') := List.getElem?_set_self (by omega)
 have hgs : ∀ (j : Nat) q, j ≠ i → g.gs[j]? = some q → (g.gs.set i (.row (some c) cap' n'))[j]? = some q := fun j q hj hq => by rw [List.getElem?_set_ne (Ne.symm hj)]; exact hq
 have hat : ∀ (j d : Nat), g.gs[j]? = some (.loc d) → (g.gs.set i (.row (some c) cap' n'))[j]? = some (.loc d) := fun j d hd => hgs j _ (fun e => by subst e; rw [hpl] at hd; cases hd) hd
 have hkl : Io (fun j => Nat.beq j i) g ⟨m', g.gs.set i (.row (some c) cap' n')⟩ := ⟨hm, fun j q hq hj => hgs j q (fun e => by subst e; simp at hj) hq, hat⟩
 have hbr : ∀ d, b = some d ∧ o = .row e k → cO o (.row b cap n) d := fun d hd => by rw [hd.2, hd.1]; rfl
 have hne : ∀ (j : Nat) oj pj d, j ≠ i → σ.ob[j]? = some oj → g.gs[j]? = some pj → cO oj pj d → ¬ (b = some d ∧ o = .row e k) ∧ d ≠ c := fun j oj pj d hj h1 h2 h3 => by
  have h4 : ¬ (b = some d ∧ o = .row e k) := fun hd => hj (h.store.oI j i oj o pj _ d h1 ho h2 hpl h3 (hbr d hd))
  refine ⟨h4, fun e => ?_⟩
  subst e
  rcases hc with hc | hc
  ·exact h4 hc
  ·have := h.store.lt h1 h2 h3; omega
 refine ⟨⟨h.defers, h.size, fun t => ?_, ?_, ?_⟩, hm, fun j d oj hj h1 h2 h3 => ⟨hat j d h2, hf.block d (h.store.lt h1 h2 (dY h3)) (hne j oj _ d hj h1 h2 (dY h3)).1⟩⟩
 ·show (nf t sl').Den _ _
  rw [qB hsl]
  exact SV.Den.kill hkl _ (h.di t)
 ·refine h.store.step (p := fun j => j = i) hm hat hgs (fun d off x hx => ?_) (by simp [hob2.1, hlen]) (fun j o1 hj h1 => ?_) (fun j q f dn cur h1 => ?_) (fun j q f dn cur hj h1 hk => ?_)
   (fun j o1 q d hj h1 h2 h3 => ⟨hf.block d (h.store.lt h1 h2 h3) (hne j o1 q d hj h1 h2 h3).1, fun off hn => ?_⟩) (fun j o1 hj h1 => ?_) (fun j o1 q d hj h1 h2 h3 => ?_) (fun i j oi oj pi pj b hi hj _ _ _ _ _ _ => hi.trans hj.symm)
  ·by_cases hdc : d = c
   ·subst hdc; exact hsat off x hx
   ·cases hg : g.m d off with
    | none => exact absurd (hnew d off x hx hg) hdc
    | some y =>
     have e1 := hm d off y hg
     simp only at hx
     rw [e1] at hx; cases hx
     have hs := h.store.sat d off x hg
     refine ⟨?_, hs.2⟩
     by_cases hbd : b = some d ∧ o = .row e k
     ·exact hold d off x hbd.1 hg
     ·rw [World.cell?_of_block (w := w) (hf.block d (h.store.jH hg) hbd)]; exact hs.1
  ·rw [List.getElem?_set_ne (Ne.symm hj)] at h1
   obtain ⟨o2, h2, h3⟩ := hob2.2 j o1 h1
   exact ⟨o2, h2, gX.kO hkl h3⟩
  ·by_cases hj : j = i
   ·subst hj
    rw [List.getElem?_set_self (by rw [hob2.1]; exact hi)] at h1
    cases h1
   ·rw [List.getElem?_set_ne (Ne.symm hj)] at h1
    obtain ⟨o2, h2, h3⟩ := hob2.2 j _ h1
    have h4 : o2 = .jk q f dn cur := by
     cases o2 <;> simp only [Ob.kO, Option.bind_eq_some_iff, Option.some.injEq] at h3
     case cells => obtain ⟨_, _, h3⟩ := h3; cases h3
     all_goals (cases h3; try rfl)
    subst h4
    have h5 := h.store.dQ j q f dn cur h2
    have hq : q ≠ i := fun e => by subst e; rw [ho] at h5; cases h5; rcases hor with hor | hor <;> cases hor
    rw [List.getElem?_set_ne (Ne.symm hq)]
    have h6 : q < ob'.length := by rw [hob2.1]; exact (List.getElem?_eq_some_iff.1 h5).1
    obtain ⟨o3, h7, h8⟩ := hob2.2 q ob'[q] (by simp [h6])
    rw [h5] at h7; cases h7
    simp [Ob.kO] at h8
    rw [List.getElem?_eq_getElem h6, ← h8]
  ·rw [List.getElem?_set_ne (Ne.symm hj)] at h1
   obtain ⟨o2, h2, h3⟩ := hob2.2 j _ h1
   have h4 : o2 = .jk q f dn cur := by
    cases o2 <;> simp only [Ob.kO, Option.bind_eq_some_iff, Option.some.injEq] at h3
    case cells => obtain ⟨_, _, h3⟩ := h3; cases h3
    all_goals (cases h3; try rfl)
   have hk : q = i := hk
   subst h4 hk
   have h5 := h.store.dQ j _ f dn cur h2
   rw [ho] at h5; cases h5; rcases hor with hor | hor <;> cases hor
  ·cases hx : m' d off with
   | none => exact hx
   | some x => exact absurd (hnew d off x hx hn) (hne j o1 q d hj h1 h2 h3).2
  ·subst hj
   rw [List.getElem?_set_self (by rw [hob2.1]; exact hi)] at h1
   cases h1
   exact ⟨_, hself, hok, fun d hd off hoff => by cases hd; exact hfree off hoff⟩
  ·subst hj
   rw [List.getElem?_set_self (by rw [hob2.1]; exact hi)] at h1
   cases h1
   simp only at h2
   rw [hself] at h2; cases h2
   simp only [cO, dA, Option.some.injEq] at h3
   subst h3
   rcases hc with hc | hc
   ·exact .inl ⟨_, o, _, rfl, ho, hpl, hbr _ hc⟩
   ·exact .inr hc
 ·have hX : ∀ d, b = some d ∧ o = .row e k → B.X d ∨ B.w.heap.size ≤ d := fun d hd => h.iR.own i o _ d ho hpl (hbr d hd)
  refine h.iR.step hf hX hm (fun d off x hx hn => by
   have := hnew d off x hx hn
   subst this; exact hc) (fun j o1 p d h1 h2 h3 => ?_) hat
  by_cases hj : j = i
  ·subst hj
   rw [List.getElem?_set_self (by rw [hob2.1]; exact hi)] at h1
   cases h1
   simp only at h2
   rw [hself] at h2; cases h2
   simp only [cO, dA, Option.some.injEq] at h3
   subst h3
   rcases hc with hc | hc
   ·exact .inl (hX _ hc)
   ·exact .inr hc
  ·rw [List.getElem?_set_ne (Ne.symm hj)] at h1
   simp only at h2
   rw [List.getElem?_set_ne (Ne.symm hj)] at h2
   obtain ⟨o2, h4, h5⟩ := hob2.2 j o1 h1
   refine .inl (h.iR.own j o2 p d h4 h2 ?_)
   rcases (gX.kO hkl h5).bZ h3 (fun _ _ => trivial) with h6 | ⟨e', k', rfl⟩
   ·exact h6
   ·simp [Ob.kO] at h5; subst h5; simp [cO, dA] at h3
end
end Go.Vd
namespace Go.Vd
open Go Go.RowKit
inductive Out where
 | ret (s : SV)
 | JK (s : SV)
def fJ : List Ob → Bool
 | [] => true
 | .jk _ _ _ _ :: _ => false
 | .cells _ _ :: r => fJ r
 | .row _ _ :: r => fJ r
 | .bP _ _ :: r => fJ r
 | .buf _ _ _ _ :: r => fJ r
 | .fh _ :: r => fJ r
 | .cz _ :: r => fJ r
 | .gH _ _ :: r => fJ r
 | .dead :: r => fJ r
theorem eK : ∀ {ob : List Ob}, fJ ob = true → ∀ (j i : Nat) f dn cur, ob[j]? ≠ some (.jk i f dn cur)
 | [], _, j, i, f, dn, cur => by simp
 | o :: r, h, 0, i, f, dn, cur => by intro e; simp at e; subst e; cases h
 | o :: r, h, j + 1, i, f, dn, cur => by
  have : fJ r = true := by cases o <;> first | exact h | cases h
  simpa using eK this j i f dn cur
def gf (ob : List Ob) (g : Gh) (b : Nat) : Prop := ∃ (i : Nat) (o : Ob) (p : Pl), ob[i]? = some o ∧ g.gs[i]? = some p ∧ cO o p b
def ey (P : Program) (GL : Nat → List D) (f : FuncId) (ob : List Ob) (args : List SV) (Q : Out → List Ob → Prop) : Prop :=
 ∀ (g : Gh) (w : World) (vs : List Value), cH GL ob g w → bj g args vs →
  Calls P f ⟨vs⟩ w fun e w' => ∃ g' ob', cH GL ob' g' w' ∧ C6 ⟨g, w, gf ob g, ob.length, []⟩ ob' g' w' ∧ ob.length ≤ ob'.length ∧ fJ ob' = true ∧
   (match e with
    | .returned v => ∃ s, s.Den g' v ∧ Q (.ret s) ob'
    | .panicked c => ∃ v s, c = [{ v := v, recovered := false }] ∧ s.Den g' v ∧ Q (.JK s) ob'
    | .outgrown => False)
theorem ey.mono {P : Program} {GL : Nat → List D} {f : FuncId} {ob : List Ob} {args : List SV} {Q Q' : Out → List Ob → Prop} (h : ey P GL f ob args Q) (hq : ∀ o b, Q o b → Q' o b) : ey P GL f ob args Q' := fun g w vs hs hd =>
 (h g w vs hs hd).mono fun e w' ⟨g', ob', h1, h2, h3, h4, h5⟩ => ⟨g', ob', h1, h2, h3, h4, by
  cases e with
  | returned v => obtain ⟨s, h6, h7⟩ := h5; exact ⟨s, h6, hq _ _ h7⟩
  | panicked c => obtain ⟨v, s, h6, h7, h8⟩ := h5; exact ⟨v, s, h6, h7, hq _ _ h8⟩
  | outgrown => exact h5⟩
mutual
def SV.iN (ρ : List Nat) : SV → Option SV
 | .d x => some (.d x)
 | .bZ i off => (cC i ρ).bind fun j => some (.bZ j off)
 | .agg l => (lL ρ l).bind fun l' => some (.agg l')
 | .cb l => (lL ρ l).bind fun l' => some (.cb l')
 | .own i k ls => (cC i ρ).bind fun j => some (.own j k ls)
 | .fn f a b => (lL ρ a).bind fun a' => (lL ρ b).bind fun b' => some (.fn f a' b')
 | .tp T s => (s.iN ρ).bind fun s' => some (.tp T s')
 | .map i => (cC i ρ).bind fun j => some (.map j)
 | .rp i => (cC i ρ).bind fun j => some (.rp j)
 | .arr i n => (cC i ρ).bind fun j => some (.arr j n)
 | .bp i off => (cC i ρ).bind fun j => some (.bp j off)
 | .vT k ls => some (.vT k ls)
 | .fH => some .fH
def lL (ρ : List Nat) : List SV → Option (List SV)
 | [] => some []
 | s :: r => (s.iN ρ).bind fun s' => (lL ρ r).bind fun r' => some (s' :: r')
end
def HD (ρ : List Nat) (g g' : Gh) : Prop := gg g.m g'.m ∧ ∀ (i j : Nat) p, ρ[i]? = some j → g.gs[i]? = some p → g'.gs[j]? = some p
mutual
theorem SV.xH {ρ : List Nat} {g g' : Gh} (h : HD ρ g g') : ∀ (s : SV) {t : SV} {y : Value}, s.iN ρ = some t → s.Den g y → t.Den g' y
 | .d x, t, y, hr, hd => by simp [SV.iN] at hr; subst hr; exact D.Den.mono h.1 x hd
 | .bZ i off, t, y, hr, ⟨b, hb, e⟩ => by
  simp only [SV.iN, Option.bind_eq_some_iff, Option.some.injEq] at hr
  obtain ⟨j, hj, rfl⟩ := hr
  exact ⟨b, h.2 i j _ (bL hj) hb, e⟩
 | .agg l, t, y, hr, ⟨vs, e, hd⟩ => by
  simp only [SV.iN, Option.bind_eq_some_iff, Option.some.injEq] at hr
  obtain ⟨l', hl, rfl⟩ := hr
  exact ⟨vs, e, lJ h l hl hd⟩
 | .cb l, t, y, hr, ⟨vs, e, hd⟩ => by
  simp only [SV.iN, Option.bind_eq_some_iff, Option.some.injEq] at hr
  obtain ⟨l', hl, rfl⟩ := hr
  exact ⟨vs, e, lJ h l hl hd⟩
 | .own i k ls, t, y, hr, ⟨b, cap, hb, e, hc, hd⟩ => by
  simp only [SV.iN, Option.bind_eq_some_iff, Option.some.injEq] at hr
  obtain ⟨j, hj, rfl⟩ := hr
  exact ⟨b, cap, h.2 i j _ (bL hj) hb, e, hc, fun hn => by obtain ⟨c, e2, h2⟩ := hd hn; exact ⟨c, e2, dM.mono h.1 ls h2⟩⟩
 | .fn f a b, t, y, hr, ⟨vs, us, e, h1, h2⟩ => by
  simp only [SV.iN, Option.bind_eq_some_iff, Option.some.injEq] at hr
  obtain ⟨a', ha, b', hb, rfl⟩ := hr
  exact ⟨vs, us, e, lJ h a ha h1, lJ h b hb h2⟩
 | .tp T s, t, y, hr, ⟨x, e, hd⟩ => by
  simp only [SV.iN, Option.bind_eq_some_iff, Option.some.injEq] at hr
  obtain ⟨s', hs, rfl⟩ := hr
  exact ⟨x, e, SV.xH h s hs hd⟩
 | .map i, t, y, hr, ⟨b, hb, e⟩ => by
  simp only [SV.iN, Option.bind_eq_some_iff, Option.some.injEq] at hr
  obtain ⟨j, hj, rfl⟩ := hr
  exact ⟨b, h.2 i j _ (bL hj) hb, e⟩
 | .arr i n, t, y, hr, ⟨b, cap, hb, e⟩ => by
  simp only [SV.iN, Option.bind_eq_some_iff, Option.some.injEq] at hr
  obtain ⟨j, hj, rfl⟩ := hr
  exact ⟨b, cap, h.2 i j _ (bL hj) hb, e⟩
 | .bp i off, t, y, hr, ⟨b, cap, n, hb, e⟩ => by
  simp only [SV.iN, Option.bind_eq_some_iff, Option.some.injEq] at hr
  obtain ⟨j, hj, rfl⟩ := hr
  exact ⟨b, cap, n, h.2 i j _ (bL hj) hb, e⟩
 | .rp i, t, y, hr, ⟨b, cap, n, hb, e⟩ => by
  simp only [SV.iN, Option.bind_eq_some_iff, Option.some.injEq] at hr
  obtain ⟨j, hj, rfl⟩ := hr
  exact ⟨b, cap, n, h.2 i j _ (bL hj) hb, e⟩
 | .vT k ls, t, y, hr, ⟨a, e, hd⟩ => by
  simp [SV.iN] at hr; subst hr
  exact ⟨a, e, fun hn => by obtain ⟨b, off, e2, h2⟩ := hd hn; exact ⟨b, off, e2, dM.mono h.1 ls h2⟩⟩
 | .fH, t, y, hr, _ => by simp [SV.iN] at hr; subst hr; trivial
theorem lJ {ρ : List Nat} {g g' : Gh} (h : HD ρ g g') : ∀ (l : List SV) {l' : List SV} {vs : List Value}, lL ρ l = some l' → bj g l vs → bj g' l' vs
 | [], l', vs, hr, hd => by simp [lL] at hr; subst hr; exact hd
 | s :: r, l', vs, hr, ⟨x, v', e, h1, h2⟩ => by
  simp only [lL, Option.bind_eq_some_iff, Option.some.injEq] at hr
  obtain ⟨s', hs, r', hr', rfl⟩ := hr
  exact ⟨x, v', e, SV.xH h s hs h1, lJ h r hr' h2⟩
end
def Gf (ρ : List Nat) (g g' : Gh) : Prop := gg g'.m g.m ∧ ∀ (i j : Nat) p, ρ[i]? = some j → g'.gs[j]? = some p → g.gs[i]? = some p
mutual
theorem SV.n8 {ρ : List Nat} {g g' : Gh} (h : Gf ρ g g') : ∀ (s : SV) {t : SV} {y : Value}, s.iN ρ = some t → t.Den g' y → s.Den g y
 | .d x, t, y, hr, hd => by simp [SV.iN] at hr; subst hr; exact D.Den.mono h.1 x hd
 | .bZ i off, t, y, hr, hd => by
  simp only [SV.iN, Option.bind_eq_some_iff, Option.some.injEq] at hr
  obtain ⟨j, hj, rfl⟩ := hr
  obtain ⟨b, hb, e⟩ := hd
  exact ⟨b, h.2 i j _ (bL hj) hb, e⟩
 | .agg l, t, y, hr, hd => by
  simp only [SV.iN, Option.bind_eq_some_iff, Option.some.injEq] at hr
  obtain ⟨l', hl, rfl⟩ := hr
  obtain ⟨vs, e, hd⟩ := hd
  exact ⟨vs, e, gq h l hl hd⟩
 | .cb l, t, y, hr, hd => by
  simp only [SV.iN, Option.bind_eq_some_iff, Option.some.injEq] at hr
  obtain ⟨l', hl, rfl⟩ := hr
  obtain ⟨vs, e, hd⟩ := hd
  exact ⟨vs, e, gq h l hl hd⟩
 | .own i k ls, t, y, hr, hd => by
  simp only [SV.iN, Option.bind_eq_some_iff, Option.some.injEq] at hr
  obtain ⟨j, hj, rfl⟩ := hr
  obtain ⟨b, cap, hb, e, hc, hd⟩ := hd
  exact ⟨b, cap, h.2 i j _ (bL hj) hb, e, hc, fun hn => by obtain ⟨c, e2, h2⟩ := hd hn; exact ⟨c, e2, dM.mono h.1 ls h2⟩⟩
 | .fn f a b, t, y, hr, hd => by
  simp only [SV.iN, Option.bind_eq_some_iff, Option.some.injEq] at hr
  obtain ⟨a', ha, b', hb, rfl⟩ := hr
  obtain ⟨vs, us, e, h1, h2⟩ := hd
  exact ⟨vs, us, e, gq h a ha h1, gq h b hb h2⟩
 | .tp T s, t, y, hr, hd => by
  simp only [SV.iN, Option.bind_eq_some_iff, Option.some.injEq] at hr
  obtain ⟨s', hs, rfl⟩ := hr
  obtain ⟨x, e, hd⟩ := hd
  exact ⟨x, e, SV.n8 h s hs hd⟩
 | .map i, t, y, hr, hd => by
  simp only [SV.iN, Option.bind_eq_some_iff, Option.some.injEq] at hr
  obtain ⟨j, hj, rfl⟩ := hr
  obtain ⟨b, hb, e⟩ := hd
  exact ⟨b, h.2 i j _ (bL hj) hb, e⟩
 | .arr i n, t, y, hr, hd => by
  simp only [SV.iN, Option.bind_eq_some_iff, Option.some.injEq] at hr
  obtain ⟨j, hj, rfl⟩ := hr
  obtain ⟨b, cap, hb, e⟩ := hd
  exact ⟨b, cap, h.2 i j _ (bL hj) hb, e⟩
 | .bp i off, t, y, hr, hd => by
  simp only [SV.iN, Option.bind_eq_some_iff, Option.some.injEq] at hr
  obtain ⟨j, hj, rfl⟩ := hr
  obtain ⟨b, cap, n, hb, e⟩ := hd
  exact ⟨b, cap, n, h.2 i j _ (bL hj) hb, e⟩
 | .rp i, t, y, hr, hd => by
  simp only [SV.iN, Option.bind_eq_some_iff, Option.some.injEq] at hr
  obtain ⟨j, hj, rfl⟩ := hr
  obtain ⟨b, cap, n, hb, e⟩ := hd
  exact ⟨b, cap, n, h.2 i j _ (bL hj) hb, e⟩
 | .vT k ls, t, y, hr, hd => by
  simp [SV.iN] at hr; subst hr
  obtain ⟨a, e, hd⟩ := hd
  exact ⟨a, e, fun hn => by obtain ⟨b, off, e2, h2⟩ := hd hn; exact ⟨b, off, e2, dM.mono h.1 ls h2⟩⟩
 | .fH, t, y, hr, _ => trivial
theorem gq {ρ : List Nat} {g g' : Gh} (h : Gf ρ g g') : ∀ (l : List SV) {l' : List SV} {vs : List Value}, lL ρ l = some l' → bj g' l' vs → bj g l vs
 | [], l', vs, hr, hd => by simp [lL] at hr; subst hr; exact hd
 | s :: r, l', vs, hr, hd => by
  simp only [lL, Option.bind_eq_some_iff, Option.some.injEq] at hr
  obtain ⟨s', hs, r', hr', rfl⟩ := hr
  obtain ⟨x, v', e, h1, h2⟩ := hd
  exact ⟨x, v', e, SV.n8 h s hs h1, gq h r hr' h2⟩
end
mutual
inductive At : D → D → Prop
 | refl (x : D) : At x x
 | nil {k : Nat} : At (.v (.slice none 0 0)) (.sl k [])
 | agg {l l' : List D} (h : jY l l') : At (.agg l) (.agg l')
 | cb {l l' : List D} (h : jY l l') : At (.cb l) (.cb l')
 | cp {l l' : List D} (h : jY l l') : At (.cp l) (.cp l')
 | sl {k : Nat} {l l' : List (List D)} (h : kN l l') : At (.sl k l) (.sl k l')
inductive jY : List D → List D → Prop
 | nil : jY [] []
 | cons {x y : D} {l m : List D} (h : At x y) (r : jY l m) : jY (x :: l) (y :: m)
inductive kN : List (List D) → List (List D) → Prop
 | nil : kN [] []
 | cons {x y : List D} {l m : List (List D)} (h : jY x y) (r : kN l m) : kN (x :: l) (y :: m)
end
theorem jY.length : ∀ {l m : List D}, jY l m → m.length = l.length
 | _, _, .nil => rfl
 | _, _, .cons _ r => by simp [jY.length r]
theorem kN.length : ∀ {l m : List (List D)}, kN l m → m.length = l.length
 | _, _, .nil => rfl
 | _, _, .cons _ r => by simp [kN.length r]
mutual
theorem At.den {m : Mem} : ∀ {x y : D}, At x y → ∀ {v : Value}, x.Den m v → y.Den m v
 | _, _, .refl _, _, hd => hd
 | _, _, .nil, _, hd => by simp only [D.Den] at hd; exact ⟨none, 0, by rw [hd]; rfl, by simp, fun h => absurd rfl h⟩
 | _, _, .agg h, _, ⟨vs, e, hd⟩ => ⟨vs, e, jY.den h hd⟩
 | _, _, .cb h, _, ⟨vs, e, hd⟩ => ⟨vs, e, jY.den h hd⟩
 | _, _, .cp h, _, ⟨b, off, e, hd⟩ => ⟨b, off, e, jY.Jo h hd⟩
 | _, _, .sl h, _, ⟨a, cap, e, hc, hd⟩ => ⟨a, cap, by rw [h.length]; exact e, by rw [h.length]; exact hc, fun hn => by
  obtain ⟨b, off, e2, h2⟩ := hd (fun h0 => by subst h0; cases h; exact hn rfl)
  exact ⟨b, off, e2, kN.Jn h h2⟩⟩
theorem jY.den {m : Mem} : ∀ {x y : List D}, jY x y → ∀ {vs : List Value}, dk m x vs → dk m y vs
 | _, _, .nil, _, hd => hd
 | _, _, .cons h r, _, ⟨x, l', e, h1, h2⟩ => ⟨x, l', e, At.den h h1, jY.den r h2⟩
theorem jY.Jo {m : Mem} : ∀ {x y : List D}, jY x y → ∀ {b off : Nat}, ej m b off x → ej m b off y
 | _, _, .nil, _, _, _ => trivial
 | _, _, .cons h r, _, _, ⟨⟨x, h1, h2⟩, h3⟩ => ⟨⟨x, h1, At.den h h2⟩, jY.Jo r h3⟩
theorem kN.Jn {m : Mem} : ∀ {x y : List (List D)}, kN x y → ∀ {k b off : Nat}, dM m k b off x → dM m k b off y
 | _, _, .nil, _, _, _, _ => trivial
 | _, _, .cons h r, _, _, _, ⟨⟨h0, h1⟩, h2⟩ => ⟨⟨by rw [h.length]; exact h0, jY.Jo h h1⟩, kN.Jn r h2⟩
end
inductive Fit (ob : List Ob) : SV → SV → Prop
 | refl (s : SV) : Fit ob s s
 | gp {s : SV} {x : D} (h : s.gp = some x) : Fit ob s (.d x)
 | nil {i k : Nat} {e : TypeId} (h : cC i ob = some (.bP e k)) : Fit ob (.d (.v (.slice none 0 0))) (.own i k [])
 | J5 {i k : Nat} {e : TypeId} (h : cC i ob = some (.bP e k)) : Fit ob (.d (.v (.slice none 0 0))) (.arr i 0)
 | G2 {k : Nat} : Fit ob (.d (.v (.slice none 0 0))) (.d (.sl k []))
 | fH (s : SV) : Fit ob s .fH
 | Jm {s : SV} {x y : D} (h : s.gp = some x) (hl : At x y) : Fit ob s (.d y)
 | own {i k : Nat} {ls ls' : List (List D)} (h : kN ls ls') : Fit ob (.own i k ls) (.own i k ls')
inductive ia (ob : List Ob) : List SV → List SV → Prop
 | nil : ia ob [] []
 | cons {s t : SV} {l m : List SV} (h : Fit ob s t) (r : ia ob l m) : ia ob (s :: l) (t :: m)
section
variable {GL : Nat → List D}
theorem Fit.den {ob : List Ob} {g : Gh} {w : World} (hs : cH GL ob g w) {s t : SV} (h : Fit ob s t) {y : Value} (hd : s.Den g y) : t.Den g y := by
 cases h with
 | refl => exact hd
 | gp h => exact SV.Den.gp s hd h
 | fH => trivial
 | Jm h hl => exact hl.den (SV.Den.gp s hd h)
 | own h =>
  obtain ⟨b, cap, e1, e2, e3, e4⟩ := hd
  exact ⟨b, cap, by rw [h.length]; exact e1, by rw [h.length]; exact e2, by rw [h.length]; exact e3, fun hn => by
   obtain ⟨c, e5, e6⟩ := e4 (fun h0 => by subst h0; cases h; exact hn rfl)
   exact ⟨c, e5, kN.Jn h e6⟩⟩
 | nil h =>
  have ho := bL h
  obtain ⟨p, hp⟩ := hs.place ho
  have hok := hs.gM _ _ _ ho hp
  simp only [ef] at hok; subst hok
  simp only [SV.Den, D.Den] at hd
  exact ⟨none, 0, hp, by rw [hd]; rfl, by simp, fun h => absurd rfl h⟩
 | J5 h =>
  have ho := bL h
  obtain ⟨p, hp⟩ := hs.place ho
  have hok := hs.gM _ _ _ ho hp
  simp only [ef] at hok; subst hok
  simp only [SV.Den, D.Den] at hd
  exact ⟨none, 0, hp, by rw [hd]; rfl⟩
 | G2 =>
  simp only [SV.Den, D.Den] at hd
  exact ⟨none, 0, by rw [hd]; rfl, by simp, fun h => absurd rfl h⟩
theorem ia.den {ob : List Ob} {g : Gh} {w : World} (hs : cH GL ob g w) : ∀ {l m : List SV}, ia ob l m → ∀ {vs : List Value}, bj g l vs → bj g m vs
 | _, _, .nil, _, hd => hd
 | _, _, .cons h r, _, ⟨x, l', e, h1, h2⟩ => ⟨x, l', e, h.den hs h1, r.den hs h2⟩
inductive im (ob : List Ob) (ρ : List Nat) : Ob → Ob → Prop
 | cells {lc l m : List SV} {ty : TypeId} (h : lL ρ lc = some m) (hf : ia ob l m) : im ob ρ (.cells lc ty) (.cells l ty)
 | row {e : TypeId} {k : Nat} : im ob ρ (.row e k) (.row e k)
 | J4 {e : TypeId} {k : Nat} : im ob ρ (.row e k) (.bP e k)
 | HN {e : TypeId} {k : Nat} : im ob ρ (.bP e k) (.bP e k)
 | buf {e : TypeId} {k : Nat} {ls : List (List D)} {q : Option (Option Nat × Nat)} : im ob ρ (.buf e k ls q) (.buf e k ls q)
 | Lw {e : TypeId} {k : Nat} {ls : List (List D)} {q : Option (Option Nat × Nat)} : im ob ρ (.buf e k ls none) (.buf e k ls q)
 | J6 {e : TypeId} {k : Nat} : im ob ρ (.buf e k [] none) (.bP e k)
 | fh {f : ByteArray → Option Int} : im ob ρ (.fh f) (.fh f)
 | cz {f : ByteArray → Option D} : im ob ρ (.cz f) (.cz f)
 | gH {o : Nat → Prop} {k : Mem → World → Prop} : im ob ρ (.gH o k) (.gH o k)
 | dead {o : Ob} : im ob ρ .dead o
 | jk {k i : Nat} {f : ByteArray → Option Int} {dn : List (ByteArray × Int)} {cur cur' : Option (ByteArray × Int)} (hk : cC k ρ = some i) (hc : cur = cur' ∨ cur = none) : im ob ρ (.jk k f dn cur) (.jk i f dn cur')
inductive bX (ob : List Ob) (ρ : List Nat) : List Ob → List Nat → Prop
 | nil : bX ob ρ [] []
 | cons {oc o : Ob} {r : List Ob} {i : Nat} {is : List Nat} (hi : cC i ob = some o) (h : im ob ρ oc o) (hr : bX ob ρ r is) : bX ob ρ (oc :: r) (i :: is)
theorem bX.get {ob : List Ob} {ρ : List Nat} : ∀ {obc : List Ob} {is : List Nat}, bX ob ρ obc is → obc.length = is.length ∧ ∀ (k : Nat) oc, obc[k]? = some oc → ∃ i o, is[k]? = some i ∧ ob[i]? = some o ∧ im ob ρ oc o
 | _, _, .nil => ⟨rfl, by simp⟩
 | _, _, .cons hi h hr => by
  have ih := hr.get
  refine ⟨by simp [ih.1], fun k oc hk => ?_⟩
  cases k with
  | zero => simp at hk; subst hk; exact ⟨_, _, rfl, bL hi, h⟩
  | succ k => simpa using ih.2 k oc (by simpa using hk)
variable {ob : List Ob} {ρ : List Nat}
theorem im.bZ {oc o : Ob} {p : Pl} {b : Nat} (h : im ob ρ oc o) (hb : cO oc p b) : cO o p b ∨ ∃ e k, o = .bP e k := by
 cases h <;> cases p <;> simp_all [cO, dA]
theorem cH.sub {obc : List Ob} {g : Gh} {w : World} (h : cH GL ob g w) (hf : bX ob ρ obc ρ) (hnd : ρ.Nodup) (hno : ∀ (j i : Nat) f dn cur, obc[j]? = some (.jk i f dn cur) → obc[i]? = some (.fh f)) :
 cH GL obc ⟨g.m, ρ.map fun i => g.gs.getD i (.loc 0)⟩ w ∧ Gf ρ ⟨g.m, ρ.map fun i => g.gs.getD i (.loc 0)⟩ g ∧ (∀ b, gf obc ⟨g.m, ρ.map fun i => g.gs.getD i (.loc 0)⟩ b → ∃ (i k : Nat) (o : Ob) (p : Pl), ρ[k]? = some i ∧ ob[i]? = some o ∧ g.gs[i]? = some p ∧ cO o p b) := by
 have hget := hf.get
 have hpl : ∀ (k i : Nat) p, ρ[k]? = some i → g.gs[i]? = some p → (ρ.map fun i => g.gs.getD i (.loc 0))[k]? = some p := fun k i p h1 h2 => by
  rw [List.getElem?_map, h1]; simp [List.getD_eq_getElem?_getD, h2]
 have hrb : Gf ρ ⟨g.m, ρ.map fun i => g.gs.getD i (.loc 0)⟩ g := ⟨gg.refl _, fun i j p h1 h2 => hpl i j p h1 h2⟩
 have hob : ∀ (k : Nat) oc p, obc[k]? = some oc → (ρ.map fun i => g.gs.getD i (.loc 0))[k]? = some p → ∃ i o, ρ[k]? = some i ∧ ob[i]? = some o ∧ g.gs[i]? = some p ∧ im ob ρ oc o := fun k oc p h1 h2 => by
  obtain ⟨i, o, h3, h4, h5⟩ := hget.2 k oc h1
  obtain ⟨q, hq⟩ := h.place h4
  have := hpl k i q h3 hq
  rw [h2] at this; cases this
  exact ⟨i, o, h3, h4, hq, h5⟩
 have hblk : ∀ {oc o : Ob} {i : Nat} {p : Pl} {b : Nat}, ob[i]? = some o → g.gs[i]? = some p → im ob ρ oc o → cO oc p b → cO o p b := fun {oc o i p b} h1 h2 h3 h4 => by
  rcases h3.bZ h4 with h5 | ⟨e, k, rfl⟩
  ·exact h5
  ·have := h.gM _ _ _ h1 h2
   simp only [ef] at this; subst this
   cases h3 <;> simp [cO, dA] at h4
 refine ⟨⟨by simp [hget.1], fun k oc p h1 h2 => ?_, hno, fun i j oi oj pi pj b h1 h2 h3 h4 h5 h6 => ?_, h.sat, h.Fx⟩, hrb, fun b hb => ?_⟩
 ·obtain ⟨i, o, h3, h4, h5, h6⟩ := hob k oc p h1 h2
  have hok := h.gM i o p h4 h5
  cases h6 with
  | cells hr hfl =>
   cases p with
   | loc b =>
    obtain ⟨vs, e1, e2, e3⟩ := hok
    exact ⟨vs, e1, gq hrb _ hr (hfl.den h e2), e3⟩
   | row b c n => exact hok.elim
  | row => cases p with
   | loc b => exact hok.elim
   | row b c n => exact hok
  | J4 =>
   simp only [ef] at hok; subst hok
   exact ⟨⟨[], by simp, .inl ⟨rfl, rfl⟩⟩, fun c hc => by cases hc⟩
  | HN => exact hok
  | buf => cases p with
   | loc b => exact hok.elim
   | row b c n => exact hok
  | Lw => cases p with
   | loc b => exact hok.elim
   | row b c n => exact ⟨hok.1, hok.2.1, hok.2.2.1, hok.2.2.2.1, fun r e => by cases e⟩
  | J6 =>
   simp only [ef] at hok; subst hok
   exact ⟨rfl, by simp, ⟨[], ⟨by simp, .inl ⟨rfl, rfl⟩⟩, rfl, by simp⟩, (fun c hc => by cases hc), fun r e => by cases e⟩
  | fh => cases p with
   | loc b => exact hok
   | row b c n => exact hok.elim
  | cz => cases p with
   | loc b => exact hok
   | row b c n => exact hok.elim
  | gH => cases p <;> exact hok
  | dead => cases p <;> trivial
  | jk hk hc => cases p with
   | loc b =>
    obtain ⟨c, e1, e2, e3, e4⟩ := hok
    refine ⟨c, hrb.2 _ _ _ (bL hk) e1, e2, fun s n e => ?_, e4⟩
    rcases hc with rfl | rfl
    ·exact e3 s n e
    ·cases e
   | row b c n => exact hok.elim
 ·obtain ⟨i1, o1, a1, a2, a3, a4⟩ := hob i oi pi h1 h3
  obtain ⟨i2, o2, b1, b2, b3, b4⟩ := hob j oj pj h2 h4
  have e := h.oI i1 i2 o1 o2 pi pj b a2 b2 a3 b3 (hblk a2 a3 a4 h5) (hblk b2 b3 b4 h6)
  subst e
  exact (List.getElem?_inj (List.getElem?_eq_some_iff.1 a1).1 hnd).1 (a1.trans b1.symm)
 ·obtain ⟨k, oc, p, h1, h2, h3⟩ := hb
  obtain ⟨i, o, a1, a2, a3, a4⟩ := hob k oc p h1 h2
  exact ⟨i, k, o, p, a1, a2, a3, hblk a2 a3 a4 h3⟩
def iX {α : Type} : List α → List α → Option (List α)
 | [], m => some m
 | x :: l, m => (iX l m).bind fun r => some (x :: r)
theorem fO {α : Type} : ∀ {l m r : List α}, iX l m = some r → r = l ++ m
 | [], m, r, h => by simp [iX] at h; simp [h]
 | x :: l, m, r, h => by
  simp only [iX, Option.bind_eq_some_iff, Option.some.injEq] at h
  obtain ⟨r', h1, rfl⟩ := h
  simp [fO h1]
def hJ {α : Type} : Nat → α → List α → Option (List α)
 | _, _, [] => none
 | 0, y, _ :: l => some (y :: l)
 | n + 1, y, x :: l => (hJ n y l).bind fun r => some (x :: r)
theorem eH {α : Type} : ∀ {n : Nat} {y : α} {l r : List α}, hJ n y l = some r → r = l.set n y ∧ n < l.length
 | 0, y, [], r, h => by cases h
 | n + 1, y, [], r, h => by cases h
 | 0, y, x :: l, r, h => by simp [hJ] at h; subst h; simp
 | n + 1, y, x :: l, r, h => by
  simp only [hJ, Option.bind_eq_some_iff, Option.some.injEq] at h
  obtain ⟨r', h1, rfl⟩ := h
  have := eH h1
  simp [this.1, this.2]
def jO {α : Type} : List Nat → List α → List α → Option (List α)
 | [], l, rs => iX l rs
 | i :: ix, l, r :: rs => (hJ i r l).bind fun l' => jO ix l' rs
 | _ :: _, _, [] => none
def names (ix : List Nat) (n : Nat) : Nat → List Nat
 | 0 => ix
 | m + 1 => names (ix ++ [n]) (n + 1) m
theorem rm {α : Type} : ∀ {ix : List Nat} {l rs r : List α}, jO ix l rs = some r → ix.Nodup → ix.length ≤ rs.length ∧ (∀ i ∈ ix, i < l.length) ∧ r.length = l.length + (rs.length - ix.length) ∧
 (∀ (k i : Nat) x, ix[k]? = some i → rs[k]? = some x → r[i]? = some x) ∧ (∀ (i : Nat), i ∉ ix → i < l.length → r[i]? = l[i]?) ∧ (∀ k, ix.length ≤ k → r[l.length + (k - ix.length)]? = rs[k]?)
 | [], l, rs, r, h, _ => by
  have := fO h
  subst this
  refine ⟨by simp, by simp, by simp, by simp, fun i _ hi => List.getElem?_append_left hi, fun k _ => ?_⟩
  rw [List.getElem?_append_right (by simp)]
  simp
 | i :: ix, l, [], r, h, _ => by cases h
 | i :: ix, l, y :: rs, r, h, hnd => by
  simp only [jO, Option.bind_eq_some_iff] at h
  obtain ⟨l', h1, h2⟩ := h
  obtain ⟨rfl, hil⟩ := eH h1
  have hnd' := List.nodup_cons.1 hnd
  obtain ⟨a1, a2, a3, a4, a5, a6⟩ := rm h2 hnd'.2
  simp only [List.length_set] at a2 a3 a5 a6
  refine ⟨by simp; exact a1, ?_, by simp [a3], ?_, ?_, ?_⟩
  ·intro j hj
   rcases List.mem_cons.1 hj with rfl | hj
   ·exact hil
   ·exact a2 j hj
  ·intro k j x hk hx
   cases k with
   | zero =>
    simp at hk hx; subst hk hx
    rw [a5 i hnd'.1 hil]; simp [hil]
   | succ k => exact a4 k j x (by simpa using hk) (by simpa using hx)
  ·intro j hj hl
   simp only [List.mem_cons, not_or] at hj
   rw [a5 j hj.2 hl, List.getElem?_set_ne (Ne.symm hj.1)]
  ·intro k hk
   cases k with
   | zero => simp at hk
   | succ k =>
    have := a6 k (by simpa using hk)
    simp only [List.length_cons, Nat.add_sub_add_right]
    simpa using this
theorem oZ (ix : List Nat) (n : Nat) : ∀ m, (names ix n m).length = ix.length + m := by
 intro m
 induction m generalizing ix n with
 | zero => rfl
 | succ m ih => simp [names, ih]; omega
theorem lQ (ix : List Nat) (n : Nat) : ∀ m (k : Nat), k < ix.length + m → (names ix n m)[k]? = some (if h : k < ix.length then ix[k] else n + (k - ix.length)) := by
 intro m
 induction m generalizing ix n with
 | zero => intro k hk; simp at hk; simp [names, hk]
 | succ m ih =>
  intro k hk
  rw [names, ih (ix ++ [n]) (n + 1) k (by simp; omega)]
  simp only [List.length_append, List.length_singleton]
  by_cases h1 : k < ix.length
  ·have : k < ix.length + 1 := by omega
   simp [h1, this]
  ·by_cases h2 : k = ix.length
   ·subst h2; simp
   ·have : ¬ k < ix.length + 1 := by omega
    simp [h1, this]; omega
def Ob.iN (ρ : List Nat) : Ob → Option Ob
 | .cells l ty => (lL ρ l).bind fun l' => some (.cells l' ty)
 | .row e k => some (.row e k)
 | .bP e k => some (.bP e k)
 | .buf e k ls q => some (.buf e k ls q)
 | .fh f => some (.fh f)
 | .cz f => some (.cz f)
 | .gH o k => some (.gH o k)
 | .jk _ _ _ _ => none
 | .dead => some .dead
def pw (ρ : List Nat) : List Ob → Option (List Ob)
 | [] => some []
 | o :: r => (o.iN ρ).bind fun o' => (pw ρ r).bind fun r' => some (o' :: r')
theorem wF {ρ : List Nat} : ∀ {l l' : List Ob}, pw ρ l = some l' → l'.length = l.length ∧ ∀ (j : Nat) o', l'[j]? = some o' → ∃ o, l[j]? = some o ∧ o.iN ρ = some o'
 | [], l', h => by simp [pw] at h; subst h; simp
 | o :: r, l', h => by
  simp only [pw, Option.bind_eq_some_iff, Option.some.injEq] at h
  obtain ⟨a', h1, b', h2, rfl⟩ := h
  have ih := wF h2
  refine ⟨by simp [ih.1], fun j o' hj => ?_⟩
  cases j with
  | zero => simp at hj; subst hj; exact ⟨o, rfl, h1⟩
  | succ j => simpa using ih.2 j o' (by simpa using hj)
theorem ef.iN {ρ : List Nat} {g g' : Gh} {w : World} {o o' : Ob} {p : Pl} (h : HD ρ g g') (hm : g'.m = g.m) (hr : o.iN ρ = some o') (hok : ef g w o p) : ef g' w o' p ∧ (∀ b, cO o' p b → cO o p b) := by
 cases o <;> simp only [Ob.iN, Option.bind_eq_some_iff, Option.some.injEq, reduceCtorEq] at hr
 case cells l ty =>
  obtain ⟨l', h1, rfl⟩ := hr
  cases p with
  | loc b => obtain ⟨vs, e1, e2, e3⟩ := hok; exact ⟨⟨vs, e1, lJ h _ h1 e2, by rw [hm]; exact e3⟩, fun _ h => h⟩
  | row b c n => exact hok.elim
 case row e k =>
  subst hr
  cases p with
  | loc b => exact hok.elim
  | row b c n => exact ⟨by simpa only [ef, hm] using hok, fun _ h => h⟩
 case bP e k => subst hr; exact ⟨hok, fun _ h => h⟩
 case buf e k ls q =>
  subst hr
  cases p with
  | loc b => exact hok.elim
  | row b c n => exact ⟨by simpa only [ef, hm] using hok, fun _ h => h⟩
 case fh f =>
  subst hr
  cases p with
  | loc b => exact ⟨by simpa only [ef, hm] using hok, fun _ h => h⟩
  | row b c n => exact hok.elim
 case cz f =>
  subst hr
  cases p with
  | loc b => exact ⟨by simpa only [ef, hm] using hok, fun _ h => h⟩
  | row b c n => exact hok.elim
 case gH o k => subst hr; exact ⟨by cases p <;> simpa only [ef, hm] using hok, fun _ h => h⟩
 case dead => subst hr; exact ⟨by cases p <;> trivial, fun _ h => h⟩
def vO : List Nat → List (Nat × SV) → Option (List (Nat × SV))
 | [], l => some l
 | i :: ix, l => (yq i l).bind fun l' => vO ix l'
def rv : List Nat → List Ob → Option (List Ob)
 | [], l => some l
 | i :: ix, l => (yr i l).bind fun l' => rv ix l'
end
end Go.Vd
namespace Go.Vd
open Go Go.RowKit
mutual
theorem ru (p q : Nat → Bool) : ∀ s : SV, (s.kill p).kill q = s.kill fun j => p j || q j
 | .own j k ls => by
  simp only [SV.kill]
  cases hp : p j <;> simp [SV.kill]
 | .rp j => by
  simp only [SV.kill]
  cases hp : p j <;> simp [SV.kill]
 | .arr j n => by
  simp only [SV.kill]
  cases hp : p j <;> simp [SV.kill]
 | .bp j off => by
  simp only [SV.kill]
  cases hp : p j <;> simp [SV.kill]
 | .agg l => by simp only [SV.kill, fG p q l]
 | .cb l => by simp only [SV.kill, fG p q l]
 | .fn f a b => by simp only [SV.kill, fG p q a, fG p q b]
 | .tp T s => by simp only [SV.kill, ru p q s]
 | .d x => rfl
 | .bZ j off => rfl
 | .map j => rfl
 | .vT k ls => rfl
 | .fH => rfl
theorem fG (p q : Nat → Bool) : ∀ l : List SV, ji q (ji p l) = ji (fun j => p j || q j) l
 | [] => rfl
 | s :: r => by simp only [ji, ru p q s, fG p q r]
end
mutual
theorem xV : ∀ s : SV, s.kill (fun _ => false) = s
 | .own j k ls => rfl
 | .rp j => rfl
 | .arr j n => rfl
 | .bp j off => rfl
 | .agg l => by simp only [SV.kill, lZ l]
 | .cb l => by simp only [SV.kill, lZ l]
 | .fn f a b => by simp only [SV.kill, lZ a, lZ b]
 | .tp T s => by simp only [SV.kill, xV s]
 | .d x => rfl
 | .bZ j off => rfl
 | .map j => rfl
 | .vT k ls => rfl
 | .fH => rfl
theorem lZ : ∀ l : List SV, ji (fun _ => false) l = l
 | [] => rfl
 | s :: r => by simp only [ji, xV s, lZ r]
end
def mc : List Nat → Nat → Bool
 | [], _ => false
 | i :: ix, j => Nat.beq j i || mc ix j
theorem ma : ∀ {ix : List Nat} {j : Nat}, mc ix j = true ↔ j ∈ ix
 | [], j => by simp [mc]
 | i :: ix, j => by simp [mc, ma (ix := ix)]
theorem zC {t : Nat} : ∀ {ix : List Nat} {l l' : List (Nat × SV)}, vO ix l = some l' → nf t l' = (nf t l).kill (mc ix)
 | [], l, l', h => by simp [vO] at h; subst h; exact (xV _).symm
 | i :: ix, l, l', h => by
  simp only [vO, Option.bind_eq_some_iff] at h
  obtain ⟨l1, h1, h2⟩ := h
  rw [zC h2, qB h1, ru]
  rfl
theorem uT : ∀ {ix : List Nat} {l l' : List Ob}, rv ix l = some l' → l'.length = l.length ∧ ∀ {g g' : Gh}, Io (mc ix) g g' → ∀ (j : Nat) o', l'[j]? = some o' → ∃ o, l[j]? = some o ∧ gX g g' o o' ∧ (∀ i f dn cur, o' = .jk i f dn cur → o = .jk i f dn cur) ∧ (∀ f, o = .fh f → o' = .fh f)
 | [], l, l', h => by
  simp [rv] at h; subst h
  exact ⟨rfl, fun {g g'} hg j o' ho => ⟨o', ho, gX.refl ⟨hg.m, fun i p hp => hg.gs i p hp rfl⟩ o', fun _ _ _ _ h => h, fun _ h => h⟩⟩
 | i :: ix, l, l', h => by
  simp only [rv, Option.bind_eq_some_iff] at h
  obtain ⟨l1, h1, h2⟩ := h
  have ih := uT h2
  have h3 := o6 h1
  refine ⟨by rw [ih.1, h3.1], fun {g g'} hg j o' ho => ?_⟩
  obtain ⟨o1, a1, a2, a3, a4⟩ := (uT h2).2 (g := g') (g' := g') ⟨gg.refl _, fun _ _ h _ => h, fun _ _ h => h⟩ j o' ho
  obtain ⟨o, b1, b2⟩ := h3.2 j o1 a1
  have e1 : ∀ i f dn cur, o1 = .jk i f dn cur → o = .jk i f dn cur := by
   intro i' f dn cur e
   subst e
   cases o <;> simp only [Ob.kO, Option.bind_eq_some_iff, Option.some.injEq] at b2
   case cells => obtain ⟨_, _, b2⟩ := b2; cases b2
   all_goals first | (cases b2; rfl) | cases b2
  have e2 : ∀ f, o = .fh f → o1 = .fh f := by
   intro f e; subst e; simp [Ob.kO] at b2; exact b2.symm
  refine ⟨o, b1, ?_, fun _ _ _ _ h => e1 _ _ _ _ (a3 _ _ _ _ h), fun f h => a4 f (e2 f h)⟩
  cases o with
  | cells l0 ty =>
   simp only [Ob.kO, Option.bind_eq_some_iff, Option.some.injEq] at b2
   obtain ⟨l2, c1, rfl⟩ := b2
   cases o' <;> simp only [gX] at a2 ⊢
   case cells l3 ty3 =>
    obtain ⟨rfl, a2⟩ := a2
    refine ⟨rfl, fun vs hd => ?_⟩
    have hl3 : l3 = ji (mc ix) l2 := by
     have key : ∀ {ix : List Nat} {l l' : List Ob}, rv ix l = some l' → ∀ (j : Nat) a ty b ty', l[j]? = some (.cells a ty) → l'[j]? = some (.cells b ty') → b = ji (mc ix) a := by
      intro ix
      induction ix with
      | nil => intro l l' h j a ty b ty' h1 h2; simp [rv] at h; subst h; rw [h1] at h2; cases h2; exact (lZ _).symm
      | cons i ix ih =>
       intro l l' h j a ty b ty' h1 h2
       simp only [rv, Option.bind_eq_some_iff] at h
       obtain ⟨l1, h3, h4⟩ := h
       have h5 := o6 h3
       have hlt : j < l1.length := by rw [h5.1]; exact (List.getElem?_eq_some_iff.1 h1).1
       obtain ⟨o2, h6, h7⟩ := h5.2 j l1[j] (by simp [hlt])
       rw [h1] at h6; cases h6
       simp only [Ob.kO, Option.bind_eq_some_iff, Option.some.injEq] at h7
       obtain ⟨a', h8, h9⟩ := h7
       have := ih h4 j a' ty b ty' (by rw [List.getElem?_eq_getElem hlt, ← h9]) h2
       rw [this, oB h8, fG]
       rfl
     exact key h2 j l2 _ l3 _ a1 ho
    rw [hl3, oB c1, fG]
    exact bj.kill hg _ hd
  | row e k => simp [Ob.kO] at b2; subst b2; cases o' <;> exact a2
  | bP e k => simp [Ob.kO] at b2; subst b2; cases o' <;> exact a2
  | buf e k ls q =>
   simp [Ob.kO] at b2; subst b2
   cases o' <;> first | exact a2 | skip
   exact ⟨a2.1, a2.2.1, a2.2.2.1, a2.2.2.2.1, fun vs hd => dk.mono hg.m _ hd⟩
  | fh f => simp [Ob.kO] at b2; subst b2; cases o' <;> exact a2
  | cz f =>
   simp [Ob.kO] at b2; subst b2
   cases o' <;> first | exact a2 | exact ⟨a2.1, hg.m⟩
  | gH o k =>
   simp [Ob.kO] at b2; subst b2
   cases o' <;> first | exact a2 | exact ⟨a2.1, a2.2.1, hg.m⟩
  | jk i f dn cur => simp [Ob.kO] at b2; subst b2; cases o' <;> exact a2
  | dead => simp [Ob.kO] at b2; subst b2; cases o' <;> exact a2
theorem zn {α : Type} : ∀ {ix : List Nat} {l rs : List α}, (∀ i ∈ ix, i < l.length) → ix.length ≤ rs.length → ∃ r, jO ix l rs = some r
 | [], l, rs, _, _ => by
  have : ∀ l : List α, ∃ r, iX l rs = some r := by
   intro l
   induction l with
   | nil => exact ⟨rs, rfl⟩
   | cons x l ih => obtain ⟨r, h⟩ := ih; exact ⟨x :: r, by simp [iX, h]⟩
  exact this l
 | i :: ix, l, [], _, h => by simp at h
 | i :: ix, l, y :: rs, h1, h2 => by
  have h3 := h1 i List.mem_cons_self
  have : ∀ (n : Nat) (l : List α), n < l.length → hJ n y l = some (l.set n y) := by
   intro n
   induction n with
   | zero => intro l hl; cases l with | nil => simp at hl | cons x l => rfl
   | succ n ih => intro l hl; cases l with | nil => simp at hl | cons x l => simp [hJ, ih l (by simpa using hl)]
  obtain ⟨r, hr⟩ := zn (ix := ix) (l := l.set i y) (rs := rs) (fun j hj => by simpa using h1 j (List.mem_cons_of_mem _ hj)) (by simpa using h2)
  exact ⟨r, by simp only [jO, this i l h3, Option.bind_some, hr]⟩
section
variable {P : Program} {GL : Nat → List D} {B : Bs} {σ : St} {g : Gh} {a : Act} {w : World}
theorem cT.after (h : cT GL B σ g a w) {obc ob' : List Ob} {ix : List Nat} (hfit : bX σ.ob ix obc ix) (hnd : ix.Nodup) (hno : fJ obc = true) (hit : ∀ i ∈ ix, ∀ (j : Nat) f dn cur, σ.ob[j]? ≠ some (.jk i f dn cur))
 {g' : Gh} {w' : World} (hs : cH GL ob' g' w') (hst : C6 ⟨⟨g.m, ix.map fun i => g.gs.getD i (.loc 0)⟩, w, gf obc ⟨g.m, ix.map fun i => g.gs.getD i (.loc 0)⟩, obc.length, []⟩ ob' g' w') (hle : obc.length ≤ ob'.length) (hno' : fJ ob' = true)
 {obr ob1 obn : List Ob} {sl1 : List (Nat × SV)} (h1 : pw (names ix σ.ob.length (ob'.length - ix.length)) ob' = some obr) (h2 : rv ix σ.ob = some ob1) (h3 : jO ix ob1 obr = some obn) (h4 : vO ix σ.sl = some sl1) :
 ∃ gn, cT GL B ⟨σ.n, sl1, obn⟩ gn a w' ∧ qP (· ∈ ix) σ.ob g w gn w' ∧ ∀ (s s' : SV) (v : Value), s.iN (names ix σ.ob.length (ob'.length - ix.length)) = some s' → s.Den g' v → s'.Den gn v := by
 have hlen := h.store.len
 have hsub := h.store.sub hfit hnd (fun j i f dn cur hj => absurd hj (eK hno j i f dn cur))
 have hfg := hfit.get
 have hixlt : ∀ i ∈ ix, i < σ.ob.length := fun i hi => by
  obtain ⟨k, hk, e⟩ := List.mem_iff_getElem.1 hi
  obtain ⟨i', o, a1, a2, _⟩ := hfg.2 k (obc[k]'(by rw [hfg.1]; exact hk)) (by simp [hfg.1, hk])
  rw [List.getElem?_eq_getElem hk, e] at a1; cases a1
  exact (List.getElem?_eq_some_iff.1 a2).1
 have hle' : ix.length ≤ g'.gs.length := by rw [← hs.len, ← hfg.1]; exact hle
 obtain ⟨gsn, hgsn⟩ := zn (ix := ix) (l := g.gs) (rs := g'.gs) (fun i hi => by rw [← hlen]; exact hixlt i hi) hle'
 obtain ⟨m1, m2, m3, m4, m5, m6⟩ := rm hgsn hnd
 have hren := wF h1
 have hk1 := uT h2
 obtain ⟨q1, q2, q3, q4, q5, q6⟩ := rm h3 hnd
 rw [hk1.1] at q2 q3 q5 q6
 have hobrl : obr.length = ob'.length := hren.1
 have hnn : obn.length = gsn.length := by rw [q3, m3, hobrl, hlen, hs.len]
 have hRG : HD (names ix σ.ob.length (ob'.length - ix.length)) g' ⟨g'.m, gsn⟩ := by
  refine ⟨gg.refl _, fun k j p hk hp => ?_⟩
  have hkl : k < ix.length + (ob'.length - ix.length) := by
   have := (List.getElem?_eq_some_iff.1 hk).1; rwa [oZ] at this
  rw [lQ _ _ _ _ hkl] at hk
  by_cases hki : k < ix.length
  ·rw [dif_pos hki] at hk; cases hk
   exact m4 k _ p (by simp [hki]) hp
  ·rw [dif_neg hki] at hk; cases hk
   have := m6 k (by omega)
   show gsn[_]? = _
   rw [hlen, this]; exact hp
 have hplc : ∀ (k i : Nat) p, ix[k]? = some i → g.gs[i]? = some p → (ix.map fun i => g.gs.getD i (.loc 0))[k]? = some p := fun k i p e1 e2 => by
  rw [List.getElem?_map, e1]; simp [List.getD_eq_getElem?_getD, e2]
 have hat : ∀ (i b : Nat), g.gs[i]? = some (.loc b) → gsn[i]? = some (.loc b) := fun i b hb => by
  by_cases hi : i ∈ ix
  ·obtain ⟨k, hk, e⟩ := List.mem_iff_getElem.1 hi
   have hk2 : ix[k]? = some i := by rw [List.getElem?_eq_getElem hk, e]
   exact m4 k i _ hk2 (hst.at' k b (by show k < obc.length; rw [hfg.1]; exact hk) (hplc k i _ hk2 hb))
  ·rw [m5 i hi (List.getElem?_eq_some_iff.1 hb).1]; exact hb
 have hkl : Io (mc ix) g ⟨g'.m, gsn⟩ := ⟨hst.mem, fun i q hq hi => by
  have hi' : i ∉ ix := fun hm => by rw [ma.2 hm] at hi; cases hi
  show gsn[i]? = _
  rw [m5 i hi' (List.getElem?_eq_some_iff.1 hq).1]; exact hq, hat⟩
 have hX : ∀ b, gf obc ⟨g.m, ix.map fun i => g.gs.getD i (.loc 0)⟩ b → ∃ (i : Nat) (o : Ob) (p : Pl), i ∈ ix ∧ σ.ob[i]? = some o ∧ g.gs[i]? = some p ∧ cO o p b := fun b hb => by
  obtain ⟨i, k, o, p, e1, e2, e3, e4⟩ := hsub.2.2 b hb
  exact ⟨i, o, p, List.mem_of_getElem? e1, e2, e3, e4⟩
 have hneX : ∀ (j : Nat) oj pj b, j ∉ ix → σ.ob[j]? = some oj → g.gs[j]? = some pj → cO oj pj b → ¬ gf obc ⟨g.m, ix.map fun i => g.gs.getD i (.loc 0)⟩ b := fun j oj pj b hj e1 e2 e3 hb => by
  obtain ⟨i, o, p, f1, f2, f3, f4⟩ := hX b hb
  have := h.store.oI i j o oj p pj b f2 e1 f3 e2 f4 e3
  subst this; exact hj f1
 have htou : ∀ (j : Nat) o', (j ∈ ix ∨ σ.ob.length ≤ j) → obn[j]? = some o' → ∃ (k : Nat) (oc : Ob), (names ix σ.ob.length (ob'.length - ix.length))[k]? = some j ∧ ob'[k]? = some oc ∧ oc.iN (names ix σ.ob.length (ob'.length - ix.length)) = some o' := fun j o' hj ho => by
  rcases hj with hj | hj
  ·obtain ⟨k, hk, e⟩ := List.mem_iff_getElem.1 hj
   have hk2 : ix[k]? = some j := by rw [List.getElem?_eq_getElem hk, e]
   have hkr : k < obr.length := by omega
   have := q4 k j obr[k] hk2 (by simp [hkr])
   rw [ho] at this; cases this
   obtain ⟨oc, e1, e2⟩ := hren.2 k obr[k] (by simp [hkr])
   exact ⟨k, oc, by rw [lQ _ _ _ _ (by omega), dif_pos hk, e], e1, e2⟩
  ·have hjl := (List.getElem?_eq_some_iff.1 ho).1
   rw [q3] at hjl
   have := q6 (ix.length + (j - σ.ob.length)) (by omega)
   rw [show σ.ob.length + (ix.length + (j - σ.ob.length) - ix.length) = j by omega, ho] at this
   obtain ⟨oc, e1, e2⟩ := hren.2 _ o' this.symm
   refine ⟨ix.length + (j - σ.ob.length), oc, ?_, e1, e2⟩
   rw [lQ _ _ _ _ (by omega), dif_neg (by omega)]
   congr 1; omega
 have hninj : ∀ (k k' j : Nat), (names ix σ.ob.length (ob'.length - ix.length))[k]? = some j → (names ix σ.ob.length (ob'.length - ix.length))[k']? = some j → k = k' := fun k k' j e1 e2 => by
  have l1 := (List.getElem?_eq_some_iff.1 e1).1
  have l2 := (List.getElem?_eq_some_iff.1 e2).1
  rw [oZ] at l1 l2
  rw [lQ _ _ _ _ l1] at e1
  rw [lQ _ _ _ _ l2] at e2
  by_cases c1 : k < ix.length <;> by_cases c2 : k' < ix.length
  ·rw [dif_pos c1] at e1; rw [dif_pos c2] at e2
   simp only [Option.some.injEq] at e1 e2
   exact (List.getElem?_inj c1 hnd).1 (by rw [List.getElem?_eq_getElem c1, List.getElem?_eq_getElem c2, e1, e2])
  ·rw [dif_pos c1] at e1; rw [dif_neg c2] at e2
   simp only [Option.some.injEq] at e1 e2
   have := hixlt _ (List.getElem_mem c1); omega
  ·rw [dif_neg c1] at e1; rw [dif_pos c2] at e2
   simp only [Option.some.injEq] at e1 e2
   have := hixlt _ (List.getElem_mem c2); omega
  ·rw [dif_neg c1] at e1; rw [dif_neg c2] at e2
   simp only [Option.some.injEq] at e1 e2
   omega
 have hpl2 : ∀ (k j : Nat) p, (names ix σ.ob.length (ob'.length - ix.length))[k]? = some j → gsn[j]? = some p → k < g'.gs.length → g'.gs[k]? = some p := fun k j p e1 e2 e3 => by
  have := hRG.2 k j g'.gs[k] e1 (by simp [e3])
  have e4 : gsn[j]? = some g'.gs[k] := this
  rw [e2] at e4; cases e4
  simp [e3]
 refine ⟨⟨g'.m, gsn⟩, ⟨h.defers, h.size, fun t => ?_, ?_, ?_⟩, ⟨hst.mem, fun i b o hi e1 e2 e3 => ⟨hat i b e2, hst.fr.block b (h.store.lt e1 e2 (dY e3)) (hneX i o _ b hi e1 e2 (dY e3))⟩⟩, fun s s' v e1 e2 => SV.xH hRG s e1 e2⟩
 ·show (nf t sl1).Den _ _
  rw [zC h4]
  exact SV.Den.kill hkl _ (h.di t)
 ·refine h.store.step (p := fun j => j ∈ ix ∨ σ.ob.length ≤ j) hst.mem hat (fun i q hi hq => hkl.gs i q hq (by cases hb : mc ix i with | false => rfl | true => exact absurd (.inl (ma.1 hb)) hi)) hs.sat hnn (fun j o1 hj ho => ?_) (fun j i f dn cur ho => ?_) (fun j i f dn cur hj ho => ?_)
   (fun j o1 q b hj ho hq hb => ?_) (fun j o1 hj ho => ?_) (fun j o1 q b hj ho hq hb => ?_) (fun i j oi oj pi pj b hi hj e1 e2 e3 e4 e5 e6 => ?_)
  ·simp only [not_or, Nat.not_le] at hj
   rw [q5 j hj.1 hj.2] at ho
   obtain ⟨o, e1, e2, _⟩ := hk1.2 hkl j o1 ho
   exact ⟨o, e1, e2⟩
  ·by_cases hj : j ∈ ix ∨ σ.ob.length ≤ j
   ·obtain ⟨k, oc, e1, e2, e3⟩ := htou j _ hj ho
    cases oc <;> simp only [Ob.iN, Option.bind_eq_some_iff, Option.some.injEq, reduceCtorEq] at e3
    case cells => obtain ⟨_, _, e3⟩ := e3; cases e3
   ·simp only [not_or, Nat.not_le] at hj
    rw [q5 j hj.1 hj.2] at ho
    obtain ⟨o, e1, _, e3, _⟩ := hk1.2 hkl j _ ho
    have e4 := e3 i f dn cur rfl
    subst e4
    have e5 := h.store.dQ j i f dn cur e1
    have hi : i ∉ ix := fun hm => hit i hm j f dn cur e1
    have hil := (List.getElem?_eq_some_iff.1 e5).1
    rw [q5 i hi hil]
    obtain ⟨o2, f1, f2, f3, f4⟩ := hk1.2 hkl i ob1[i] (by simp [hk1.1, hil])
    rw [e5] at f1; cases f1
    have := f4 f rfl
    rw [List.getElem?_eq_getElem (by rw [hk1.1]; exact hil), this]
  ·simp only [not_or, Nat.not_le] at hj
   rw [q5 j hj.1 hj.2] at ho
   obtain ⟨o, e1, _, e3, _⟩ := hk1.2 hkl j _ ho
   have e4 := e3 i f dn cur rfl
   subst e4
   have e5 := h.store.dQ j i f dn cur e1
   have hil := (List.getElem?_eq_some_iff.1 e5).1
   simp only [not_or, Nat.not_le]
   exact ⟨fun hm => hit i hm j f dn cur e1, hil⟩
  ·simp only [not_or, Nat.not_le] at hj
   have hlt := h.store.lt ho hq hb
   have hnx := hneX j o1 q b hj.1 ho hq hb
   refine ⟨hst.fr.block b hlt hnx, fun off hn => ?_⟩
   show g'.m b off = none
   cases hx : g'.m b off with
   | none => rfl
   | some x =>
    rcases hst.new b off x hx hn with h5 | h5
    ·exact absurd h5 hnx
    ·have h6 : w.heap.size ≤ b := h5
     omega
  ·obtain ⟨k, oc, e1, e2, e3⟩ := htou j o1 hj ho
   obtain ⟨p, hp⟩ := hs.place e2
   have := hs.gM k oc p e2 hp
   exact ⟨p, hRG.2 k j p e1 hp, (ef.iN hRG rfl e3 this).1⟩
  ·obtain ⟨k, oc, e1, e2, e3⟩ := htou j o1 hj ho
   obtain ⟨p, hp⟩ := hs.place e2
   have h5 : gsn[j]? = some p := hRG.2 k j p e1 hp
   have h5' : gsn[j]? = some q := hq
   rw [h5] at h5'; cases h5'
   have h6 := (ef.iN hRG rfl e3 (hs.gM k oc _ e2 hp)).2 b hb
   rcases hst.own k oc _ b e2 hp h6 with h7 | h7
   ·obtain ⟨i, o, p', f1, f2, f3, f4⟩ := hX b h7
    exact .inl ⟨i, o, p', .inl f1, f2, f3, f4⟩
   ·exact .inr h7
  ·obtain ⟨k, oc, a1, a2, a3⟩ := htou i oi hi e1
   obtain ⟨k', oc', b1, b2, b3⟩ := htou j oj hj e2
   obtain ⟨p, hp⟩ := hs.place a2
   obtain ⟨p', hp'⟩ := hs.place b2
   have c1 : gsn[i]? = some p := hRG.2 k i p a1 hp
   have c1' : gsn[i]? = some pi := e3
   rw [c1] at c1'; cases c1'
   have c2 : gsn[j]? = some p' := hRG.2 k' j p' b1 hp'
   have c2' : gsn[j]? = some pj := e4
   rw [c2] at c2'; cases c2'
   have d1 := (ef.iN hRG rfl a3 (hs.gM k oc _ a2 hp)).2 b e5
   have d2 := (ef.iN hRG rfl b3 (hs.gM k' oc' _ b2 hp')).2 b e6
   have := hs.oI k k' oc oc' _ _ b a2 b2 hp hp' d1 d2
   subst this
   rw [a1] at b1; cases b1; rfl
 ·refine h.iR.step hst.fr (fun b hb => ?_) hst.mem (fun b o x hx hn => hst.new b o x hx hn) (fun j o p b e1 e2 e3 => ?_) hat
  ·obtain ⟨i, o, p, _, f2, f3, f4⟩ := hX b hb
   exact h.iR.own i o p b f2 f3 f4
  ·by_cases hj : j ∈ ix ∨ σ.ob.length ≤ j
   ·obtain ⟨k, oc, a1, a2, a3⟩ := htou j o hj e1
    obtain ⟨p', hp⟩ := hs.place a2
    have c1 : gsn[j]? = some p' := hRG.2 k j p' a1 hp
    have c1' : gsn[j]? = some p := e2
    rw [c1] at c1'; cases c1'
    have d1 := (ef.iN hRG rfl a3 (hs.gM k oc _ a2 hp)).2 b e3
    rcases hst.own k oc _ b a2 hp d1 with h7 | h7
    ·obtain ⟨i, o, p', f1, f2, f3, f4⟩ := hX b h7
     exact .inl (h.iR.own i o p' b f2 f3 f4)
    ·exact .inr h7
   ·simp only [not_or, Nat.not_le] at hj
    rw [q5 j hj.1 hj.2] at e1
    have e2' : gsn[j]? = some p := e2
    rw [m5 j hj.1 (by omega)] at e2'
    obtain ⟨o2, f1, f2, _⟩ := hk1.2 hkl j o e1
    refine .inl (h.iR.own j o2 p b f1 e2' ?_)
    rcases f2.bZ e3 (fun _ _ => trivial) with f3 | ⟨e', k', rfl⟩
    ·exact f3
    ·have := h.store.gM _ _ _ f1 e2'
     simp only [ef] at this; subst this
     cases o <;> first | exact False.elim f2 | (simp [cO, dA] at e3)
end
end Go.Vd
namespace Go.Vd
open Go Go.RowKit
inductive Ex where
 | normal
 | exit (id : Nat)
 | goto (l : Nat)
 | ret
structure oR where
 pn : SV → List (Nat × SV) → List Ob → Prop
 LG : Bs → Exit → Act → World → Prop
def u9 (k : Nat) : List Oper → Bool
 | [] => false
 | o :: r => (match o.dst with | some t => Nat.beq t k | none => false) || u9 k r
def gu (l : List Oper) : List (Nat × SV) → List (Nat × SV)
 | [] => []
 | (k, s) :: r => cond (u9 k l) (gu l r) ((k, s) :: gu l r)
theorem rE {l : List Oper} {t : Nat} : ∀ {sl : List (Nat × SV)}, nf t (gu l sl) = if u9 t l = true then .fH else nf t sl
 | [] => by simp [gu, nf]
 | (k, s) :: r => by
  have ih := rE (l := l) (t := t) (sl := r)
  unfold gu
  rw [fe]
  cases hk : u9 k l with
  | true =>
   rw [cond_true, ih]
   by_cases hkt : k = t
   ·subst hkt; rw [hk]; simp
   ·rw [if_neg hkt]
  | false =>
   rw [cond_false, fe, ih]
   by_cases hkt : k = t
   ·subst hkt; rw [hk]; simp
   ·rw [if_neg hkt, if_neg hkt]
theorem vc {l : List Oper} : ∀ {sl : List (Nat × SV)}, gu l (gu l sl) = gu l sl
 | [] => rfl
 | (k, s) :: r => by
  have ih := vc (l := l) (sl := r)
  cases hk : u9 k l with
  | true =>
   have e : gu l ((k, s) :: r) = gu l r := by rw [gu, hk, cond_true]
   rw [e, ih]
  | false =>
   have e : gu l ((k, s) :: r) = (k, s) :: gu l r := by rw [gu, hk, cond_false]
   rw [e, gu, hk, cond_false, ih]
abbrev oR.dr (l : List Oper) (Pn : oR) : oR := ⟨fun s sl ob => Pn.pn s (gu l sl) ob, fun _ _ _ _ => False⟩
def Gi (GL : Nat → List D) (B : Bs) (Pn : oR) (c : List PanicEntry) (a : Act) (w : World) : Prop :=
 ∃ g sl ob v s, c = [{ v := v, recovered := false }] ∧ cH GL ob g w ∧ C6 B ob g w ∧ s.Den g v ∧ (∀ t, (nf t sl).Den g (a.tmps.getD t undef)) ∧ Pn.pn s sl ob
def oy (GL : Nat → List D) (B : Bs) (Pn : oR) (Q : Ex → St → Prop) : Exit → Act → World → Prop
 | .normal, a, w => ∃ σ, Rel GL B σ a w ∧ Q .normal σ
 | .exit id, a, w => ∃ σ, Rel GL B σ a w ∧ Q (.exit id) σ
 | .goto l, a, w => ∃ σ, Rel GL B σ a w ∧ Q (.goto l) σ
 | .ret, a, w => Pn.LG B .ret a w ∨ ∃ σ, Rel GL B σ a w ∧ Q .ret σ
 | .panic c, a, w => Pn.LG B (.panic c) a w ∨ (a.defers = B.df ∧ Gi GL B Pn c a w)
 | .outgrown, _, _ => False
def bl (P : Program) (GL : Nat → List D) (n0 : Nat) (Pn : oR) (c : Code) (Q : Ex → St → Prop) (σ : St) : Prop :=
 ∀ B : Bs, B.n0 = n0 → ∀ a w, Rel GL B σ a w → c.wp P (oy GL B Pn Q) a w
def Ex.seq (K : St → Prop) (Q : Ex → St → Prop) : Ex → St → Prop
 | .normal, σ => K σ
 | e, σ => Q e σ
def Ex.inBlock (id : Nat) (Q : Ex → St → Prop) : Ex → St → Prop
 | .exit j, σ => if j = id then Q .normal σ else Q (.exit j) σ
 | e, σ => Q e σ
def de (P : Program) (GL : Nat → List D) (n0 : Nat) (Pn : oR) (T : Nat → Prop) (o : Oper) (σ : St) (K : St → Prop) : Prop :=
 ∀ B : Bs, B.n0 = n0 → ∀ g a w, cT GL B σ g a w → ∀ (next : Act → World → Prop) (Q : Exit → Act → World → Prop),
  (∀ σ' g' a' w', cT GL B σ' g' a' w' → qP T σ.ob g w g' w' → K σ' → next a' w') → (∀ c w', Gi GL B Pn c a w' → Q (.panic c) a w') → o.wp P a w next Q
def br (P : Program) (GL : Nat → List D) (n0 : Nat) (Pn : oR) (ops l : List Oper) (Q : Ex → St → Prop) (σ : St) : Prop :=
 ∀ B : Bs, B.n0 = n0 → ∀ a w, Rel GL B σ a w → wpList P ops.toArray (oy GL B Pn Q) l a w
section
variable {P : Program} {GL : Nat → List D} {n0 : Nat} {Pn : oR}
variable {o : Oper} {σ : St} {K : St → Prop} {T : Nat → Prop} {t : Nat}
theorem E9 (hd : o.dst = some t) (ht : Nat.blt t σ.n = true) (h : aj P GL o σ fun s _ => K ⟨σ.n, (t, s) :: σ.sl, σ.ob⟩) : de P GL n0 Pn T o σ K := fun B hB g a w hr next Q hK hP => by
 obtain ⟨Hc, s, y, L, hrun, hc, _, hden, hk⟩ := h B g a w hr
 unfold Oper.wp
 rw [hrun w hc]
 show next (a.put o.dst y) w
 rw [hd]
 exact hK _ _ _ _ (hr.put ht hden) (qP.refl _ _ _ _) hk
variable {ops : List Oper} {Q : Ex → St → Prop}
theorem GX (h : Q .normal σ) : br P GL n0 Pn ops [] Q σ := fun B hB a w hr => wpList_nil ⟨σ, hr, h⟩
variable {rest : List Oper}
theorem y9 (hg : o.guard = none) (h : de P GL n0 Pn T o σ fun σ' => br P GL n0 Pn ops rest Q σ') : br P GL n0 Pn ops (o :: rest) Q σ := fun B hB a w ⟨g, hr⟩ => by
 refine wpList_step fun K hK => ?_
 simp only [Region.wanted, hg, if_true]
 exact h B hB g a w hr _ _ (fun σ' g' a' w' hr' _ hk => hK _ _ (hk B hB a' w' ⟨g', hr'⟩)) (fun c w' hp => .inr ⟨hr.defers, hp⟩)
theorem oc (h : de P GL n0 Pn T o σ fun σ' => br P GL n0 Pn ops rest Q σ') (hg : o.guard = none := by exact rfl) : br P GL n0 Pn ops (o :: rest) Q σ := y9 hg h
variable {n : Nat} {sl : List (Nat × SV)} {ob : List Ob}
theorem ld (hg : o.guard = none) (hd : o.dst = some t) (ht : Nat.blt t n = true)
 (h : aj P GL o ⟨n, sl, ob⟩ fun s _ => br P GL n0 Pn ops rest Q ⟨n, (t, s) :: sl, ob⟩) : br P GL n0 Pn ops (o :: rest) Q ⟨n, sl, ob⟩ :=
 y9 (T := fun _ => False) hg (E9 hd ht h)
theorem o1 (h : aj P GL o ⟨n, sl, ob⟩ fun s _ => br P GL n0 Pn ops rest Q ⟨n, (t, s) :: sl, ob⟩) (hg : o.guard = none := by exact rfl) (hd : o.dst = some t := by exact rfl) (ht : Nat.blt t n = true := by exact rfl) : br P GL n0 Pn ops (o :: rest) Q ⟨n, sl, ob⟩ := ld hg hd ht h
def fV (ops : List Oper) (j : Nat) : Option Tmp := (ops[j]?).bind (·.dst)
variable {j d : Nat} {want b : Bool} {a : Act}
theorem qT {ops : Array Oper} (hg : o.guard = some (j, want)) (hd : fV ops.toList j = some d) (hb : a.tmps.getD d undef = .bool b) :
 Region.wanted o (yielded ops a.tmps) = (b == want) := by
 have h1 : (ops[j]?).bind (·.dst) = some d := by simpa [fV] using hd
 have h2 : a.tmps[d]? = some (.bool b) := by
  by_cases hs : d < a.tmps.size
  ·simp [hs] at hb; simp [hs, hb]
  ·simp [hs] at hb; cases hb
 simp only [Region.wanted, hg, yielded, h1, Option.bind_some, h2]
 cases b <;> cases want <;> rfl
theorem mN {ops : Array Oper} {t : Array Value} (hg : o.guard = some (j, want)) (hd : fV ops.toList j = some d) (hb : a.tmps.getD d undef = .tuple t) :
 Region.wanted o (yielded ops a.tmps) = false := by
 have h1 : (ops[j]?).bind (·.dst) = some d := by simpa [fV] using hd
 cases h2 : a.tmps[d]? with
 | none => simp only [Region.wanted, hg, yielded, h1, Option.bind_some, h2]; try rfl
 | some v =>
  have hv : v = .tuple t := by
   rw [Array.getD_eq_getD_getElem?, h2] at hb; simpa using hb
  subst hv
  simp only [Region.wanted, hg, yielded, h1, Option.bind_some, h2]
  try rfl
theorem kZ (hg : o.guard = some (j, want)) (hd : fV ops j = some d) (hb : gw d sl = some (.d (.v (.bool want))))
 (h : br P GL n0 Pn ops ({ o with guard := none } :: rest) Q ⟨n, sl, ob⟩) : br P GL n0 Pn ops (o :: rest) Q ⟨n, sl, ob⟩ := fun B hB a w ⟨g, hr⟩ => by
 have hbv : a.tmps.getD d undef = .bool want := by have := hr.di d; rw [fI hb] at this; exact this
 have h1 := h B hB a w ⟨g, hr⟩
 unfold wpList at h1 ⊢
 rw [qT hg hd hbv, if_pos (by simp)]
 have hw : Region.wanted { o with guard := none } (yielded ops.toArray a.tmps) = true := rfl
 rw [if_pos hw] at h1
 exact h1
theorem nq (hg : o.guard = some (j, want)) (hd : fV ops j = some d) (hb : gw d sl = some (.d (.v (.bool (!want))))) (hdst : o.dst = some t) (ht : Nat.blt t n = true)
 (h : br P GL n0 Pn ops rest Q ⟨n, (t, .d (.v undef)) :: sl, ob⟩) : br P GL n0 Pn ops (o :: rest) Q ⟨n, sl, ob⟩ := fun B hB a w ⟨g, hr⟩ => by
 have hbv : a.tmps.getD d undef = .bool (!want) := by have := hr.di d; rw [fI hb] at this; exact this
 unfold wpList
 rw [qT hg hd hbv, if_neg (by cases want <;> simp), hdst]
 exact h B hB _ w ⟨g, hr.put ht rfl⟩
variable {l : List Oper}
theorem wK (d : Nat) (hb : gw d sl = some (.d (.v (.bool b))))
 (h1 : b = true → br P GL n0 Pn ops l Q ⟨n, (d, .d (.v (.bool true))) :: sl, ob⟩) (h2 : b = false → br P GL n0 Pn ops l Q ⟨n, (d, .d (.v (.bool false))) :: sl, ob⟩) : br P GL n0 Pn ops l Q ⟨n, sl, ob⟩ := fun B hB a w ⟨g, hr⟩ => by
 have hbv : a.tmps.getD d undef = .bool b := by have := hr.di d; rw [fI hb] at this; exact this
 cases b with
 | true => exact h1 rfl B hB a w ⟨g, hr.known (t := d) hbv⟩
 | false => exact h2 rfl B hB a w ⟨g, hr.known (t := d) hbv⟩
variable {id : Nat}
theorem yN (h : br P GL n0 Pn l l Q σ) : bl P GL n0 Pn (.region id l.toArray false) Q σ :=
 fun B hB _ _ hr => wp_region_list (by simpa using h B hB _ _ hr)
def ig (sl : List (Nat × SV)) : List Nat → Option (List (Nat × SV))
 | [] => some []
 | t :: r => (ig sl r).bind fun l => match gw t sl with
  | some s => some ((t, s) :: l)
  | none => some l
theorem wT {sl : List (Nat × SV)} : ∀ {L : List Nat} {l : List (Nat × SV)}, ig sl L = some l → ∀ t, nf t l = nf t sl ∨ nf t l = .fH
 | [], l, h, t => by simp [ig] at h; subst h; exact .inr rfl
 | k :: r, l, h, t => by
  simp only [ig, Option.bind_eq_some_iff] at h
  obtain ⟨l', h1, h2⟩ := h
  have ih := wT h1 t
  split at h2
  ·rename_i s hs
   simp only [Option.some.injEq] at h2; subst h2
   rw [fe]
   split
   ·rename_i e; subst e; exact .inl (fI hs).symm
   ·exact ih
  ·simp only [Option.some.injEq] at h2; subst h2; exact ih
variable {c : Code}
theorem wC (L : List Nat) {sl' : List (Nat × SV)} (hk : ig sl L = some sl') (h : bl P GL n0 Pn c Q ⟨n, sl', ob⟩) : bl P GL n0 Pn c Q ⟨n, sl, ob⟩ := fun B hB a w ⟨g, hr⟩ =>
 h B hB a w ⟨g, hr.defers, hr.size, fun t => by
  show (nf t sl').Den g _
  rcases wT hk t with e | e
  ·rw [e]; exact hr.di t
  ·rw [e]; trivial, hr.store, hr.iR⟩
variable {c1 c2 : Code}
theorem EM (h : bl P GL n0 Pn c1 (Ex.seq (fun σ' => bl P GL n0 Pn c2 Q σ') Q) σ) : bl P GL n0 Pn (.seq c1 c2) Q σ :=
 fun B hB a w hr => wp_seq (wp_mono (h B hB a w hr) fun e a w hl => by
  cases e with
  | normal => obtain ⟨σ, hr, hk⟩ := hl; exact hk B hB a w hr
  | exit id => exact hl
  | goto l => exact hl
  | ret => exact hl
  | panic c => exact hl
  | outgrown => exact hl)
theorem Fl (h : Q .normal σ) : Ex.inBlock id Q (.exit id) σ := by simp only [Ex.inBlock, if_true]; exact h
theorem DI (hj : Nat.beq j id = false) (h : Q (.exit j) σ) : Ex.inBlock id Q (.exit j) σ := by
 have : j ≠ id := fun e => by subst e; simp at hj
 simp only [Ex.inBlock, if_neg this]; exact h
theorem Dj (h : Q .normal σ) : bl P GL n0 Pn .skip Q σ := fun _ _ _ _ hr => wp_skip ⟨σ, hr, h⟩
theorem EN (h : Q .ret σ) : bl P GL n0 Pn .ret Q σ := fun _ _ _ _ hr => wp_ret (.inr ⟨σ, hr, h⟩)
theorem Dk (h : Q (.exit id) σ) : bl P GL n0 Pn (.exit id) Q σ := fun _ _ _ _ hr => wp_exit ⟨σ, hr, h⟩
theorem AR (h : bl P GL n0 Pn c (Ex.inBlock id Q) σ) : bl P GL n0 Pn (.block id c) Q σ :=
 fun B hB a w hr => wp_block (wp_mono (h B hB a w hr) fun e a w hl => by
  cases e with
  | normal => exact hl
  | exit j =>
   obtain ⟨σ, hr, hk⟩ := hl
   simp only [Ex.inBlock] at hk
   simp only [Exit.inBlock]
   split at hk
   ·rename_i e; rw [if_pos e]; exact ⟨σ, hr, hk⟩
   ·rename_i e; rw [if_neg e]; exact ⟨σ, hr, hk⟩
  | goto l => exact hl
  | ret => exact hl
  | panic c => exact hl
  | outgrown => exact hl)
theorem ju {c : Operand} (hc : bJ GL σ.sl c = some (.d (.v (.bool b)))) (h1 : b = true → bl P GL n0 Pn c1 Q σ) (h2 : b = false → bl P GL n0 Pn c2 Q σ) :
 bl P GL n0 Pn (.cond c c1 c2) Q σ := fun B hB a w hr => by
 obtain ⟨g, hr'⟩ := hr
 have he : a.eval c = .bool b := hr'.fo hc
 cases b
 ·exact wp_cond_false he (h2 rfl B hB a w ⟨g, hr'⟩)
 ·exact wp_cond_true he (h1 rfl B hB a w ⟨g, hr'⟩)
inductive mL (ob : List Ob) (ρ : List Nat) (sl : List (Nat × SV)) : List (Nat × SV) → Prop
 | nil : mL ob ρ sl []
 | cons {t : Nat} {s s' : SV} {r : List (Nat × SV)} (h : s.iN ρ = some s') (hf : Fit ob (nf t sl) s') (hr : mL ob ρ sl r) : mL ob ρ sl ((t, s) :: r)
def pre : Nat → Nat → List Nat → Bool
 | _, 0, _ => true
 | _, _ + 1, [] => false
 | k, n + 1, i :: r => cond (Nat.beq i k) (pre (k + 1) n r) false
theorem tx : ∀ {n k : Nat} {ρ : List Nat}, pre k n ρ = true → ∀ i, i < n → ρ[i]? = some (k + i)
 | 0, k, ρ, h, i, hi => by omega
 | n + 1, k, [], h, i, hi => by cases h
 | n + 1, k, j :: r, h, i, hi => by
  simp only [pre] at h
  cases hb : Nat.beq j k with
  | false => rw [hb] at h; cases h
  | true =>
   rw [hb] at h
   have e : j = k := by simpa using hb
   subst e
   cases i with
   | zero => simp
   | succ i => have := tx (n := n) (k := j + 1) h i (by omega); simp only [List.getElem?_cons_succ, this]; congr 1; omega
def fE : List Nat → Bool
 | [] => true
 | i :: r => cond (mc r i) false (fE r)
theorem jy : ∀ {l : List Nat}, fE l = true → l.Nodup
 | [], _ => List.nodup_nil
 | i :: r, h => by
  simp only [fE] at h
  cases hb : mc r i with
  | true => rw [hb] at h; cases h
  | false =>
   rw [hb] at h
   exact List.nodup_cons.2 ⟨fun hm => (by rw [ma.2 hm] at hb; cases hb), jy h⟩
structure nQ (n0 : Nat) (σ σ' : St) (ρ : List Nat) : Prop where
 n : σ'.n = σ.n
 pre : pre 0 n0 ρ = true
 nd : fE ρ = true
 dQ : ∀ (j i : Nat) f dn cur, σ'.ob[j]? = some (.jk i f dn cur) → σ'.ob[i]? = some (.fh f)
 ob : bX σ.ob ρ σ'.ob ρ
 sl : mL σ.ob ρ σ.sl σ'.sl
variable {g : Gh} {w : World} {ρ : List Nat}
theorem AG {g' : Gh} (hs : cH GL ob g w) (hb : Gf ρ g' g) {l : List (Nat × SV)} (h : mL ob ρ sl l) (t : Nat) {y : Value} (hd : (nf t sl).Den g y) : (nf t l).Den g' y := by
 induction h with
 | nil => trivial
 | cons h1 h2 _ ih =>
  rw [fe]
  split
  ·rename_i e; subst e
   exact SV.n8 hb _ h1 (h2.den hs hd)
  ·exact ih
variable {B : Bs} {obc : List Ob}
theorem xx (hn0 : B.n0 = n0) (hp : pre 0 n0 ρ = true) (h : C6 B ob g w) (hs : cH GL ob g w) (hf : bX ob ρ obc ρ) (hnd : ρ.Nodup) (hno : ∀ (j i : Nat) f dn cur, obc[j]? = some (.jk i f dn cur) → obc[i]? = some (.fh f)) :
 C6 B obc ⟨g.m, ρ.map fun i => g.gs.getD i (.loc 0)⟩ w := by
 refine ⟨h.fr, h.mem, h.new, fun i o p b h1 h2 h3 => ?_, fun i b hi hb => ?_⟩
 ·obtain ⟨i', k, o', p', _, e2, e3, e4⟩ := (hs.sub hf hnd hno).2.2 b ⟨i, o, p, h1, h2, h3⟩
  exact h.own i' o' p' b e2 e3 e4
 ·have := tx hp i (by omega)
  rw [Nat.zero_add] at this
  show (ρ.map _)[i]? = _
  rw [List.getElem?_map, this]
  simp [List.getD_eq_getElem?_getD, h.at' i b hi hb]
theorem nQ.rel (hn0 : B.n0 = n0) {σ' : St} (h : nQ n0 σ σ' ρ) (hr : Rel GL B σ a w) : Rel GL B σ' a w := by
 obtain ⟨g, hr⟩ := hr
 have hnd := jy h.nd
 have hsub := hr.store.sub h.ob hnd h.dQ
 exact ⟨_, hr.defers, by rw [h.n]; exact hr.size, fun t => AG hr.store hsub.2.1 h.sl t (hr.di t), hsub.1, xx hn0 h.pre hr.iR hr.store h.ob hnd h.dQ⟩
def p7 {ι : Type} (n0 : Nat) (S : ι → St) (I : ι → Prop) (σ : St) : Prop := ∃ i ρ, I i ∧ nQ n0 σ (S i) ρ
theorem wB {ι : Type} (S : ι → St) (Inv : ι → Prop) (m : ι → Nat) (h0 : p7 n0 S Inv σ)
 (h : ∀ i, Inv i → bl P GL n0 Pn c (Ex.seq (fun σ' => p7 n0 S (fun j => Inv j ∧ m j < m i) σ') Q) (S i)) : bl P GL n0 Pn (.loop c) Q σ := fun B hB a w hr => by
 obtain ⟨i, ρ, hI, hi⟩ := h0
 refine wp_loop_rounds (m i + 1) ?_
 have key : ∀ (n : Nat) (i : ι), m i < n → Inv i → ∀ a w, Rel GL B (S i) a w → Code.rounds P c (oy GL B Pn Q) n a w := by
  intro n
  induction n with
  | zero => intro i hi; omega
  | succ n ih =>
   intro i hlt hI a w hr
   refine wp_mono (h i hI B hB a w hr) fun e a' w' hl => ?_
   cases e with
   | normal =>
    obtain ⟨σ', hr', j, ρ, ⟨hj1, hj2⟩, hj3⟩ := hl
    exact ih j (by omega) hj1 a' w' (hj3.rel hB hr')
   | exit id => exact hl
   | goto l => exact hl
   | ret => exact hl
   | panic c => exact hl
   | outgrown => exact hl
 exact key _ i (Nat.lt_succ_self _) hI a w (hi.rel hB hr)
variable {f : FuncId} {svs : List SV}
theorem Bb {argsc : List SV} {Q : Out → List Ob → Prop} (ht : ey P GL f obc argsc Q) (ix : List Nat) {m : List SV} (hrun : ∀ B g a w, cT GL B σ g a w → ∃ vs, (execOp a.eval o).run P w = .ok (.enter f ⟨vs⟩) w ∧ bj g svs vs)
 (hfit : bX σ.ob ix obc ix) (hnd : fE ix = true) (hno : fJ obc = true) (hit : ∀ i ∈ ix, ∀ (j : Nat) f dn cur, σ.ob[j]? ≠ some (.jk i f dn cur)) (hra : lL ix argsc = some m) (hfa : ia σ.ob svs m)
 (hret : ∀ s ob', Q (.ret s) ob' → ∃ obr ob1 obn sl1 s', pw (names ix σ.ob.length (ob'.length - ix.length)) ob' = some obr ∧ rv ix σ.ob = some ob1 ∧ jO ix ob1 obr = some obn ∧ vO ix σ.sl = some sl1 ∧ s.iN (names ix σ.ob.length (ob'.length - ix.length)) = some s' ∧
  (∀ t, o.dst = some t → Nat.blt t σ.n = true ∧ K ⟨σ.n, (t, s') :: sl1, obn⟩) ∧ (o.dst = none → K ⟨σ.n, sl1, obn⟩))
 (hpan : ∀ s ob', Q (.JK s) ob' → ∃ obr ob1 obn sl1 s', pw (names ix σ.ob.length (ob'.length - ix.length)) ob' = some obr ∧ rv ix σ.ob = some ob1 ∧ jO ix ob1 obr = some obn ∧ vO ix σ.sl = some sl1 ∧ s.iN (names ix σ.ob.length (ob'.length - ix.length)) = some s' ∧ Pn.pn s' sl1 obn) :
 de P GL n0 Pn (· ∈ ix) o σ K := fun B hB g a w hr next Q' hK hP => by
 obtain ⟨vs, hrun, hd⟩ := hrun B g a w hr
 have hnd' := jy hnd
 have hsub := hr.store.sub hfit hnd' (fun j i f dn cur hj => absurd hj (eK hno j i f dn cur))
 have hd2 := gq hsub.2.1 _ hra (hfa.den hr.store hd)
 unfold Oper.wp
 rw [hrun, Oper.upon_enter]
 refine (ht _ w vs hsub.1 hd2).mono fun e w' he => ?_
 obtain ⟨g', ob', hs, hst, hle, hno', he⟩ := he
 cases e with
 | returned v =>
  obtain ⟨s, hs1, hq⟩ := he
  obtain ⟨obr, ob1, obn, sl1, s', e1, e2, e3, e4, e5, e6, e7⟩ := hret s ob' hq
  obtain ⟨gn, hrel, hkeep, hden⟩ := hr.after hfit hnd' hno hit hs hst hle hno' e1 e2 e3 e4
  cases hdst : o.dst with
  | none => exact hK _ _ _ _ hrel hkeep (e7 hdst)
  | some t =>
   obtain ⟨e8, e9⟩ := e6 t hdst
   exact hK _ _ _ _ (hrel.put (s := s') e8 (hden s s' v e5 hs1)) hkeep e9
 | panicked c =>
  obtain ⟨v, s, rfl, hs1, hq⟩ := he
  obtain ⟨obr, ob1, obn, sl1, s', e1, e2, e3, e4, e5, e6⟩ := hpan s ob' hq
  obtain ⟨gn, hrel, hkeep, hden⟩ := hr.after hfit hnd' hno hit hs hst hle hno' e1 e2 e3 e4
  exact hP _ _ ⟨gn, sl1, obn, v, s', rfl, hrel.store, hrel.iR, hden s s' v e5 hs1, hrel.di, e6⟩
 | outgrown => exact he.elim
def Gu (GL : Nat → List D) (sl : List (Nat × SV)) : List Operand → Option (List SV)
 | [] => some []
 | x :: r => (bJ GL sl x).bind fun s => (Gu GL sl r).bind fun l => some (s :: l)
theorem CR {B : Bs} {σ : St} {g : Gh} {a : Act} {w : World} (hr : cT GL B σ g a w) : ∀ {l : List Operand} {ss : List SV}, Gu GL σ.sl l = some ss → bj g ss (l.map a.eval)
 | [], ss, h => by simp [Gu] at h; subst h; rfl
 | x :: r, ss, h => by
  simp only [Gu, Option.bind_eq_some_iff, Option.some.injEq] at h
  obtain ⟨s, h1, l, h2, rfl⟩ := h
  exact ⟨_, _, rfl, hr.fo h1, CR hr h2⟩
def ak (P : Program) (f : FuncId) : Bool :=
 match P.funcs[f]? with
 | some fn => fn.name != "runtime.NumGoroutine" && fn.body.isSome
 | none => false
theorem xC (h : ak P f = true) (args : Array Value) (w : World) : (callFunc f args).run P w = .ok (.enter f args) w := by
 unfold ak at h
 split at h
 ·rename_i fn hf
  simp only [Bool.and_eq_true, bne_iff_ne, ne_eq] at h
  have h1 : (fn.name == "runtime.NumGoroutine") = false := by simpa using h.1
  have h2 : fn.body.isNone = false := by cases hb : fn.body <;> simp_all
  simp only [callFunc, Sem.run_bind, run_program, Result.andThen_ok, hf, h1, h2, Bool.false_eq_true, if_false]
  rfl
 ·cases h
theorem pS {args : Array Operand} {ts : Array TypeId} (hc : ak P f = true) (ho : o.op = .call { callee := .value (.func f), args := args, argTypes := ts }) (ha : Gu GL σ.sl args.toList = some svs) :
 ∀ B g a w, cT GL B σ g a w → ∃ vs, (execOp a.eval o).run P w = .ok (.enter f ⟨vs⟩) w ∧ bj g svs vs := fun B g a w hr => by
 refine ⟨args.toList.map a.eval, ?_, CR hr ha⟩
 have hrun : (execOp a.eval o).run P w = (callFunc f ⟨args.toList.map a.eval⟩).run P w := by
  simp only [execOp, ho, resolve, Act.eval, Deferred.ofValue, Sem.run_bind, Sem.run_pure, Result.andThen_ok, invoke]
  congr 2
  apply Array.ext'
  simp
 rw [hrun, xC hc]
def CN (GL : Nat → List D) (P : Program) (σ : St) : ResultVar → SV → Prop
 | .tmp t, s => gw t σ.sl = some s
 | .cell x T, s => ∃ i off l ty l1 cs ti, gw x σ.sl = some (.bZ i off) ∧ cC i σ.ob = some (.cells l ty) ∧ bc P T = ti ∧ ti.ok = true ∧ fW off l = some l1 ∧ lH ti.size l1 = some cs ∧ mn ti.agg cs = some s
def gb (GL : Nat → List D) (P : Program) (σ : St) : List ResultVar → List SV → Prop
 | [], l => l = []
 | r :: rs, l => ∃ s l', l = s :: l' ∧ CN GL P σ r s ∧ gb GL P σ rs l'
def n7 : List SV → SV
 | [s] => s
 | l => .cb l
def EU : List Value → Value
 | [v] => v
 | vs => .tuple ⟨vs⟩
def Im (n0 : Nat) (Q : SV → List Ob → Prop) (s : SV) (ob : List Ob) : Prop :=
 ∃ ρ s' ob' t, pre 0 n0 ρ = true ∧ fE ρ = true ∧ fJ ob' = true ∧ bX ob ρ ob' ρ ∧ SV.iN ρ s' = some t ∧ Fit ob s t ∧ Q s' ob'
def Fin (P : Program) (GL : Nat → List D) (n0 : Nat) (rs : List ResultVar) (Q : Out → List Ob → Prop) (σ : St) : Prop :=
 ∃ l, gb GL P σ rs l ∧ Im n0 (fun s ob => Q (.ret s) ob) (n7 l) σ.ob
def fin (P : Program) (GL : Nat → List D) (n0 : Nat) (rs : List ResultVar) (Q : Out → List Ob → Prop) : Ex → St → Prop
 | .normal, σ => Fin P GL n0 rs Q σ
 | .ret, σ => Fin P GL n0 rs Q σ
 | _, _ => False
def xF (tmps : Array Value) : ResultVar → Sem Value
 | .tmp t => pure (tmps.getD t undef)
 | .cell x t => do loadVar t (← asAddr (tmps.getD x undef))
theorem AT (fn : Func) (tmps : Array Value) : results fn tmps = (do let vs ← fn.results.mapM (xF tmps); pure (if h : vs.size = 1 then vs[0] else .tuple vs)) := by
 have h : ∀ f g : ResultVar → Sem Value, (∀ r, f r = g r) → (do let vs ← fn.results.mapM f; pure (if h : vs.size = 1 then vs[0] else .tuple vs) : Sem Value) = (do let vs ← fn.results.mapM g; pure (if h : vs.size = 1 then vs[0] else .tuple vs)) :=
  fun f g h => by rw [funext h]
 exact h _ _ fun r => by cases r <;> rfl
theorem ya (hr : cT GL B σ g a w) : ∀ {rs : List ResultVar} {l : List SV}, gb GL P σ rs l → ∃ vs, (rs.mapM (xF a.tmps)).run P w = .ok vs w ∧ bj g l vs := by
 intro rs
 induction rs with
 | nil => intro l h; simp only [gb] at h; subst h; exact ⟨[], rfl, rfl⟩
 | cons r rs ih =>
  intro l h
  obtain ⟨s, l', rfl, h1, h2⟩ := h
  obtain ⟨vs, hrun, hd⟩ := ih h2
  cases r with
  | tmp t =>
   refine ⟨a.tmps.getD t undef :: vs, ?_, ⟨_, _, rfl, ?_, hd⟩⟩
   ·simp only [List.mapM_cons, xF, Sem.run_bind, Sem.run_pure, Result.andThen_ok, hrun]
   ·have := hr.di t; rw [fI h1] at this; exact this
  | cell x T =>
   obtain ⟨i, off, l0, ty, l1, cs, ti, e1, e2, rfl, e4, e5, e6, e7⟩ := h1
   have hx := hr.di x
   rw [fI e1] at hx
   obtain ⟨b, hb, hx⟩ := hx
   obtain ⟨us, hh, hd0, hm⟩ := hr.store.gM i _ _ (bL e2) hb
   have hl' := jT e5
   have hc' := qd e6
   have hd2 : bj g cs ((us.drop off).take (bc P T).size) := by rw [← hc'.1, ← hl'.1]; exact (hd0.drop off).take _
   have hlen : ((us.drop off).take (bc P T).size).length = (bc P T).size := by rw [hd2.length, ← hc'.1]; simp; omega
   have hld := gF (P := P) e4 (w := w) (b := b) (off := off) hlen (fun j y hj => by
    rw [List.getElem?_take] at hj
    split at hj
    ·rw [List.getElem?_drop] at hj
     simp only [World.cell?, hh]
     simpa using hj
    ·cases hj) (fun hag => by
    rw [hag] at e7
    have e := rz e7
    match h9 : (us.drop off).take (bc P T).size, hd2.length.trans e with
    | [y], _ => exact ⟨y, rfl⟩)
   refine ⟨_ :: vs, ?_, ⟨_, _, rfl, rA e7 hd2, hd⟩⟩
   have ha : (asAddr (.pointer (some ⟨b, off, none⟩))).run P w = .ok ⟨b, off, none⟩ w := rfl
   simp only [List.mapM_cons, xF, Sem.run_bind, hx, ha, Sem.run_pure, Result.andThen_ok, hld, hrun]
theorem Dm : ∀ {l : List SV} {vs : List Value}, bj g l vs → (n7 l).Den g (EU vs)
 | [], _, h => by cases h; exact ⟨[], rfl, rfl⟩
 | [s], _, ⟨x, l', e, h1, h2⟩ => by cases h2; subst e; exact h1
 | s :: t :: r, _, ⟨x, l', e, h1, ⟨y, l2, e2, h2, h3⟩⟩ => by subst e e2; exact ⟨_, rfl, x, _, rfl, h1, y, _, rfl, h2, h3⟩
theorem Fin.run {B : Bs} (hB : B.n0 = n0) {fn : Func} {Q : Out → List Ob → Prop} {σ : St} {a : Act} {w : World} (hr : Rel GL B σ a w) (h : Fin P GL n0 fn.results.toList Q σ) :
 ∃ v, (results fn a.tmps).run P w = .ok v w ∧ ∃ g' ob', cH GL ob' g' w ∧ C6 B ob' g' w ∧ n0 ≤ ob'.length ∧ fJ ob' = true ∧ ∃ s, s.Den g' v ∧ Q (.ret s) ob' := by
 obtain ⟨g, hr⟩ := hr
 obtain ⟨l, h1, ρ, s', ob', t, hpre, hnd, hno, hfit, hren, hf, hq⟩ := h
 obtain ⟨vs, hrun, hd⟩ := ya hr h1
 have hnd' := jy hnd
 have hno2 : ∀ (j i : Nat) f dn cur, ob'[j]? = some (.jk i f dn cur) → ob'[i]? = some (.fh f) := fun j i f dn cur hj => absurd hj (eK hno j i f dn cur)
 have hsub := hr.store.sub hfit hnd' hno2
 refine ⟨EU vs, ?_, _, ob', hsub.1, xx hB hpre hr.iR hr.store hfit hnd' hno2, ?_, hno, s', SV.n8 hsub.2.1 s' hren (hf.den hr.store (Dm hd)), hq⟩
 ·rw [AT]
  simp only [Array.mapM_eq_mapM_toList, Sem.run_bind, Sem.run_map, hrun, Result.andThen_ok, Sem.run_pure]
  congr 1
  match vs with
  | [] => rfl
  | [v] => rfl
  | v :: u :: r => simp [EU]
 ·have h5 := hfit.get.1
  rw [h5]
  rcases Nat.lt_or_ge ρ.length n0 with h6 | h6
  ·have := tx hpre ρ.length h6
   simp at this
  ·exact h6
def di : Nat → List SV → List (Nat × SV)
 | _, [] => []
 | k, s :: r => (k, s) :: di (k + 1) r
theorem wm {g : Gh} : ∀ {ss : List SV} {vs : List Value} (k : Nat), bj g ss vs → ∀ t, k ≤ t → ∀ {y : Value}, (∀ x, vs[t - k]? = some x → y = x) → (nf t (di k ss)).Den g y
 | [], vs, k, d, t, hkt, y, h => trivial
 | s :: r, _, k, ⟨x, l', e, dx, dl⟩, t, hkt, y, h => by
  subst e
  unfold di
  rw [fe]
  split
  ·rename_i ek; subst ek
   have := h x (by simp)
   subst this; exact dx
  ·rename_i ek
   refine wm (k + 1) dl t (by omega) (fun z hz => h z ?_)
   have : t - k = t - (k + 1) + 1 := by omega
   rw [this]; simpa using hz
abbrev JJ (n0 : Nat) (Q : Out → List Ob → Prop) : oR := ⟨fun s _ ob => Im n0 (fun s ob' => Q (.JK s) ob') s ob, fun _ _ _ _ => False⟩
def tu (GL : Nat → List D) (B : Bs) (Q : Out → List Ob → Prop) (e : Ending) (w' : World) : Prop :=
 ∃ g' ob', cH GL ob' g' w' ∧ C6 ⟨B.g, B.w, B.X, B.n0, []⟩ ob' g' w' ∧ B.n0 ≤ ob'.length ∧ fJ ob' = true ∧
  (match e with
   | .returned v => ∃ s, s.Den g' v ∧ Q (.ret s) ob'
   | .panicked c => ∃ v s, c = [{ v := v, recovered := false }] ∧ s.Den g' v ∧ Q (.JK s) ob'
   | .outgrown => False)
variable {args : List SV}
theorem Dn {vs : List Value} (hn : args.length ≤ n) (hs : cH GL ob g w) (hd : bj g args vs) :
 cT GL ⟨g, w, gf ob g, ob.length, []⟩ ⟨n, di 0 args, ob⟩ g { tmps := (⟨vs⟩ : Array Value) ++ Array.replicate (n - (⟨vs⟩ : Array Value).size) undef, defers := [] } w := by
 refine ⟨rfl, by have := hd.length; simp; omega, fun t => ?_, hs, ⟨Fr.refl _ _, gg.refl _, fun b o x h1 h2 => ?_, fun i o p b h1 h2 h3 => .inl ⟨i, o, p, h1, h2, h3⟩, fun _ _ _ h => h⟩⟩
 ·refine wm 0 hd t (Nat.zero_le _) fun x hx => ?_
  have hx' : vs[t]? = some x := by simpa using hx
  have ht : t < vs.length := (List.getElem?_eq_some_iff.1 hx').1
  simp only [Array.getD_eq_getD_getElem?]
  rw [Array.getElem?_append_left (by simpa using ht)]
  simp [hx']
 ·simp only at h2; rw [h2] at h1; cases h1
theorem C6.forget (h : C6 B ob g w) (ds : List Deferred) : C6 ⟨B.g, B.w, B.X, B.n0, ds⟩ ob g w := ⟨h.fr, h.mem, h.new, h.own, h.at'⟩
theorem E5 {Q : Out → List Ob → Prop} {c : List PanicEntry} (hp : Gi GL B (JJ B.n0 Q) c a w) : tu GL B Q (.panicked c) w := by
 obtain ⟨g1, sl1, ob1, v, s, rfl, hs1, hst1, hd1, _, ρ, s', ob', t, hpre, hnd, hno, hfit, hren, hf1, hq⟩ := hp
 have hnd' := jy hnd
 have hno2 : ∀ (j i : Nat) f dn cur, ob'[j]? = some (.jk i f dn cur) → ob'[i]? = some (.fh f) := fun j i f dn cur hj => absurd hj (eK hno j i f dn cur)
 have hsub := hs1.sub hfit hnd' hno2
 refine ⟨_, ob', hsub.1, (xx rfl hpre hst1 hs1 hfit hnd' hno2).forget [], ?_, hno, v, s', rfl, SV.n8 hsub.2.1 s' hren (hf1.den hs1 hd1), hq⟩
 rw [hfit.get.1]
 rcases Nat.lt_or_ge ρ.length B.n0 with h6 | h6
 ·have := tx hpre ρ.length h6
  simp at this
 ·exact h6
variable {fn : Func}
theorem FH (hB : B.n0 = n0) {Q : Out → List Ob → Prop} (hr : Rel GL B σ a w) (h : Fin P GL n0 fn.results.toList Q σ) :
 ∃ v, (results fn a.tmps).run P w = .ok v w ∧ tu GL B Q (.returned v) w := by
 subst hB
 obtain ⟨v, h1, g', ob', h2, h3, h4, h5, h6⟩ := Fin.run rfl hr h
 exact ⟨v, h1, g', ob', h2, h3.forget [], h4, h5, h6⟩
variable {rs : List ResultVar}
theorem Av (hd : B.df = []) {Q : Out → List Ob → Prop} (hrs : fn.results.toList = rs) (h : bl P GL B.n0 (JJ B.n0 Q) c (fin P GL B.n0 rs Q) σ) (hr : Rel GL B σ a w) :
 c.wp P (bodyPost P fn (tu GL B Q)) a w := by
 subst hrs
 refine wp_mono (h _ rfl _ w hr) fun e a' w' hl => ?_
 have hfin : ∀ σ, Rel GL B σ a' w' → Fin P GL B.n0 fn.results.toList Q σ → a'.defers = [] ∧ ∃ v, (results fn a'.tmps).run P w' = .ok v w' ∧ tu GL B Q (.returned v) w' :=
  fun σ hr hk => ⟨by obtain ⟨_, hr⟩ := hr; exact hr.defers.trans hd, FH rfl hr hk⟩
 cases e with
 | normal => obtain ⟨σ, hr', hk⟩ := hl; obtain ⟨h0, v, h1, h2⟩ := hfin σ hr' hk; exact ⟨h0, v, h1, h2⟩
 | ret =>
  rcases hl with hl | ⟨σ, hr', hk⟩
  ·exact hl.elim
  ·obtain ⟨h0, v, h1, h2⟩ := hfin σ hr' hk; exact ⟨h0, v, h1, h2⟩
 | exit id => obtain ⟨σ, hr', hk⟩ := hl; exact hk.elim
 | goto l => obtain ⟨σ, hr', hk⟩ := hl; exact hk.elim
 | panic c =>
  rcases hl with hl | ⟨h0, hp⟩
  ·exact hl.elim
  ·exact ⟨h0.trans hd, E5 hp⟩
 | outgrown => exact hl.elim
theorem rQ {Q : Out → List Ob → Prop} (hf : P.funcs[f]? = some fn) (hb : fn.body = some c) (hnt : fn.ntmps = n) (hrs : fn.results.toList = rs)
 (hn : args.length ≤ n) (h : bl P GL ob.length (JJ ob.length Q) c (fin P GL ob.length rs Q) ⟨n, di 0 args, ob⟩) : ey P GL f ob args Q := by
 subst hnt
 intro g w vs hs hd
 refine calls_of_wp hf hb ?_
 exact Av (B := ⟨g, w, gf ob g, ob.length, []⟩) rfl hrs h ⟨g, Dn hn hs hd⟩
end
end Go.Vd
namespace Go.Vd
open Go Go.RowKit
section
variable {P : Program} {GL : Nat → List D} {n0 : Nat} {Pn : oR}
variable {B : Bs} {n t : Nat} {sl : List (Nat × SV)} {ob : List Ob} {g : Gh} {a : Act} {w : World} {s : SV}
theorem cT.qp (h : cT GL B ⟨n, sl, ob⟩ g a w) (ht : Nat.blt t n = true) {x : Value} (hx : s.Den g x) : cT GL B ⟨n, (t, s) :: sl, ob⟩ g (a.put (some t) x) w := h.put ht hx
variable {cs : List SV} {ty : TypeId} {σ : St}
theorem ou {vs : List Value} (hr : cT GL B σ g a w) (hd : bj g cs vs) :
 cT GL B ⟨σ.n, σ.sl, σ.ob ++ [.cells cs ty]⟩ ⟨g.m, g.gs ++ [.loc w.heap.size]⟩ a (w.alloc (.cells ⟨vs⟩ ty)) ∧ qP (fun _ => False) σ.ob g w ⟨g.m, g.gs ++ [.loc w.heap.size]⟩ (w.alloc (.cells ⟨vs⟩ ty)) := by
 have hle : Gw g ⟨g.m, g.gs ++ [.loc w.heap.size]⟩ := ⟨gg.refl _, fun i p hp => by
  show (g.gs ++ [_])[i]? = some p
  rw [List.getElem?_append_left (List.getElem?_eq_some_iff.1 hp).1]; exact hp⟩
 have hmn : ∀ o, g.m w.heap.size o = none := fun o => by
  cases hx : g.m w.heap.size o with
  | none => rfl
  | some x => have := hr.store.jH hx; omega
 exact hr.Bc ((Fr.refl _ w).alloc _) (gg.refl _) (fun b o x h1 h2 => by rw [h2] at h1; cases h1) ⟨vs, heap_alloc_new w _, bj.mono hle cs hd, hmn⟩ (fun b hb => by simp only [cO, dA, Option.some.injEq] at hb; omega) (fun i f dn cur e => by cases e)
variable {b : Nat}
theorem ym (hlen : ob.length = g.gs.length) : (SV.bZ ob.length 0).Den ⟨g.m, g.gs ++ [.loc b]⟩ (.pointer (some ⟨b, 0, none⟩)) := ⟨b, by rw [hlen]; simp, rfl⟩
variable {o : Oper} {ob' : List Ob} {K : St → Prop} {T : Nat → Prop} {ti : TI} {k : Nat}
theorem zd (hT : bc P ty = ti) (hz : ti.Gq = true) (ho : o.op = .alloc ty) (hd : o.dst = some t) (ht : Nat.blt t n = true) (hm : nN ti.zero = some cs) (hl : ob.length = k) (hob : iX ob [.cells cs ty] = some ob')
 (h : K ⟨n, (t, .bZ k 0) :: sl, ob'⟩) : de P GL n0 Pn T o ⟨n, sl, ob⟩ K := fun B hB g a w hr next Q hK hP => by
 subst hT hl
 rw [fO hob] at h
 have hz' : ∃ i z, P.info? ty = some i ∧ i.zero = some z ∧ (bc P ty).zero = z.cells.toList := by
  simp only [bc, Option.isSome_iff_exists, Option.bind_eq_some_iff] at hz
  obtain ⟨z, i, hi, hzz⟩ := hz
  exact ⟨i, z, hi, hzz, by simp [bc, hi, hzz]⟩
 obtain ⟨i, z, hi, hzz, hze⟩ := hz'
 have hrun : (execOp a.eval o).run P w = .ok (.value (.pointer (some ⟨w.heap.size, 0, none⟩))) (w.alloc (.cells ⟨z.cells.toList⟩ ty)) := by
  simp [execOp, ho, Instr.alloc, zeroValue, typeInfo, hi, hzz, newVar, newRow]
 unfold Oper.wp
 rw [hrun]
 show next (a.put o.dst _) _
 rw [hd]
 obtain ⟨h1, h2⟩ := ou (ty := ty) hr (cs := cs) (vs := z.cells.toList) (by rw [qx hm, hze]; exact bj.KO _)
 exact hK _ _ _ _ (h1.qp (s := .bZ ob.length 0) ht (ym hr.store.len)) ⟨h2.1, fun i b o _ => h2.2 i b o (fun x => x)⟩ h
theorem Md (hT : bc P ty = ti) (h : K ⟨n, (t, .bZ k 0) :: sl, ob'⟩) (ho : o.op = .alloc ty := by exact rfl) (hd : o.dst = some t := by exact rfl) (hz : ti.Gq = true := by exact rfl) (ht : Nat.blt t n = true := by exact rfl) (hm : nN ti.zero = some cs := by exact rfl) (hob : iX ob [.cells cs ty] = some ob' := by exact rfl) (hl : ob.length = k := by omega) : de P GL n0 Pn T o ⟨n, sl, ob⟩ K := zd hT hz ho hd ht hm hl hob h
variable {x : Operand}
theorem IL (hT : bc P ty = ti) (ho : o.op = .box ty x) (hd : o.dst = some t) (ht : Nat.blt t n = true) (hx : bJ GL sl x = some s) (hm : jd ti.agg s = some cs) (hl : ob.length = k) (hob : iX ob [.cells cs ty] = some ob')
 (h : K ⟨n, (t, .bZ k 0) :: sl, ob'⟩) : de P GL n0 Pn T o ⟨n, sl, ob⟩ K := fun B hB g a w hr next Q hK hP => by
 subst hT hl
 rw [fO hob] at h
 have hrun : (execOp a.eval o).run P w = .ok (.value (.pointer (some ⟨w.heap.size, 0, none⟩))) (w.alloc (.cells ⟨(a.eval x).cells.toList⟩ ty)) := by
  simp [execOp, ho, Instr.box, newVar, newRow]
 unfold Oper.wp
 rw [hrun]
 show next (a.put o.dst _) _
 rw [hd]
 obtain ⟨h1, h2⟩ := ou (ty := ty) hr (cs := cs) (vs := (a.eval x).cells.toList) (iI hm (hr.fo hx))
 exact hK _ _ _ _ (h1.qp (s := .bZ ob.length 0) ht (ym hr.store.len)) ⟨h2.1, fun i b o _ => h2.2 i b o (fun x => x)⟩ h
theorem bx (hT : bc P ty = ti) (h : K ⟨n, (t, .bZ k 0) :: sl, ob'⟩) (ho : o.op = .box ty x := by exact rfl) (hd : o.dst = some t := by exact rfl) (hx : bJ GL sl x = some s := by exact rfl) (ht : Nat.blt t n = true := by exact rfl) (hm : jd ti.agg s = some cs := by exact rfl) (hob : iX ob [.cells cs ty] = some ob' := by exact rfl) (hl : ob.length = k := by omega) : de P GL n0 Pn T o ⟨n, sl, ob⟩ K := IL hT ho hd ht hx hm hl hob h
def fF (i : Nat) : List Ob → Bool
 | [] => true
 | .jk j _ _ _ :: r => cond (Nat.beq j i) false (fF i r)
 | .cells _ _ :: r => fF i r
 | .row _ _ :: r => fF i r
 | .bP _ _ :: r => fF i r
 | .buf _ _ _ _ :: r => fF i r
 | .fh _ :: r => fF i r
 | .cz _ :: r => fF i r
 | .gH _ _ :: r => fF i r
 | .dead :: r => fF i r
theorem ny {i : Nat} : ∀ {ob : List Ob}, fF i ob = true → ∀ (j : Nat) f dn cur, ob[j]? ≠ some (.jk i f dn cur)
 | [], _, j, f, dn, cur => by simp
 | o :: r, h, 0, f, dn, cur => by intro e; simp at e; subst e; simp [fF] at h
 | o :: r, h, j + 1, f, dn, cur => by
  have : fF i r = true := by
   cases o <;> simp only [fF] at h <;> try exact h
   rename_i j' _ _ _
   cases hb : Nat.beq j' i <;> rw [hb] at h
   ·exact h
   ·cases h
  simpa using ny this j f dn cur
def qv : List Nat → List Ob → Bool
 | [], _ => true
 | i :: r, ob => cond (fF i ob) (qv r ob) false
theorem sH : ∀ {ix : List Nat} {ob : List Ob}, qv ix ob = true → ∀ i ∈ ix, ∀ (j : Nat) f dn cur, ob[j]? ≠ some (.jk i f dn cur)
 | [], _, _, i, hi => by cases hi
 | k :: r, ob, h, i, hi => by
  simp only [qv] at h
  cases hb : fF k ob with
  | false => rw [hb] at h; cases h
  | true =>
   rw [hb] at h
   rcases List.mem_cons.1 hi with rfl | hi
   ·exact ny hb
   ·exact sH h i hi
variable {ty0 : TypeId} {y : Operand} {i off : Nat} {l l' : List SV}
theorem E7 (hT : bc P ty = ti) (hok : ti.ok = true) (ho : o.op = .store ty x y) (hd : o.dst = none) (hx : bJ GL sl x = some (.bZ i off)) (hy : bJ GL sl y = some s)
 (hi : cC i ob = some (.cells l ty0)) (hc : jd ti.agg s = some cs) (hsz : Nat.beq cs.length ti.size = true) (hone : fP cs = true) (hs : ud off cs l = some l') (hob : hJ i (.cells l' ty0) ob = some ob')
 (h : K ⟨n, sl, ob'⟩) : de P GL n0 Pn (fun j => j = i) o ⟨n, sl, ob⟩ K := fun B hB g a w hr next Q hK hP => by
 subst hT
 obtain ⟨b, hb, hpx⟩ := hr.fo hx
 have hi' := bL hi
 obtain ⟨vs, hh, hdl, hmn⟩ := hr.store.gM i _ _ hi' hb
 obtain ⟨ti, d, hinf, hdd, hsi, _⟩ := rS hok
 have hcd := iI hc (hr.fo hy)
 have hcl := hcd.length
 have hll := hdl.length
 have hs2 := qm hs
 have hsz' : cs.length = (bc P ty).size := by simpa using hsz
 have hsz3 : (a.eval y).cells.toList.length = ti.size := by omega
 have hst := run_storeCells_at (P := P) b off ty0 (a.eval y).cells.toList 0 ⟨vs⟩ w hh (by simp at hsz3 ⊢; omega) (iY hone hcd)
 have hrun : (execOp a.eval o).run P w = .ok .skip (w.setRow b ⟨vs.take off ++ (a.eval y).cells.toList ++ vs.drop (off + (a.eval y).cells.toList.length)⟩) := by
  have hsz2 : (a.eval y).cells.size = ti.size := by simpa using hsz3
  simp only [execOp, ho, hpx, Instr.storeAt, Instr.sureAddr, storeVar, sizeOf, typeInfo, Sem.run_bind, Sem.run_pure, Result.andThen_ok, run_program, hinf, hsz2]
  simp only [ne_eq, not_true_eq_false, if_false]
  simp only [Nat.add_zero] at hst
  rw [hst]
  simp
 unfold Oper.wp
 rw [hrun]
 show next (a.put o.dst _) _
 rw [hd]
 have hset := eH hob
 obtain ⟨h1, h2⟩ := hr.Iu (w' := w.setRow b ⟨vs.take off ++ (a.eval y).cells.toList ++ vs.drop (off + (a.eval y).cells.toList.length)⟩) (o' := .cells l' ty0) hi' hb rfl ⟨rfl, rfl, rfl, by simp, fun c _ hc => setRow_other w _ _ _ hc⟩
  ⟨_, setRow_heap w b _ _ _ _ hh, yL hs hdl hcd, hmn⟩ (.inl rfl) (fun j f dn cur e => by
   have h7 := hr.store.dQ j i f dn cur e
   rw [hi'] at h7; cases h7) (fun k f dn cur e => by cases e) hmn
 rw [hset.1] at h
 exact hK _ _ _ _ h1 h2 h
theorem eD (hT : bc P ty = ti) (h : K ⟨n, sl, ob'⟩) (ho : o.op = .store ty x y := by exact rfl) (hd : o.dst = none := by exact rfl) (hx : bJ GL sl x = some (.bZ i off) := by exact rfl) (hy : bJ GL sl y = some s := by exact rfl) (hi : cC i ob = some (.cells l ty0) := by exact rfl) (hok : ti.ok = true := by exact rfl) (hc : jd ti.agg s = some cs := by exact rfl) (hsz : Nat.beq cs.length ti.size = true := by exact rfl) (hone : fP cs = true := by exact rfl) (hs : ud off cs l = some l' := by exact rfl) (hob : hJ i (.cells l' ty0) ob = some ob' := by exact rfl) : de P GL n0 Pn (fun j => j = i) o ⟨n, sl, ob⟩ K := E7 hT hok ho hd hx hy hi hc hsz hone hs hob h
def gA (m : Mem) (b : Nat) (xs : List Value) : Mem := fun c o => if c = b then xs[o]? else m c o
def DV (GL : Nat → List D) (sl : List (Nat × SV)) (ag : Bool) : List Operand → Option (List (List D))
 | [] => some []
 | x :: r => (bJ GL sl x).bind fun s => (jd ag s).bind fun cs => (qW cs).bind fun ds => (DV GL sl ag r).bind fun l => some (ds :: l)
def zi : List D → Bool
 | [] => true
 | d :: r => cond (G0 d) (zi r) false
def Ap (k : Nat) : List (List D) → Bool
 | [] => true
 | e :: r => cond (Nat.beq e.length k) (cond (zi e) (Ap k r) false) false
theorem wN {m : Mem} : ∀ {l : List D} {vs : List Value}, zi l = true → dk m l vs → ∀ x ∈ vs, x.oneCell' = true
 | [], _, _, h, x, hx => by cases h; cases hx
 | s :: r, _, h, ⟨y, l', e, h1, h2⟩, x, hx => by
  subst e
  unfold zi at h
  cases hs : G0 s with
  | false => rw [hs] at h; cases h
  | true =>
   rw [hs] at h
   cases hx with
   | head => exact zh hs h1
   | tail _ hx => exact wN h h2 x hx
theorem CS {B : Bs} {σ : St} {g : Gh} {a : Act} {w : World} (hr : cT GL B σ g a w) {ag : Bool} {k : Nat} : ∀ {xs : List Operand} {els : List (List D)}, DV GL σ.sl ag xs = some els → Ap k els = true →
 els.length = xs.length ∧ (∀ v ∈ xs.map a.eval, v.cells.size = k) ∧ (∀ u ∈ (xs.map a.eval).flatMap fun v => v.cells.toList, u.oneCell' = true) ∧
  (∀ (m : Mem) (b off : Nat), gg g.m m → (∀ i x, ((xs.map a.eval).flatMap fun v => v.cells.toList)[i]? = some x → m b (off + i) = some x) → dM m k b off els)
 | [], els, h, _ => by simp [DV] at h; subst h; exact ⟨rfl, by simp, by simp, fun _ _ _ _ _ => trivial⟩
 | x :: r, els, h, hall => by
  simp only [DV, Option.bind_eq_some_iff, Option.some.injEq] at h
  obtain ⟨s, h1, cs, h2, ds, h3, l, h4, rfl⟩ := h
  simp only [Ap] at hall
  cases hb : Nat.beq ds.length k with
  | false => rw [hb] at hall; cases hall
  | true =>
  rw [hb] at hall
  cases hb2 : zi ds with
  | false => rw [hb2] at hall; cases hall
  | true =>
  rw [hb2] at hall
  simp only [cond_true] at hall
  have hk : ds.length = k := by simpa using hb
  obtain ⟨e1, e2, e3, e4⟩ := CS hr h4 hall
  have hd := bj.gp _ (iI h2 (hr.fo h1)) h3
  have hlen := hd.length
  have hsz : (a.eval x).cells.size = k := by
   have : (a.eval x).cells.toList.length = k := by omega
   simpa using this
  refine ⟨by simp [e1], fun v hv => ?_, fun u hu => ?_, fun m b off hm hx => ?_⟩
  ·simp only [List.map_cons, List.mem_cons] at hv
   rcases hv with rfl | hv
   ·exact hsz
   ·exact e2 v hv
  ·simp only [List.map_cons, List.flatMap_cons, List.mem_append] at hu
   rcases hu with hu | hu
   ·exact wN hb2 hd u hu
   ·exact e3 u hu
  ·simp only [List.map_cons, List.flatMap_cons] at hx
   refine ⟨⟨hk, ej.tz (dk.mono hm _ hd) fun i y hy => hx i y ?_⟩, e4 m b (off + k) hm fun i y hy => ?_⟩
   ·rw [List.getElem?_append_left (List.getElem?_eq_some_iff.1 hy).1]; exact hy
   ·have := hx (k + i) y (by rw [List.getElem?_append_right (by omega), show k + i - (a.eval x).cells.toList.length = i by omega]; exact hy)
    rwa [show off + (k + i) = off + k + i by omega] at this
def DJ : Nat → List Operand → Option (List (Nat × Operand))
 | _, [] => some []
 | k, x :: r => (DJ (k + 1) r).bind fun l => some ((k, x) :: l)
theorem CD : ∀ {xs : List Operand} {k : Nat} {l : List (Nat × Operand)}, DJ k xs = some l → l = (xs.zipIdx k).map fun p => (p.2, p.1)
 | [], k, l, h => by simp [DJ] at h; subst h; rfl
 | x :: r, k, l, h => by
  simp only [DJ, Option.bind_eq_some_iff, Option.some.injEq] at h
  obtain ⟨l', h1, rfl⟩ := h
  simp [CD h1]
variable {xs : List Value}
theorem gg.set {m : Mem} (h : ∀ o x, m b o = some x → xs[o]? = some x) : gg m (gA m b xs) := fun c o x hx => by
 unfold gA
 by_cases e : c = b
 ·subst e; rw [if_pos rfl]; exact h o x hx
 ·rw [if_neg e]; exact hx
variable {e : TypeId} {size bytes : Nat}
theorem IK {len : Nat} {parts : Array (Nat × Operand)} (TS : je P ty e size bytes) (xs : List Operand) {els : List (List D)} (hT : bc P e = ti) (ho : o.op = .buildSlice ty len parts)
 (hd : o.dst = some t) (ht : Nat.blt t n = true) (hp : DJ 0 xs = some parts.toList) (hel : DV GL sl ti.agg xs = some els) (hall : Ap size els = true) (hn : xs.length = len) (hsz : 0 < size) (hn0 : 0 < len) (hbig : len * size ≤ 16777216) (hl : ob.length = k) (hob : iX ob [.row e size] = some ob')
 (h : K ⟨n, (t, .own k size els) :: sl, ob'⟩) : de P GL n0 Pn T o ⟨n, sl, ob⟩ K := fun B hB g a w hr next Q hK hP => by
 subst hl
 rw [fO hob] at h
 obtain ⟨e1, e2, e3, e4⟩ := CS hr hel hall
 have hrun0 := GQ (P := P) (ρ := a.eval) TS xs (xs.map a.eval) rfl (CD hp) (by simp [hn]) e2 hsz hn0 hbig w
 have hrun : (execOp a.eval o).run P w = .ok (.value (.slice (some ⟨w.heap.size, 0, none⟩) len len)) (w.alloc (.cells ⟨(xs.map a.eval).flatMap fun v => v.cells.toList⟩ e)) := by
  simp only [execOp, ho, Sem.run_bind]
  rw [hrun0]; rfl
 unfold Oper.wp
 rw [hrun]
 show next (a.put o.dst _) _
 rw [hd]
 generalize hfl : ((xs.map a.eval).flatMap fun v => v.cells.toList) = fl at *
 have hfll : fl.length = len * size := by rw [← hfl, zN _ e2]; simp [hn]
 have hm0 : ∀ o, g.m w.heap.size o = none := fun o => by
  cases hx : g.m w.heap.size o with
  | none => rfl
  | some x => have := hr.store.jH hx; omega
 have hm : gg g.m (gA g.m w.heap.size fl) := gg.set fun o x hx => by rw [hm0] at hx; cases hx
 have hcell : ∀ o x, fl[o]? = some x → (w.alloc (.cells ⟨fl⟩ e)).cell? ⟨w.heap.size, o, none⟩ = some x := fun o x hx => by
  simp only [World.cell?, heap_alloc_new w (.cells ⟨fl⟩ e)]
  simpa using hx
 have hlen63 : len ≤ maxLen := by
  have : len ≤ len * size := Nat.le_mul_of_pos_right _ hsz
  simp only [maxLen]; omega
 have hrow : (w.alloc (.cells ⟨fl⟩ e)).ownsRow 0 e size (.slice (some ⟨w.heap.size, 0, none⟩) len len) len fl :=
  ⟨hfll, .inr ⟨w.heap.size, len, ⟨fl⟩, rfl, Nat.zero_le _, heap_alloc_new w _, Nat.le_refl _, hlen63, by simp [hfll], by rw [← hfll]; exact List.take_length⟩⟩
 have hA : ∀ b o x, gA g.m w.heap.size fl b o = some x → g.m b o = none → w.heap.size ≤ b ∧ (w.alloc (.cells ⟨fl⟩ e)).cell? ⟨b, o, none⟩ = some x ∧ x.oneCell' = true := fun b o x hx hn => by
  unfold gA at hx
  by_cases e5 : b = w.heap.size
  ·subst e5
   rw [if_pos rfl] at hx
   exact ⟨Nat.le_refl _, hcell o x hx, e3 x (List.mem_of_getElem? hx)⟩
  ·rw [if_neg e5, hn] at hx; cases hx
 have hB' : ∀ c, some w.heap.size = some c → ∀ o, len * size ≤ o → gA g.m w.heap.size fl c o = none := fun c hc o ho => by
  simp only [Option.some.injEq] at hc; subst hc
  unfold gA; rw [if_pos rfl, List.getElem?_eq_none (by omega)]
 obtain ⟨h1, h2⟩ := hr.Bc (w' := w.alloc (.cells ⟨fl⟩ e)) ((Fr.refl _ w).alloc _) hm hA (o' := .row e size) (pl := .row (some w.heap.size) len len) ⟨⟨fl, hrow⟩, hB'⟩ (fun b hb => by simp only [cO, dA, Option.some.injEq] at hb; omega) (fun i f dn cur e => by cases e)
 refine hK _ _ _ _ (h1.qp (s := .own ob.length size els) ht ⟨some w.heap.size, len, ?_, ?_, ?_, fun _ => ⟨w.heap.size, rfl, e4 _ _ 0 hm fun i x hx => ?_⟩⟩) ⟨h2.1, fun i b o _ => h2.2 i b o (fun x => x)⟩ h
 ·show (g.gs ++ [_])[ob.length]? = _
  have hl2 : ob.length = g.gs.length := hr.store.len
  rw [hl2, e1, hn]; simp
 ·rw [e1, hn]; rfl
 ·rw [e1, hn]; exact Nat.le_refl _
 ·show gA _ _ _ _ _ = _
  unfold gA; rw [if_pos rfl, Nat.zero_add]; exact hx
theorem tw {cap : Nat} (h : w.ownsRow 0 e k (.slice (some ⟨b, 0, none⟩) n cap) n xs) : n ≤ cap ∧ ∀ o x, xs[o]? = some x → w.cell? ⟨b, o, none⟩ = some x := by
 refine ⟨?_, fun o x hx => ?_⟩
 ·rcases h.2 with ⟨h1, _⟩ | ⟨g0, c0, cur, h1, _, _, h4, _⟩
  ·cases h1
  ·simp only [Value.slice.injEq] at h1; omega
 ·have := h.cells (g := b) rfl o x hx
  have hadd : (⟨b, 0, none⟩ : Addr).add o = ⟨b, o, none⟩ := by rw [eS]; simp
  rwa [hadd] at this
theorem oL {m m' : Mem} {k b c : Nat} (hm : gg m m') : ∀ {ls : List (List D)} {off off' : Nat}, dM m k b off ls → (∀ i x, i < ls.length * k → m b (off + i) = some x → m' c (off' + i) = some x) → dM m' k c off' ls
 | [], _, _, _, _ => trivial
 | e :: r, off, off', ⟨⟨h0, h1⟩, h2⟩, h => by
  refine ⟨⟨h0, ?_⟩, oL hm h2 fun i x hi hx => ?_⟩
  ·obtain ⟨vs, hv, hc⟩ := h1.Dd
   have hl := hv.length
   refine ej.tz (dk.mono hm _ hv) fun i x hx => h i x ?_ (hc i x hx)
   have := (List.getElem?_eq_some_iff.1 hx).1
   simp only [List.length_cons, Nat.add_mul]; omega
  ·have := h (k + i) x (by simp only [List.length_cons, Nat.add_mul]; omega) (by rwa [show off + (k + i) = off + k + i by omega])
   rwa [show off' + (k + i) = off' + k + i by omega] at this
theorem ve {m : Mem} {k b : Nat} : ∀ {ls : List (List D)} {off : Nat}, dM m k b off ls → ∃ fl : List Value, fl.length = ls.length * k ∧ ∀ i x, fl[i]? = some x → m b (off + i) = some x
 | [], _, _ => ⟨[], by simp, by simp⟩
 | e :: r, off, ⟨⟨h0, h1⟩, h2⟩ => by
  obtain ⟨vs, hv, hc⟩ := h1.Dd
  obtain ⟨fl, h3, h4⟩ := ve h2
  have hl := hv.length
  refine ⟨vs ++ fl, by simp [h3, hl, h0, Nat.add_mul]; omega, fun i x hx => ?_⟩
  rw [List.getElem?_append] at hx
  split at hx
  ·exact hc i x hx
  ·have := h4 _ x hx
   rwa [show off + k + (i - vs.length) = off + i by omega] at this
variable {sl' : List (Nat × SV)} {ob1 : List Ob} {or : Ob}
theorem zc {s : Operand} {ls news : List (List D)}
 (hd : o.dst = some t) (ht : Nat.blt t n = true) (hs : bJ GL sl s = some (.own i size ls) ∨ (bJ GL sl s = some (.d (.v (.slice none 0 0))) ∧ ls = [] ∧ or = .bP e size)) (hi : cC i ob = some or) (hor : or = .row e size ∨ or = .bP e size)
 (happ : ∀ B g a w, cT GL B ⟨n, sl, ob⟩ g a w → ∀ xs, w.ownsRow 0 e size (a.eval s) ls.length xs → ∃ nv v' w', (execOp a.eval o).run P w = .ok (.value v') w' ∧ w'.ownsRow 0 e size v' (ls.length + news.length) (xs ++ nv) ∧ Fr (fun c => (a.eval s).ownBlock = some c ∧ v'.ownBlock = some c) w w' ∧
  (∃ k, v'.ownBlock = some k ∧ ((a.eval s).ownBlock = some k ∨ k = w.heap.size) ∧ k < w'.heap.size ∧ ∃ c, v' = .slice (some ⟨k, 0, none⟩) (ls.length + news.length) c) ∧ nv.length = news.length * size ∧ (∀ u ∈ nv, u.oneCell' = true) ∧
  ∀ (m : Mem) c off, gg g.m m → (∀ (j : Nat) y, nv[j]? = some y → m c (off + j) = some y) → dM m size c off news)
 (hsl : yq i sl = some sl') (hob : yr i ob = some ob1) (hob' : hJ i (.row e size) ob1 = some ob')
 (h : K ⟨n, (t, .own i size (ls ++ news)) :: sl', ob'⟩) : de P GL n0 Pn (fun j => j = i) o ⟨n, sl, ob⟩ K := fun B hB g a w hr next Q hK hP => by
 have hi' := bL hi
 rw [(eH hob').1] at h
 have hrow : ∃ b cap, g.gs[i]? = some (.row b cap ls.length) ∧ a.eval s = .slice (b.map fun b => ⟨b, 0, none⟩) ls.length cap ∧ (ls ≠ [] → ∃ c, b = some c ∧ dM g.m size c 0 ls) := by
  rcases hs with hs | ⟨hs, rfl, rfl⟩
  ·obtain ⟨b, cap, h1, h2, h3, h4⟩ := hr.fo hs
   exact ⟨b, cap, h1, h2, h4⟩
  ·have hv : a.eval s = .slice none 0 0 := hr.fo hs
   obtain ⟨p, hp⟩ := hr.store.place hi'
   have hok := hr.store.gM _ _ _ hi' hp
   simp only [ef] at hok; subst hok
   exact ⟨none, 0, hp, hv, fun h => absurd rfl h⟩
 obtain ⟨b, cap, hpl, hval, hden⟩ := hrow
 have hown : ∃ xs, w.ownsRow 0 e size (a.eval s) ls.length xs ∧ (∀ c, b = some c → ∀ off, ls.length * size ≤ off → g.m c off = none) := by
  have hok := hr.store.gM _ _ _ hi' hpl
  rcases hor with rfl | rfl
  ·obtain ⟨⟨xs, h1⟩, h2⟩ := hok
   exact ⟨xs, by rw [hval]; exact h1, h2⟩
  ·simp only [ef, Pl.row.injEq] at hok
   obtain ⟨rfl, rfl, h3⟩ := hok
   refine ⟨[], ?_, fun c hc => by cases hc⟩
   rw [hval, h3]
   exact ⟨by simp, .inl ⟨rfl, rfl⟩⟩
 obtain ⟨xs, hown, hfree⟩ := hown
 obtain ⟨nv, v', w', hrun2, hrow', hfr0, ⟨k, hk1, hk2, hk3, c', rfl⟩, hnl, hnone, hden2⟩ := happ B g a w hr xs hown
 unfold Oper.wp
 rw [hrun2]
 show next (a.put o.dst _) _
 rw [hd]
 have hob2 : (a.eval s).ownBlock = b := by rw [hval]; cases b <;> rfl
 have hfr : Fr (fun c => b = some c) w w' := hfr0.mono fun c _ h => by rw [← hob2]; exact h.1
 rw [hob2] at hk2
 have hxl := hown.1
 have hcell' := (tw hrow').2
 have hcell := fun c (hc : b = some c) => (tw (b := c) (n := ls.length) (cap := cap) (xs := xs) (e := e) (k := size) (w := w) (by rw [hval, hc] at hown; exact hown)).2
 have hin : ∀ c, b = some c → ∀ off y, g.m c off = some y → xs[off]? = some y := fun c hc off y hy => by
  have hlt : off < ls.length * size := by
   rcases Nat.lt_or_ge off (ls.length * size) with h5 | h5
   ·exact h5
   ·rw [hfree c hc off h5] at hy; cases hy
  have h6 : xs[off]? = some xs[off] := List.getElem?_eq_getElem (by omega)
  have h7 := hcell c hc off _ h6
  rw [(hr.store.sat _ _ _ hy).1] at h7; cases h7
  exact h6
 have hnb : ∀ off, (b = some k → False) → g.m k off = none := fun off hbk => by
  rcases hk2 with h5 | h5
  ·exact (hbk h5).elim
  ·cases hx : g.m k off with
   | none => rfl
   | some y => have := hr.store.jH hx; omega
 have hmle : gg g.m (gA g.m k (xs ++ nv)) := gg.set fun off y hy => by
  by_cases hbk : b = some k
  ·have h6 := hin k hbk off y hy
   rw [List.getElem?_append_left (List.getElem?_eq_some_iff.1 h6).1]; exact h6
  ·rw [hnb off (fun h => hbk h)] at hy; cases hy
 have hcor : (b = some k ∧ or = .row e size) ∨ w.heap.size ≤ k := by
  rcases hk2 with h5 | h5
  ·rcases hor with h6 | rfl
   ·exact .inl ⟨h5, h6⟩
   ·have hok := hr.store.gM _ _ _ hi' hpl
    simp only [ef, Pl.row.injEq] at hok
    rw [hok.1] at h5; cases h5
  ·exact .inr (by omega)
 have hfr2 : Fr (fun c => b = some c ∧ or = .row e size) w w' := ⟨hfr.os, hfr.tape, hfr.output, hfr.size, fun c hc hn => hfr.block c hc (fun hb => by
  rcases hor with h6 | rfl
  ·exact hn ⟨hb, h6⟩
  ·have hok := hr.store.gM _ _ _ hi' hpl
   simp only [ef, Pl.row.injEq] at hok
   rw [hok.1] at hb; cases hb)⟩
 have hA : ∀ d off y, gA g.m k (xs ++ nv) d off = some y → g.m d off = none → d = k := fun d off y hy hn => by
  unfold gA at hy
  by_cases e5 : d = k
  ·exact e5
  ·rw [if_neg e5, hn] at hy; cases hy
 have hB' : ∀ off y, gA g.m k (xs ++ nv) k off = some y → w'.cell? ⟨k, off, none⟩ = some y ∧ y.oneCell' = true := fun off y hy => by
  unfold gA at hy
  rw [if_pos rfl] at hy
  refine ⟨hcell' off y hy, ?_⟩
  rw [List.getElem?_append] at hy
  split at hy
  ·rename_i hlt
   by_cases hl0 : ls = []
   ·subst hl0; simp at hxl; subst hxl; simp at hlt
   ·obtain ⟨c, hc, hdd⟩ := hden hl0
    obtain ⟨fl, hfl1, hfl2⟩ := ve hdd
    have h7 : fl[off]? = some fl[off] := List.getElem?_eq_getElem (by omega)
    have h8 := hfl2 off _ h7
    rw [Nat.zero_add] at h8
    have h9 := hin c hc off _ h8
    rw [hy] at h9; cases h9
    exact (hr.store.sat _ _ _ h8).2
  ·exact hnone y (List.mem_of_getElem? hy)
 have hC : ∀ d off y, b = some d → g.m d off = some y → w'.cell? ⟨d, off, none⟩ = some y := fun d off y hd hy => by
  by_cases hdk : d = k
  ·subst hdk
   have h6 := hin d hd off y hy
   exact hcell' off y (by rw [List.getElem?_append_left (List.getElem?_eq_some_iff.1 h6).1]; exact h6)
  ·have hlt := hr.store.jH hy
   have hold : w'.heap[d]? = w.heap[d]? := hfr0.block d hlt fun h => by
    have h9 := h.2
    simp only [Value.ownBlock, Option.some.injEq] at h9
    exact hdk h9.symm
   rw [World.cell?_of_block (w := w) hold]; exact (hr.store.sat _ _ _ hy).1
 have hD : ∀ off, (ls.length + news.length) * size ≤ off → gA g.m k (xs ++ nv) k off = none := fun off hoff => by
  unfold gA
  rw [if_pos rfl]
  exact List.getElem?_eq_none (by
   have : (ls.length + news.length) * size = ls.length * size + news.length * size := Nat.add_mul _ _ _
   rw [List.length_append]; omega)
 obtain ⟨h1, h2⟩ := hr.K9 (w' := w') (m' := gA g.m k (xs ++ nv)) (cap' := c') (n' := ls.length + news.length) hi' hor hpl hfr2 hmle hcor hA hB' hC ⟨_, hrow'⟩ hD hsl hob
 refine hK _ _ _ _ (h1.qp (s := .own i size (ls ++ news)) ht ⟨some k, c', ?_, ?_, ?_, fun _ => ⟨k, rfl, ?_⟩⟩) h2 h
 ·show (g.gs.set i _)[i]? = _
  rw [List.getElem?_set_self (List.getElem?_eq_some_iff.1 hpl).1]; simp
 ·simp
 ·have := (tw hrow').1; simpa using this
 ·refine dM.append ?_ ?_
  ·by_cases hl0 : ls = []
   ·subst hl0; trivial
   ·obtain ⟨c, hc, hdd⟩ := hden hl0
    refine oL hmle hdd fun j y hj hy => ?_
    rw [Nat.zero_add] at hy ⊢
    have h6 := hin c hc j y hy
    show gA _ _ _ _ _ = _
    unfold gA
    rw [if_pos rfl, List.getElem?_append_left (List.getElem?_eq_some_iff.1 h6).1]; exact h6
  ·refine hden2 _ _ _ hmle fun j y h6 => ?_
   show gA _ _ _ _ _ = _
   unfold gA
   rw [if_pos rfl, List.getElem?_append_right (by omega), show 0 + ls.length * size + j - xs.length = j by omega]; exact h6
theorem nx {s : Operand} {ls news : List (List D)} (TS : je P ty e size bytes) (ho : o.op = .call { callee := .builtin .append, args := #[s, x], argTypes := #[ty, ty] })
 (hd : o.dst = some t) (ht : Nat.blt t n = true) (hs : bJ GL sl s = some (.own i size ls) ∨ (bJ GL sl s = some (.d (.v (.slice none 0 0))) ∧ ls = [] ∧ or = .bP e size)) (hi : cC i ob = some or) (hor : or = .row e size ∨ or = .bP e size)
 (hx : ∀ B g a w, cT GL B ⟨n, sl, ob⟩ g a w → (D.sl size news).Den g.m (a.eval x))
 (hsz : 0 < size) (hne : news ≠ []) (h63 : ls.length + news.length ≤ maxLen) (hbytes : (ls.length + news.length) * bytes ≤ 140737488355328) (hsl : yq i sl = some sl') (hob : yr i ob = some ob1) (hob' : hJ i (.row e size) ob1 = some ob')
 (h : K ⟨n, (t, .own i size (ls ++ news)) :: sl', ob'⟩) : de P GL n0 Pn (fun j => j = i) o ⟨n, sl, ob⟩ K :=
 zc (news := news) hd ht hs hi hor (fun B g a w hr xs hown => by
  obtain ⟨ax, capx, hvx, hlx, hdx⟩ := hx B g a w hr
  obtain ⟨bx, offx, rfl, hdx2⟩ := hdx hne
  obtain ⟨nv, hnl, hnv⟩ := ve hdx2
  have hm : 0 < news.length := List.length_pos_iff.2 hne
  have hncell : ∀ j u, nv[j]? = some u → w.cell? ((⟨bx, offx, none⟩ : Addr).add j) = some u := fun j u hu => by
   rw [eS]; exact (hr.store.sat _ _ _ (hnv j u hu)).1
  have hnone : ∀ u ∈ nv, u.oneCell' = true := fun u hu => by
   obtain ⟨j, hj⟩ := List.getElem?_of_mem hu
   exact (hr.store.sat _ _ _ (hnv j u hj)).2
  obtain ⟨v', w', hrun, hrow', hfr0, k, hk1, hk2, hk3, c', rfl⟩ := Cr (P := P) (ty := o.type) TS hsz hown (a := ⟨bx, offx, none⟩) (c := capx) hnl hm hncell hnone h63 hbytes
  refine ⟨nv, _, w', ?_, hrow', hfr0, ⟨k, hk1, hk2, hk3, c', rfl⟩, hnl, hnone, fun m c off hmm hj => oL hmm hdx2 fun i y hi hy => ?_⟩
  ·unfold execOp
   simp only [ho, resolve, invoke, builtin, Sem.run_bind, Sem.run_pure, Result.andThen_ok, List.map_toArray, List.map_cons, List.map_nil, hvx, hrun]
  ·have h7 : nv[i]? = some nv[i] := List.getElem?_eq_getElem (by omega)
   have := hnv i _ h7
   rw [hy] at this; cases this; exact hj i _ h7) hsl hob hob' h
variable {sx : SV}
theorem rj {s : Operand} {ls news : List (List D)} (TS : je P ty e size bytes) (ho : o.op = .call { callee := .builtin .append, args := #[s, x], argTypes := #[ty, ty] })
 (hd : o.dst = some t) (ht : Nat.blt t n = true) (hs : bJ GL sl s = some (.own i size ls)) (hx : bJ GL sl x = some sx) (hxD : sx.gp = some (.sl size news)) (hi : cC i ob = some or) (hor : or = .row e size ∨ or = .bP e size)
 (hsz : 0 < size) (hne : news ≠ []) (h63 : ls.length + news.length ≤ maxLen ∧ (ls.length + news.length) * bytes ≤ 140737488355328) (hsl : yq i sl = some sl') (hob : yr i ob = some ob1) (hob' : hJ i (.row e size) ob1 = some ob')
 (h : K ⟨n, (t, .own i size (ls ++ news)) :: sl', ob'⟩) : de P GL n0 Pn (fun j => j = i) o ⟨n, sl, ob⟩ K :=
 nx TS ho hd ht (.inl hs) hi hor (fun B g a w hr => SV.Den.gp _ (hr.fo hx) hxD) hsz hne h63.1 h63.2 hsl hob hob' h
theorem wL {T' : Nat → Prop} (e : TypeId) (k : Nat) (hob : iX ob [.bP e k] = some ob') (hT : ∀ i, i < ob.length → T' i → T i) (h : de P GL n0 Pn T' o ⟨n, sl, ob'⟩ K) : de P GL n0 Pn T o ⟨n, sl, ob⟩ K := fun B hB g a w hr next Q hK hP => by
 rw [fO hob] at h
 obtain ⟨h1, h2⟩ := hr.Bc (w' := w) (Fr.refl _ w) (gg.refl _) (fun b o x h1 h2 => by rw [h2] at h1; cases h1) (o' := .bP e k) (pl := .row none 0 0) rfl (fun b hb => by simp [cO, dA] at hb) (fun i f dn cur e => by cases e)
 refine h B hB _ a w h1 next Q (fun σ' g' a' w' hr' hk hK' => hK σ' g' a' w' hr' ⟨h2.1.trans hk.1, fun i b o hi e1 e2 e3 => ?_⟩ hK') hP
 obtain ⟨f1, f2⟩ := h2.2 i b o (fun x => x) e1 e2 e3
 have hil := (List.getElem?_eq_some_iff.1 e1).1
 exact hk.2 i b o (fun hx => hi (hT i hil hx)) (by show (ob ++ [_])[i]? = _; rw [List.getElem?_append_left hil]; exact e1) f1 e3
theorem py {ob2 : List Ob} {s : Operand} {news : List (List D)} (TS : je P ty e size bytes) (ho : o.op = .call { callee := .builtin .append, args := #[s, x], argTypes := #[ty, ty] })
 (hd : o.dst = some t) (ht : Nat.blt t n = true) (hs : bJ GL sl s = some (.d (.v (.slice none 0 0)))) (hx : bJ GL sl x = some sx) (hxD : sx.gp = some (.sl size news)) (hl : ob.length = k) (hob0 : iX ob [.bP e size] = some ob1) (hi : cC k ob1 = some (.bP e size))
 (hsz : 0 < size) (hne : news ≠ []) (h63 : news.length ≤ maxLen ∧ news.length * bytes ≤ 140737488355328) (hsl : yq k sl = some sl') (hob : yr k ob1 = some ob2) (hob' : hJ k (.row e size) ob2 = some ob')
 (h : K ⟨n, (t, .own k size news) :: sl', ob'⟩) : de P GL n0 Pn T o ⟨n, sl, ob⟩ K :=
 wL (T' := fun j => j = k) e size hob0 (fun i hi hx => by omega) (nx (ls := []) TS ho hd ht (.inr ⟨hs, rfl, rfl⟩) hi (.inr rfl) (fun B g a w hr => SV.Den.gp _ (hr.fo hx) hxD) hsz hne (by simpa using h63.1) (by simpa using h63.2) hsl hob hob' h)
theorem Dt {f : FuncId} {argsc : List D} {svs : List SV} {Q : D → Prop} (hrun : ∀ B g a w, cT GL B σ g a w → ∃ vs, (execOp a.eval o).run P w = .ok (.enter f ⟨vs⟩) w ∧ bj g svs vs) (hfa : ia σ.ob svs (argsc.map .d))
 (ht : ey P GL f [] (argsc.map .d) fun out ob' => ob' = [] ∧ ∃ d, out = .ret (.d d) ∧ Q d) (hret : ∀ d, Q d → (∀ t, o.dst = some t → Nat.blt t σ.n = true ∧ K ⟨σ.n, (t, .d d) :: σ.sl, σ.ob⟩) ∧ (o.dst = none → K σ)) : de P GL n0 Pn T o σ K := fun B hB g a w hr next Q' hK hP => by
 obtain ⟨vs, hrun, hd⟩ := hrun B g a w hr
 have hren : ∀ l : List D, lL [] (l.map .d) = some (l.map .d) := by
  intro l
  induction l with
  | nil => rfl
  | cons x l ih => simp [lL, SV.iN, ih]
 have hsub := hr.store.sub (obc := []) (ρ := []) .nil List.nodup_nil (fun j i f dn cur hj => by simp at hj)
 have hd2 := gq hsub.2.1 _ (hren argsc) (hfa.den hr.store hd)
 unfold Oper.wp
 rw [hrun, Oper.upon_enter]
 refine (ht _ w vs hsub.1 hd2).mono fun e w' he => ?_
 obtain ⟨g', ob', hs, hst, hle, hno', he⟩ := he
 cases e with
 | returned v =>
  obtain ⟨s, hs1, rfl, d, e1, hq⟩ := he
  cases e1
  obtain ⟨gn, hrel, hkeep, hden⟩ := hr.after (obc := []) (ix := []) .nil List.nodup_nil rfl (fun i hi => by cases hi) hs hst hle hno' (obr := []) (ob1 := σ.ob) (obn := σ.ob) (sl1 := σ.sl) rfl rfl (by
   have : ∀ l : List Ob, iX l [] = some l := by
    intro l
    induction l with
    | nil => rfl
    | cons x l ih => simp [iX, ih]
   exact this _) rfl
  have hkeep' : qP T σ.ob g w gn w' := ⟨hkeep.1, fun i b o _ => hkeep.2 i b o (by simp)⟩
  obtain ⟨h1, h2⟩ := hret d hq
  show next (a.put o.dst v) w'
  cases hdst : o.dst with
  | none => exact hK _ _ _ _ hrel hkeep' (h2 hdst)
  | some t =>
   obtain ⟨e8, e9⟩ := h1 t hdst
   exact hK _ _ _ _ (hrel.put (s := .d d) e8 (hden (.d d) (.d d) v rfl hs1)) hkeep' e9
 | panicked c =>
  obtain ⟨v, s, _, _, _, d, e1, _⟩ := he
  cases e1
 | outgrown => exact he.elim
end
end Go.Vd
namespace Go.Vd
open Go Go.RowKit
section
variable {P : Program} {ops : Array Oper} {Q : Exit → Act → World → Prop}
def BH (ops : List Oper) (j i : Nat) : Bool := match cC j ops with
 | some o => o.after.toList.any fun e => cond (Region.binds .any e) (Nat.beq e.on i) false
 | none => false
abbrev Hd := List (Nat × Addr × Value)
def Ir (Hc : Hd) (w : World) : Prop := ∀ p ∈ Hc, w.cell? p.2.1 = some p.2.2
def Mf (i : Nat) (Hc : Hd) (w : World) : Prop := ∀ p ∈ Hc, p.1 = i → w.cell? p.2.1 = some p.2.2
def oF (ops : List Oper) (j : Nat) (Hc : Hd) : Hd := Hc.filter fun p => !BH ops j p.1
def HG (P : Program) (ops : Array Oper) (Q : Exit → Act → World → Prop) : Nat → Hd → Array Bool → Act → World → Prop
 | 0, _, listed, a, w => Region.ready .any ops listed = [] ∧ Q .normal a w
 | fuel + 1, Hc, listed, a, w =>
  (Region.ready .any ops listed = [] → Q .normal a w) ∧
  ∀ i ∈ Region.ready .any ops listed, wpOp P ops Q i (fun a' w' => Ir (oF ops.toList i Hc) w' ∧ HG P ops Q fuel (oF ops.toList i Hc) (listed.setIfInBounds i true) a' w') a w
theorem Cf : ∀ (fuel : Nat) (Hc : Hd) (listed : Array Bool) (a : Act) (w : World), HG P ops Q fuel Hc listed a w → wpAny P .any ops Q fuel listed a w
 | 0, _, _, _, _, h => h
 | fuel + 1, Hc, listed, _, _, h => ⟨h.1, fun i hi => wpOp_mono (fun a' w' h' => Cf fuel _ _ a' w' h'.2) (h.2 i hi)⟩
theorem tF : ∀ (fuel : Nat) (Hc Hd' : Hd) (listed : Array Bool) (a : Act) (w : World), (∀ p ∈ Hc, p ∈ Hd') → HG P ops Q fuel Hd' listed a w → HG P ops Q fuel Hc listed a w
 | 0, _, _, _, _, _, _, h => h
 | fuel + 1, Hc, Hd', listed, _, _, hs, h => ⟨h.1, fun i hi => wpOp_mono (fun a' w' h' => by
  have hs2 : ∀ p ∈ oF ops.toList i Hc, p ∈ oF ops.toList i Hd' := fun p hp => by
   unfold oF at hp ⊢
   rw [List.mem_filter] at hp ⊢
   exact ⟨hs p hp.1, hp.2⟩
  exact ⟨fun p hp => h'.1 p (hs2 p hp), tF fuel _ _ _ a' w' hs2 h'.2⟩) (h.2 i hi)⟩
def Yields (P : Program) (ops : Array Oper) (i : Nat) (Hc : Hd) (o : Oper) (v : Value) (a : Act) : Prop :=
 (Region.wanted o (yielded ops a.tmps) = true ∧ ∀ w, Mf i Hc w → (execOp a.eval o).run P w = .ok (.value v) w) ∨ (Region.wanted o (yielded ops a.tmps) = false ∧ v = undef)
variable {i : Nat} {Hc : Hd} {o : Oper} {v : Value} {a : Act}
theorem Yields.of_same {a' : Act} (h : Yields P ops i Hc o v a) (he : execOp a'.eval o = execOp a.eval o)
 (hw : Region.wanted o (yielded ops a'.tmps) = Region.wanted o (yielded ops a.tmps)) : Yields P ops i Hc o v a' := by
 unfold Yields at *; rw [he, hw]; exact h
theorem Yields.oF {i j : Nat} {Hc : Hd} {o : Oper} {v : Value} {a : Act} (h : Yields P ops i Hc o v a) (hd : BH ops.toList j i = false) : Yields P ops i (oF ops.toList j Hc) o v a := by
 refine h.imp (fun ⟨h1, h2⟩ => ⟨h1, fun w hc => h2 w fun p hp e => hc p ?_ e⟩) (fun h => h)
 unfold Vd.oF
 rw [List.mem_filter]
 exact ⟨hp, by rw [e, hd]; rfl⟩
variable {w : World} {K : Act → World → Prop}
theorem Yields.op (hi : ops[i]? = some o) (hy : Yields P ops i Hc o v a) (hw : Ir Hc w) (h : K (a.put o.dst v) w) :
 wpOp P ops Q i K a w := by
 unfold wpOp
 simp only [hi]
 rcases hy with ⟨h1, h2⟩ | ⟨h1, rfl⟩
 ·rw [if_pos h1]; left; unfold Oper.wp; rw [h2 w (fun p hp _ => hw p hp)]; exact h
 ·rw [if_neg (by simp [h1])]; exact h
variable {j : Nat} {oi : Oper}
theorem wpOp_put {oj : Oper} (hQ : ∀ c (a : Act) v w, Q (.panic c) (a.put oi.dst v) w → Q (.panic c) a w) (hj : ops[j]? = some oj) (hap : oi.apart ops oj = true)
 (hsi : ∀ cs b, oi.op ≠ .select cs b) (hsj : ∀ cs b, oj.op ≠ .select cs b)
 (hy : Yields P ops i Hc oi v a) (h : wpOp P ops Q j K (a.put oi.dst v) w) :
 wpOp P ops Q j (fun a' w' => Yields P ops i Hc oi v a' ∧ K (a'.put oi.dst v) w') a w := by
 obtain ⟨h1, h2, h3⟩ := Oper.apart_spec hap
 have oA : ∀ u, Yields P ops i Hc oi v (a.put oj.dst u) := fun u => hy.of_same (execOp_put oi hsi a oj.dst u h3) (wanted_put oi a oj.dst u h3)
 have keepd : ∀ d u, Yields P ops i Hc oi v (({ a with defers := d :: a.defers } : Act).put oj.dst u) := fun d u => by
  have hb : Yields P ops i Hc oi v ({ a with defers := d :: a.defers } : Act) := hy.of_same (execOp_congr oi hsi fun x _ => by cases x <;> rfl) rfl
  exact hb.of_same (execOp_put oi hsi _ oj.dst u h3) (wanted_put oi _ oj.dst u h3)
 unfold wpOp at *
 simp only [hj] at *
 rw [wanted_put oj a oi.dst v h1] at h
 split
 ·rename_i hw
  simp only [hw, if_true] at h
  rcases h with h | h
  ·left
   unfold Oper.wp at *
   rw [execOp_put oj hsj a oi.dst v h1] at h
   generalize (execOp a.eval oj).run P w = r at *
   cases r with
   | ok n w' =>
    cases n <;> simp only [Oper.upon] at h ⊢
    case value u => exact ⟨oA u, by rw [← Act.put_comm a v u h2]; exact h⟩
    case skip => exact ⟨oA _, by rw [← Act.put_comm a v undef h2]; exact h⟩
    case enter f args =>
     refine h.mono fun e w'' he => ?_
     cases e with
     | returned u => exact ⟨oA u, by rw [← Act.put_comm a v u h2]; exact he⟩
     | panicked c => exact hQ _ _ _ _ he
     | outgrown => exact he
    case defer d =>
     refine ⟨keepd d _, ?_⟩
     rw [← Act.put_comm _ v undef h2, ← Act.put_defers]
     exact h
    case row r args => exact Rows.mono h fun u w'' hu => ⟨oA u, by rw [← Act.put_comm a v u h2]; exact hu⟩
   | halt x w' =>
    cases x <;> simp only [Oper.upon] at h ⊢
    exact hQ _ _ _ _ h
  ·right
   obtain ⟨hh, hl⟩ := h
   refine ⟨?_, hl⟩
   unfold Oper.asks at *
   rw [execOp_put oj hsj a oi.dst v h1] at hh
   exact hh
 ·rename_i hw
  simp only [hw] at h
  exact ⟨oA _, by rw [← Act.put_comm a v undef h2]; exact h⟩
theorem qS (hQ : ∀ c (a : Act) v w, Q (.panic c) (a.put oi.dst v) w → Q (.panic c) a w) (hi : ops[i]? = some oi)
 (hsel : ∀ (j : Nat) (o : Oper) cs b, ops[j]? = some o → o.op ≠ .select cs b) :
 ∀ (fuel : Nat) (Hc : Hd) (listed : Array Bool) (a : Act) (w : World),
  (∀ (j : Nat) (oj : Oper), ops[j]? = some oj → j ≠ i → listed.getD j true = false → (∀ e ∈ oj.after, Region.binds .any e = true → e.on ≠ i) → oi.apart ops oj = true) →
  i ∈ Region.ready .any ops listed → Yields P ops i Hc oi v a → Ir Hc w →
  HG P ops Q fuel Hc (listed.setIfInBounds i true) (a.put oi.dst v) w → HG P ops Q (fuel + 1) Hc listed a w := by
 intro fuel
 have hfsub : ∀ (Hc : Hd) (j : Nat) p, p ∈ oF ops.toList j Hc → p ∈ Hc := fun Hc j p hp => by unfold oF at hp; exact (List.mem_filter.1 hp).1
 induction fuel with
 | zero =>
  intro Hc listed a w _ hr hy hc H
  refine ⟨fun h => (by rw [h] at hr; cases hr), fun j hj => ?_⟩
  by_cases hji : j = i
  ·subst hji; exact hy.op hi hc ⟨fun p hp => hc p (hfsub _ _ p hp), H⟩
  ·have := ready_mono hj hji
   rw [H.1] at this
   cases this
 | succ fuel ih =>
  intro Hc listed a w hfree hr hy hc H
  refine ⟨fun h => (by rw [h] at hr; cases hr), fun j hj => ?_⟩
  by_cases hji : j = i
  ·subst hji; exact hy.op hi hc ⟨fun p hp => hc p (hfsub _ _ p hp), tF _ _ _ _ _ _ (hfsub _ _) H⟩
  ·have h1 := H.2 j (ready_mono hj hji)
   obtain ⟨hjun, oj, hoj, hall⟩ := mem_ready.1 hj
   have hnot : ∀ e ∈ oj.after, Region.binds .any e = true → e.on ≠ i := fun e he hb heq => by
    have h1 := hall e he hb
    have h0 := (mem_ready.1 hr).1
    rw [heq] at h1
    rcases Nat.lt_or_ge i listed.size with h' | h'
    ·simp [h'] at h0 h1; rw [h0] at h1; cases h1
    ·simp [Array.getElem?_eq_none h'] at h1
   have hdep : BH ops.toList j i = false := by
    unfold BH
    split
    ·rename_i o ho
     have ho2 := bL ho
     have ho3 : ops[j]? = some o := by simpa using ho2
     rw [hoj] at ho3; cases ho3
     rw [List.any_eq_false]
     intro e he
     cases hb : Region.binds .any e with
     | false => simp
     | true => simpa using hnot e (by simpa using he) hb
    ·rfl
   have h2 := wpOp_put hQ hoj (hfree j oj hoj hji hjun hnot) (fun cs b => hsel i oi cs b hi) (fun cs b => hsel j oj cs b hoj) hy h1
   have hfree' : ∀ (k : Nat) (ok : Oper), ops[k]? = some ok → k ≠ i → (listed.setIfInBounds j true).getD k true = false →
    (∀ e ∈ ok.after, Region.binds .any e = true → e.on ≠ i) → oi.apart ops ok = true := fun k ok hk hki hun hno => by
    refine hfree k ok hk hki ?_ hno
    by_cases hjk : j = k
    ·subst hjk; exact hjun
    ·rw [getD_set_ne true hjk] at hun; exact hun
   refine wpOp_mono (fun a' w' h3 => ⟨h3.2.1, ih _ (listed.setIfInBounds j true) a' w' hfree' (ready_mono hr (Ne.symm hji)) (h3.1.oF hdep) h3.2.1 ?_⟩) h2
   rw [Array.setIfInBounds_comm _ _ hji]
   exact h3.2.2
end
def wV (t : Nat → Bool) : List (Nat × Nat) → List Ob → Bool
 | [], _ => true
 | p :: r, ob => !(t p.2) && (match cC p.2 ob with | some (.cells _ _) => true | _ => false) && wV t r ob
theorem mi {t : Nat → Bool} {ob : List Ob} : ∀ {L : List (Nat × Nat)}, wV t L ob = true → ∀ p ∈ L, t p.2 = false ∧ ∃ c ty, cC p.2 ob = some (.cells c ty)
 | q :: r, h, p, hp => by
  simp only [wV, Bool.and_eq_true, Bool.not_eq_true'] at h
  rcases List.mem_cons.1 hp with rfl | hp
  ·refine ⟨h.1.1, ?_⟩
   have h2 := h.1.2
   split at h2
   ·exact ⟨_, _, by assumption⟩
   ·cases h2
  ·exact mi h.2 p hp
variable {ob : List Ob}
theorem CJ {L : List (Nat × Nat)} (h : wV (fun _ => false) L ob = true) : ∀ p ∈ L, ¬ (fun _ : Nat => False) p.2 ∧ ∃ c ty, cC p.2 ob = some (.cells c ty) := fun p hp => ⟨fun h => h, (mi h p hp).2⟩
variable {i : Nat}
theorem CI {L : List (Nat × Nat)} (h : wV (fun j => Nat.beq j i) L ob = true) : ∀ p ∈ L, ¬ (fun j => j = i) p.2 ∧ ∃ c ty, cC p.2 ob = some (.cells c ty) := fun p hp =>
 ⟨fun e => (by have := (mi h p hp).1; simp only [e] at this; simp at this), (mi h p hp).2⟩
theorem CG {ix : List Nat} {L : List (Nat × Nat)} (h : wV (mc ix) L ob = true) : ∀ p ∈ L, ¬ (fun j => j ∈ ix) p.2 ∧ ∃ c ty, cC p.2 ob = some (.cells c ty) := fun p hp =>
 ⟨fun e => (by have := (mi h p hp).1; rw [ma.2 e] at this; cases this), (mi h p hp).2⟩
section
variable {P : Program} {GL : Nat → List D} {n0 : Nat} {Pn : oR}
def C7 (g : Gh) (L : List (Nat × Nat)) (Hc : Hd) : Prop :=
 ∀ p ∈ Hc, p.2.1.spot = none ∧ (g.m p.2.1.block p.2.1.off = some p.2.2 ∨ ∃ k b, (p.1, k) ∈ L ∧ g.gs[k]? = some (.loc b) ∧ p.2.1.block = b)
def vB (i : Nat) : List Nat → List (Nat × Nat) → Option (List (Nat × Nat))
 | [], L => some L
 | k :: r, L => (vB i r L).bind fun l => some ((i, k) :: l)
theorem yC {i : Nat} : ∀ {r : List Nat} {L l : List (Nat × Nat)}, vB i r L = some l → (∀ k ∈ r, (i, k) ∈ l) ∧ ∀ p ∈ L, p ∈ l
 | [], L, l, h => by simp [vB] at h; subst h; simp
 | k :: r, L, l, h => by
  simp only [vB, Option.bind_eq_some_iff, Option.some.injEq] at h
  obtain ⟨l', h1, rfl⟩ := h
  have ih := yC h1
  exact ⟨fun j hj => by rcases List.mem_cons.1 hj with rfl | hj; exact List.mem_cons_self; exact List.mem_cons_of_mem _ (ih.1 j hj), fun p hp => List.mem_cons_of_mem _ (ih.2 p hp)⟩
def mF (ops : List Oper) (j : Nat) : List (Nat × Nat) → Option (List (Nat × Nat))
 | [] => some []
 | p :: r => (mF ops j r).bind fun l => cond (BH ops j p.1) (some l) (some (p :: l))
theorem rC {ops : List Oper} {j : Nat} : ∀ {L l : List (Nat × Nat)}, mF ops j L = some l → ∀ p ∈ L, BH ops j p.1 = false → p ∈ l
 | [], l, h, p, hp, _ => by cases hp
 | q :: r, l, h, p, hp, hd => by
  simp only [mF, Option.bind_eq_some_iff] at h
  obtain ⟨l', h1, h2⟩ := h
  cases hb : BH ops j q.1 <;> rw [hb] at h2 <;> simp at h2 <;> subst h2
  ·rcases List.mem_cons.1 hp with rfl | hp
   ·exact List.mem_cons_self
   ·exact List.mem_cons_of_mem _ (rC h1 p hp hd)
  ·rcases List.mem_cons.1 hp with rfl | hp
   ·rw [hb] at hd; cases hd
   ·exact rC h1 p hp hd
def bI (P : Program) (GL : Nat → List D) (n0 : Nat) (Pn : oR) (l : List Oper) (fuel : Nat) (listed : Array Bool) (L : List (Nat × Nat)) (Q : Ex → St → Prop) (σ : St) : Prop :=
 ∀ B : Bs, B.n0 = n0 → ∀ g a w Hc, cT GL B σ g a w → Ir Hc w → C7 g L Hc → HG P l.toArray (oy GL B (Pn.dr l) Q) fuel Hc listed a w
variable {l : List Oper} {o : Oper} {t : Nat}
theorem FR (h : l[i]? = some o) (hd : o.dst = some t) : u9 t l = true := by
 induction l generalizing i with
 | nil => simp at h
 | cons a r ih =>
  unfold u9
  cases i with
  | zero => simp at h; subst h; rw [hd]; simp
  | succ i => rw [ih (by simpa using h)]; simp
variable {B : Bs}
theorem rq {Q : Ex → St → Prop} (ho : l[i]? = some o) : ∀ c (a : Act) v w, oy GL B (Pn.dr l) Q (.panic c) (a.put o.dst v) w → oy GL B (Pn.dr l) Q (.panic c) a w := by
 intro c a v w h
 rcases h with h | ⟨h1, g, sl, ob, x, s, h2, h3, h4, h5, h7, h6⟩
 ·exact h.elim
 ·refine .inr ⟨by cases hd : o.dst <;> rw [hd] at h1 <;> exact h1, g, gu l sl, ob, x, s, h2, h3, h4, h5, fun t => ?_, ?_⟩
  ·rw [rE]
   split
   ·trivial
   ·rename_i hn
    have := h7 t
    cases hd : o.dst with
    | none => rw [hd] at this; exact this
    | some d =>
     rw [hd] at this
     have hdt : d ≠ t := fun e => hn (by subst e; exact FR ho hd)
     have e2 : (a.put (some d) v).tmps.getD t undef = a.tmps.getD t undef := by
      simp only [Act.put]
      rw [Array.getD_eq_getD_getElem?, Array.getD_eq_getD_getElem?, Array.getElem?_setIfInBounds_ne hdt]
     rwa [e2] at this
  ·show Pn.pn s (gu l (gu l sl)) ob
   rw [vc]; exact h6
theorem Ff {Q : Ex → St → Prop} : ∀ e a w, oy GL B (Pn.dr l) Q e a w → oy GL B Pn Q e a w := by
 intro e a w h
 cases e with
 | normal => exact h
 | exit j => exact h
 | goto l => exact h
 | ret => exact .inr (h.resolve_left id)
 | panic c =>
  rcases h with h | ⟨h1, g, sl, ob, x, s, h2, h3, h4, h5, h7, h6⟩
  ·exact h.elim
  ·refine .inr ⟨h1, g, gu l sl, ob, x, s, h2, h3, h4, h5, fun t => ?_, h6⟩
   rw [rE]
   split
   ·trivial
   ·exact h7 t
 | outgrown => exact h
variable {id fuel : Nat} {σ : St} {listed : Array Bool}
theorem Ei {Q : Ex → St → Prop} (hm : P.follows .mixedOrders = true) (hf : l.length = fuel) (hl : Array.replicate fuel false = listed) (h : bI P GL n0 Pn l fuel listed [] Q σ) : bl P GL n0 Pn (.region id l.toArray true) Q σ := fun B hB a w ⟨g, hr⟩ => by
 subst hf hl
 refine wp_mono (Q := oy GL B (Pn.dr l) Q) ?_ Ff
 refine wp_region_any hm ?_
 have hr' : cT GL B σ g a { w with drawn := w.drawn + 1 } := ⟨hr.defers, hr.size, hr.di, ⟨hr.store.len, fun i o p h1 h2 => by have := hr.store.gM i o p h1 h2; cases o <;> cases p <;> first | exact this | exact ⟨this.2.2 g.m g.m w _ (gg.refl _) (fun _ _ => rfl) (fun _ _ _ h => h) this.1, this.2.1, this.2.2⟩, hr.store.dQ, hr.store.oI, hr.store.sat, hr.store.Fx⟩,
  ⟨⟨hr.iR.fr.os, hr.iR.fr.tape, hr.iR.fr.output, hr.iR.fr.size, hr.iR.fr.block⟩, hr.iR.mem, hr.iR.new, hr.iR.own, hr.iR.at'⟩⟩
 have := h B hB g a _ [] hr' (fun p hp => by cases hp) (fun p hp => by cases hp)
 simpa using Cf _ _ _ _ _ this
theorem HC {Q : Ex → St → Prop} (h : bI P GL n0 Pn l fuel listed [] Q σ) (hf : l.length = fuel := by exact rfl) (hl : Array.replicate fuel false = listed := by exact rfl) (hm : P.follows .mixedOrders = true := by omega) : bl P GL n0 Pn (.region id l.toArray true) Q σ := Ei hm hf hl h
variable {listed' : Array Bool} {n : Nat} {sl : List (Nat × SV)}
theorem rK {L : List (Nat × Nat)} {Q : Ex → St → Prop} (i : Nat) (ho : l[i]? = some o) (hw : ∀ B g a w, cT GL B ⟨n, sl, ob⟩ g a w → Region.wanted o (yielded l.toArray a.tmps) = true) (hd : o.dst = some t) (ht : Nat.blt t n = true)
 (hb : ((Region.ready .any l.toArray listed).contains i && Region.free .any l.toArray listed i && Region.noSelect l.toArray) = true) (hl : listed.setIfInBounds i true = listed')
 (h : aj P GL o ⟨n, sl, ob⟩ fun s L' => ∃ L2, vB i L' L = some L2 ∧ bI P GL n0 Pn l fuel listed' L2 Q ⟨n, (t, s) :: sl, ob⟩) : bI P GL n0 Pn l (fuel + 1) listed L Q ⟨n, sl, ob⟩ := fun B hB g a w Hc hr hc hheld => by
 subst hl
 simp only [Bool.and_eq_true] at hb
 obtain ⟨⟨hready, hfree⟩, hsel⟩ := hb
 have ho' : l.toArray[i]? = some o := by simpa using ho
 obtain ⟨Hi, s, y, L', hrun, hcw, hh, hden, L2, hL2, hk⟩ := h B g a w hr
 have htm := yC hL2
 have hcw2 : Ir (Hi.map (fun p => (i, p)) ++ Hc) w := fun p hp => (List.mem_append.1 hp).elim (fun hp => by
  obtain ⟨q, hq, rfl⟩ := List.mem_map.1 hp; exact hcw q hq) (hc p)
 have hh2 : C7 g L2 (Hi.map (fun p => (i, p)) ++ Hc) := fun p hp => by
  rcases List.mem_append.1 hp with hp | hp
  ·obtain ⟨q, hq, rfl⟩ := List.mem_map.1 hp
   obtain ⟨h1, h2⟩ := hh q hq
   exact ⟨h1, h2.imp (fun h => h) fun ⟨k, b, e1, e2⟩ => ⟨k, b, htm.1 k e1, e2⟩⟩
  ·obtain ⟨h1, h2⟩ := hheld p hp
   exact ⟨h1, h2.imp (fun h => h) fun ⟨k, b, e1, e2⟩ => ⟨k, b, htm.2 _ e1, e2⟩⟩
 refine tF _ _ (Hi.map (fun p => (i, p)) ++ Hc) _ _ _ (fun p hp => List.mem_append.2 (.inr hp)) ?_
 refine qS (rq ho) ho' (Region.noSelect_spec hsel) fuel _ listed a w (Region.free_spec ho' hfree) (by simpa using hready) (v := y) (.inl ⟨hw B g a w hr, fun w' hc' => hrun w' (fun p hp => hc' (i, p) (List.mem_append.2 (.inl (List.mem_map.2 ⟨p, hp, rfl⟩))) rfl)⟩) hcw2 ?_
 rw [hd]
 exact hk B hB g _ w _ (hr.put ht hden) hcw2 hh2
theorem Jw {L : List (Nat × Nat)} {Q : Ex → St → Prop} (i : Nat) (ho : l[i]? = some o) (hg : o.guard = none) (hd : o.dst = some t) (ht : Nat.blt t n = true)
 (hb : ((Region.ready .any l.toArray listed).contains i && Region.free .any l.toArray listed i && Region.noSelect l.toArray) = true) (hl : listed.setIfInBounds i true = listed')
 (h : aj P GL o ⟨n, sl, ob⟩ fun s L' => ∃ L2, vB i L' L = some L2 ∧ bI P GL n0 Pn l fuel listed' L2 Q ⟨n, (t, s) :: sl, ob⟩) : bI P GL n0 Pn l (fuel + 1) listed L Q ⟨n, sl, ob⟩ :=
 rK i ho (fun B g a w hr => by simp [Region.wanted, hg]) hd ht hb hl h
theorem A1 {L : List (Nat × Nat)} {Q : Ex → St → Prop} (i : Nat) (ho : l[i]? = some o) (h : aj P GL o ⟨n, sl, ob⟩ fun s L' => ∃ L2, vB i L' L = some L2 ∧ bI P GL n0 Pn l fuel listed' L2 Q ⟨n, (t, s) :: sl, ob⟩) (hg : o.guard = none := by exact rfl) (hd : o.dst = some t := by exact rfl) (ht : Nat.blt t n = true := by exact rfl) (hb : ((Region.ready .any l.toArray listed).contains i && Region.free .any l.toArray listed i && Region.noSelect l.toArray) = true := by kernel_rfl) (hl : listed.setIfInBounds i true = listed' := by exact rfl) : bI P GL n0 Pn l (fuel + 1) listed L Q ⟨n, sl, ob⟩ := Jw i ho hg hd ht hb hl h
variable {a : Act} {w : World} {j d : Nat} {want b : Bool}
theorem iq {g : Gh} (hr : cT GL B ⟨n, sl, ob⟩ g a w) (hg : o.guard = some (j, want)) (hd : fV l j = some d) (hb : gw d sl = some (.d (.v (.bool b)))) :
 Region.wanted o (yielded l.toArray a.tmps) = (b == want) := by
 have hbv : a.tmps.getD d undef = .bool b := by have := hr.di d; rw [fI hb] at this; exact this
 exact qT hg (by simpa using hd) hbv
theorem BX {L : List (Nat × Nat)} {Q : Ex → St → Prop} (i : Nat) (ho : l[i]? = some o) (hg : o.guard = some (j, want)) (hj : fV l j = some d) (hlit : gw d sl = some (.d (.v (.bool want)))) (hd : o.dst = some t) (ht : Nat.blt t n = true)
 (hb : ((Region.ready .any l.toArray listed).contains i && Region.free .any l.toArray listed i && Region.noSelect l.toArray) = true) (hl : listed.setIfInBounds i true = listed')
 (h : aj P GL o ⟨n, sl, ob⟩ fun s L' => ∃ L2, vB i L' L = some L2 ∧ bI P GL n0 Pn l fuel listed' L2 Q ⟨n, (t, s) :: sl, ob⟩) : bI P GL n0 Pn l (fuel + 1) listed L Q ⟨n, sl, ob⟩ :=
 rK i ho (fun B g a w hr => by rw [iq hr hg hj hlit]; simp) hd ht hb hl h
theorem A6 {L : List (Nat × Nat)} {Q : Ex → St → Prop} (i : Nat) (ho : l[i]? = some o) (h : aj P GL o ⟨n, sl, ob⟩ fun s L' => ∃ L2, vB i L' L = some L2 ∧ bI P GL n0 Pn l fuel listed' L2 Q ⟨n, (t, s) :: sl, ob⟩) (hg : o.guard = some (j, want) := by exact rfl) (hj : fV l j = some d := by exact rfl) (hd : o.dst = some t := by exact rfl) (hlit : gw d sl = some (.d (.v (.bool want))) := by exact rfl) (ht : Nat.blt t n = true := by exact rfl) (hb : ((Region.ready .any l.toArray listed).contains i && Region.free .any l.toArray listed i && Region.noSelect l.toArray) = true := by kernel_rfl) (hl : listed.setIfInBounds i true = listed' := by exact rfl) : bI P GL n0 Pn l (fuel + 1) listed L Q ⟨n, sl, ob⟩ := BX i ho hg hj hlit hd ht hb hl h
theorem Em {L : List (Nat × Nat)} {Q : Ex → St → Prop} (i : Nat) (ho : l[i]? = some o) (hg : o.guard = some (j, want)) (hj : fV l j = some d) (hlit : gw d sl = some (.d (.v (.bool (!want)))) ∨ gw d sl = some (.d (.v undef))) (hd : o.dst = some t) (ht : Nat.blt t n = true)
 (hb : ((Region.ready .any l.toArray listed).contains i && Region.free .any l.toArray listed i && Region.noSelect l.toArray) = true) (hl : listed.setIfInBounds i true = listed')
 (h : bI P GL n0 Pn l fuel listed' L Q ⟨n, (t, .d (.v undef)) :: sl, ob⟩) : bI P GL n0 Pn l (fuel + 1) listed L Q ⟨n, sl, ob⟩ := fun B hB g a w Hc hr hc hheld => by
 subst hl
 simp only [Bool.and_eq_true] at hb
 obtain ⟨⟨hready, hfree⟩, hsel⟩ := hb
 have ho' : l.toArray[i]? = some o := by simpa using ho
 have hw : Region.wanted o (yielded l.toArray a.tmps) = false := by
  rcases hlit with hlit | hlit
  ·rw [iq hr hg hj hlit]; cases want <;> rfl
  ·have hbv : a.tmps.getD d undef = undef := by have := hr.di d; rw [fI hlit] at this; exact this
   exact mN hg (by simpa using hj) (t := #[]) (by rw [hbv]; rfl)
 refine qS (rq ho) ho' (Region.noSelect_spec hsel) fuel _ listed a w (Region.free_spec ho' hfree) (by simpa using hready) (v := undef) (.inr ⟨hw, rfl⟩) hc ?_
 rw [hd]
 exact h B hB g _ w _ (hr.qp (s := .d (.v undef)) ht rfl) hc hheld
theorem A7 {L : List (Nat × Nat)} {Q : Ex → St → Prop} (i : Nat) (ho : l[i]? = some o) (h : bI P GL n0 Pn l fuel listed' L Q ⟨n, (t, .d (.v undef)) :: sl, ob⟩) (hg : o.guard = some (j, want) := by exact rfl) (hj : fV l j = some d := by exact rfl) (hd : o.dst = some t := by exact rfl) (ht : Nat.blt t n = true := by exact rfl) (hb : ((Region.ready .any l.toArray listed).contains i && Region.free .any l.toArray listed i && Region.noSelect l.toArray) = true := by kernel_rfl) (hl : listed.setIfInBounds i true = listed' := by exact rfl) (hlit : gw d sl = some (.d (.v (.bool (!want)))) ∨ gw d sl = some (.d (.v undef)) := by omega) : bI P GL n0 Pn l (fuel + 1) listed L Q ⟨n, sl, ob⟩ := Em i ho hg hj hlit hd ht hb hl h
theorem Ej {L : List (Nat × Nat)} {Q : Ex → St → Prop} (d : Nat) (hb : gw d sl = some (.d (.v (.bool b))))
 (h1 : b = true → bI P GL n0 Pn l fuel listed L Q ⟨n, (d, .d (.v (.bool true))) :: sl, ob⟩) (h2 : b = false → bI P GL n0 Pn l fuel listed L Q ⟨n, (d, .d (.v (.bool false))) :: sl, ob⟩) : bI P GL n0 Pn l fuel listed L Q ⟨n, sl, ob⟩ := fun B hB g a w Hc hr hc hh => by
 have hbv : a.tmps.getD d undef = .bool b := by have := hr.di d; rw [fI hb] at this; exact this
 cases b with
 | true => exact h1 rfl B hB g a w Hc (hr.known (t := d) hbv) hc hh
 | false => exact h2 rfl B hB g a w Hc (hr.known (t := d) hbv) hc hh
def cY (P : Program) (GL : Nat → List D) (n0 : Nat) (Pn : oR) (l : List Oper) (fuel : Nat) (listed : Array Bool) (L : List (Nat × Nat)) (Q : Ex → St → Prop) (σ : St) (i : Nat) : Prop :=
 ∀ B : Bs, B.n0 = n0 → ∀ g a w Hc, cT GL B σ g a w → Ir Hc w → C7 g L Hc →
  wpOp P l.toArray (oy GL B (Pn.dr l) Q) i (fun a' w' => Ir (oF l i Hc) w' ∧ HG P l.toArray (oy GL B (Pn.dr l) Q) fuel (oF l i Hc) (listed.setIfInBounds i true) a' w') a w
def HE (p : Nat → Prop) : List Nat → Prop
 | [] => True
 | i :: r => p i ∧ HE p r
theorem HE.mem {p : Nat → Prop} : ∀ {l : List Nat}, HE p l → ∀ i ∈ l, p i
 | [], _, i, h => by cases h
 | j :: r, h, i, hi => by
  rcases List.mem_cons.1 hi with rfl | hi
  ·exact h.1
  ·exact h.2.mem i hi
theorem dj {L : List (Nat × Nat)} {Q : Ex → St → Prop} {rs : List Nat} (hrs : Region.ready .any l.toArray listed = rs) (hne : rs.isEmpty = false) (h : HE (cY P GL n0 Pn l fuel listed L Q σ) rs) : bI P GL n0 Pn l (fuel + 1) listed L Q σ := fun B hB g a w Hc hr hc hh => by
 refine ⟨fun e => ?_, fun k hk => ?_⟩
 ·rw [hrs] at e; subst e; cases hne
 ·rw [hrs] at hk
  exact h.mem k hk B hB g a w Hc hr hc hh
variable {T : Nat → Prop}
theorem vo {L L2 : List (Nat × Nat)} {Q : Ex → St → Prop} (i : Nat) (ho : l[i]? = some o) (hw : ∀ B g a w, cT GL B σ g a w → Region.wanted o (yielded l.toArray a.tmps) = true) (hl : listed.setIfInBounds i true = listed')
 (hf : mF l i L = some L2) (hL : ∀ p ∈ L2, ¬ T p.2 ∧ ∃ c ty, cC p.2 σ.ob = some (.cells c ty))
 (h : de P GL n0 (Pn.dr l) T o σ fun σ' => bI P GL n0 Pn l fuel listed' L2 Q σ') : cY P GL n0 Pn l fuel listed L Q σ i := fun B hB g a w Hc hr hc hh => by
 subst hl
 have ho' : l.toArray[i]? = some o := by simpa using ho
 unfold wpOp
 simp only [ho', hw B g a w hr, if_true]
 left
 have hmem : ∀ p ∈ oF l i Hc, p ∈ Hc ∧ ∀ q, (p.1, q) ∈ L → (p.1, q) ∈ L2 := fun p hp => by
  unfold oF at hp
  obtain ⟨h1, h2⟩ := List.mem_filter.1 hp
  exact ⟨h1, fun q hq => rC hf _ hq (by simpa using h2)⟩
 refine h B hB g a w hr _ _ (fun σ' g' a' w' hr' hkeep hk => ?_) (fun c w' hp => .inr ⟨hr.defers, hp⟩)
 have hc' : Ir (oF l i Hc) w' := fun p hp => by
  obtain ⟨hp1, hp2⟩ := hmem p hp
  obtain ⟨h1, h2⟩ := hh p hp1
  have hcell := hc p hp1
  obtain ⟨pi, ⟨pb, po, ps⟩, pv⟩ := p
  simp only at h1 h2 hcell hp2 ⊢
  subst h1
  rcases h2 with h2 | ⟨j, b, e1, e2, e3⟩
  ·exact (hr'.store.sat _ _ _ (hkeep.1 _ _ _ h2)).1
  ·obtain ⟨f1, c, ty, f2⟩ := hL _ (hp2 j e1)
   obtain ⟨_, f4⟩ := hkeep.2 j b _ f1 (bL f2) e2 rfl
   subst e3
   rw [World.cell?_of_block (w := w) f4]; exact hcell
 have hh' : C7 g' L2 (oF l i Hc) := fun p hp => by
  obtain ⟨hp1, hp2⟩ := hmem p hp
  obtain ⟨h1, h2⟩ := hh p hp1
  refine ⟨h1, h2.imp (hkeep.1 _ _ _) fun ⟨j, b, e1, e2, e3⟩ => ?_⟩
  obtain ⟨f1, c, ty, f2⟩ := hL _ (hp2 j e1)
  exact ⟨j, b, hp2 j e1, (hkeep.2 j b _ f1 (bL f2) e2 rfl).1, e3⟩
 exact ⟨by simpa using hc', by simpa using hk B hB g' a' w' _ hr' hc' hh'⟩
theorem xn {L L2 : List (Nat × Nat)} {Q : Ex → St → Prop} (i : Nat) (ho : l[i]? = some o) (hw : ∀ B g a w, cT GL B σ g a w → Region.wanted o (yielded l.toArray a.tmps) = true) (hrs : Region.ready .any l.toArray listed = [i]) (hl : listed.setIfInBounds i true = listed')
 (hf : mF l i L = some L2) (hL : ∀ p ∈ L2, ¬ T p.2 ∧ ∃ c ty, cC p.2 σ.ob = some (.cells c ty))
 (h : de P GL n0 (Pn.dr l) T o σ fun σ' => bI P GL n0 Pn l fuel listed' L2 Q σ') : bI P GL n0 Pn l (fuel + 1) listed L Q σ :=
 dj hrs rfl ⟨vo i ho hw hl hf hL h, trivial⟩
theorem KI {L L2 : List (Nat × Nat)} {Q : Ex → St → Prop} (i : Nat) (ho : l[i]? = some o) (hg : o.guard = none) (hl : listed.setIfInBounds i true = listed')
 (hf : mF l i L = some L2) (hL : ∀ p ∈ L2, ¬ T p.2 ∧ ∃ c ty, cC p.2 σ.ob = some (.cells c ty))
 (h : de P GL n0 (Pn.dr l) T o σ fun σ' => bI P GL n0 Pn l fuel listed' L2 Q σ') : cY P GL n0 Pn l fuel listed L Q σ i :=
 vo i ho (fun B g a w hr => by simp [Region.wanted, hg]) hl hf hL h
theorem A4 {L L2 : List (Nat × Nat)} {Q : Ex → St → Prop} (i : Nat) (ho : l[i]? = some o) (h : de P GL n0 (Pn.dr l) T o σ fun σ' => bI P GL n0 Pn l fuel listed' L2 Q σ') (hg : o.guard = none := by exact rfl) (hl : listed.setIfInBounds i true = listed' := by exact rfl) (hf : mF l i L = some L2 := by exact rfl) (hL : ∀ p ∈ L2, ¬ T p.2 ∧ ∃ c ty, cC p.2 σ.ob = some (.cells c ty) := by first | exact CJ rfl | exact CI rfl | exact CG rfl) : cY P GL n0 Pn l fuel listed L Q σ i := KI i ho hg hl hf hL h
theorem Ek {L L2 : List (Nat × Nat)} {Q : Ex → St → Prop} (i : Nat) (ho : l[i]? = some o) (hg : o.guard = some (j, want)) (hj : fV l j = some d) (hlit : gw d sl = some (.d (.v (.bool want)))) (hl : listed.setIfInBounds i true = listed')
 (hf : mF l i L = some L2) (hL : ∀ p ∈ L2, ¬ T p.2 ∧ ∃ c ty, cC p.2 ob = some (.cells c ty))
 (h : de P GL n0 (Pn.dr l) T o ⟨n, sl, ob⟩ fun σ' => bI P GL n0 Pn l fuel listed' L2 Q σ') : cY P GL n0 Pn l fuel listed L Q ⟨n, sl, ob⟩ i :=
 vo i ho (fun B g a w hr => by rw [iq hr hg hj hlit]; simp) hl hf hL h
theorem A5 {L L2 : List (Nat × Nat)} {Q : Ex → St → Prop} (i : Nat) (ho : l[i]? = some o) (h : de P GL n0 (Pn.dr l) T o ⟨n, sl, ob⟩ fun σ' => bI P GL n0 Pn l fuel listed' L2 Q σ') (hg : o.guard = some (j, want) := by exact rfl) (hj : fV l j = some d := by exact rfl) (hlit : gw d sl = some (.d (.v (.bool want))) := by exact rfl) (hl : listed.setIfInBounds i true = listed' := by exact rfl) (hf : mF l i L = some L2 := by exact rfl) (hL : ∀ p ∈ L2, ¬ T p.2 ∧ ∃ c ty, cC p.2 ob = some (.cells c ty) := by first | exact CJ rfl | exact CI rfl | exact CG rfl) : cY P GL n0 Pn l fuel listed L Q ⟨n, sl, ob⟩ i := Ek i ho hg hj hlit hl hf hL h
theorem Jv {L L2 : List (Nat × Nat)} {Q : Ex → St → Prop} (i : Nat) (ho : l[i]? = some o) (hg : o.guard = none) (hrs : Region.ready .any l.toArray listed = [i]) (hl : listed.setIfInBounds i true = listed')
 (hf : mF l i L = some L2) (hL : ∀ p ∈ L2, ¬ T p.2 ∧ ∃ c ty, cC p.2 σ.ob = some (.cells c ty))
 (h : de P GL n0 (Pn.dr l) T o σ fun σ' => bI P GL n0 Pn l fuel listed' L2 Q σ') : bI P GL n0 Pn l (fuel + 1) listed L Q σ :=
 xn i ho (fun B g a w hr => by simp [Region.wanted, hg]) hrs hl hf hL h
theorem A2 {L L2 : List (Nat × Nat)} {Q : Ex → St → Prop} (i : Nat) (ho : l[i]? = some o) (h : de P GL n0 (Pn.dr l) T o σ fun σ' => bI P GL n0 Pn l fuel listed' L2 Q σ') (hg : o.guard = none := by exact rfl) (hrs : Region.ready .any l.toArray listed = [i] := by kernel_rfl) (hl : listed.setIfInBounds i true = listed' := by exact rfl) (hf : mF l i L = some L2 := by exact rfl) (hL : ∀ p ∈ L2, ¬ T p.2 ∧ ∃ c ty, cC p.2 σ.ob = some (.cells c ty) := by first | exact CJ rfl | exact CI rfl | exact CG rfl) : bI P GL n0 Pn l (fuel + 1) listed L Q σ := Jv i ho hg hrs hl hf hL h
theorem BW {L L2 : List (Nat × Nat)} {Q : Ex → St → Prop} (i : Nat) (ho : l[i]? = some o) (hg : o.guard = some (j, want)) (hj : fV l j = some d) (hlit : gw d sl = some (.d (.v (.bool want)))) (hrs : Region.ready .any l.toArray listed = [i]) (hl : listed.setIfInBounds i true = listed')
 (hf : mF l i L = some L2) (hL : ∀ p ∈ L2, ¬ T p.2 ∧ ∃ c ty, cC p.2 ob = some (.cells c ty))
 (h : de P GL n0 (Pn.dr l) T o ⟨n, sl, ob⟩ fun σ' => bI P GL n0 Pn l fuel listed' L2 Q σ') : bI P GL n0 Pn l (fuel + 1) listed L Q ⟨n, sl, ob⟩ :=
 xn i ho (fun B g a w hr => by rw [iq hr hg hj hlit]; simp) hrs hl hf hL h
theorem A3 {L L2 : List (Nat × Nat)} {Q : Ex → St → Prop} (i : Nat) (ho : l[i]? = some o) (h : de P GL n0 (Pn.dr l) T o ⟨n, sl, ob⟩ fun σ' => bI P GL n0 Pn l fuel listed' L2 Q σ') (hg : o.guard = some (j, want) := by exact rfl) (hj : fV l j = some d := by exact rfl) (hlit : gw d sl = some (.d (.v (.bool want))) := by exact rfl) (hrs : Region.ready .any l.toArray listed = [i] := by kernel_rfl) (hl : listed.setIfInBounds i true = listed' := by exact rfl) (hf : mF l i L = some L2 := by exact rfl) (hL : ∀ p ∈ L2, ¬ T p.2 ∧ ∃ c ty, cC p.2 ob = some (.cells c ty) := by first | exact CJ rfl | exact CI rfl | exact CG rfl) : bI P GL n0 Pn l (fuel + 1) listed L Q ⟨n, sl, ob⟩ := BW i ho hg hj hlit hrs hl hf hL h
theorem HB {L : List (Nat × Nat)} {Q : Ex → St → Prop} (hrs : Region.ready .any l.toArray listed = []) (h : Q .normal σ) : bI P GL n0 Pn l fuel listed L Q σ := fun B hB g a w Hc hr hc hh => by
 cases fuel with
 | zero => exact ⟨hrs, σ, ⟨g, hr⟩, h⟩
 | succ n => exact ⟨fun _ => ⟨σ, ⟨g, hr⟩, h⟩, fun i hi => by rw [hrs] at hi; cases hi⟩
theorem aQ {L : List (Nat × Nat)} {Q : Ex → St → Prop} (h : Q .normal σ) (hrs : Region.ready .any l.toArray listed = [] := by kernel_rfl) : bI P GL n0 Pn l fuel listed L Q σ := HB hrs h
end
end Go.Vd
namespace Go.Vd
open Go Go.RowKit
section
variable {P : Program} {GL : Nat → List D} {n0 : Nat} {Pn : oR}
variable {ops rest : List Oper} {o : Oper} {Q : Ex → St → Prop} {n j d : Nat} {sl : List (Nat × SV)} {ob : List Ob} {want b : Bool}
theorem y8 (hg : o.guard = some (j, want)) (hd : fV ops j = some d) (hb : gw d sl = some (.d (.v (.bool b)))) (hbw : b = want)
 (h : br P GL n0 Pn ops ({ o with guard := none } :: rest) Q ⟨n, sl, ob⟩) : br P GL n0 Pn ops (o :: rest) Q ⟨n, sl, ob⟩ := by
 subst hbw; exact kZ hg hd hb h
theorem ml (h : br P GL n0 Pn ops ({ o with guard := none } :: rest) Q ⟨n, sl, ob⟩) (hg : o.guard = some (j, want) := by exact rfl) (hd : fV ops j = some d := by exact rfl) (hb : gw d sl = some (.d (.v (.bool b))) := by exact rfl) (hbw : b = want := by omega) : br P GL n0 Pn ops (o :: rest) Q ⟨n, sl, ob⟩ := y8 hg hd hb hbw h
variable {t : Nat}
theorem GY (hg : o.guard = some (j, want)) (hd : fV ops j = some d) (hb : gw d sl = some (.d (.v (.bool b)))) (hbw : b = !want) (hdst : o.dst = some t) (ht : Nat.blt t n = true)
 (h : br P GL n0 Pn ops rest Q ⟨n, (t, .d (.v undef)) :: sl, ob⟩) : br P GL n0 Pn ops (o :: rest) Q ⟨n, sl, ob⟩ := by
 subst hbw; exact nq hg hd hb hdst ht h
theorem ln (h : br P GL n0 Pn ops rest Q ⟨n, (t, .d (.v undef)) :: sl, ob⟩) (hg : o.guard = some (j, want) := by exact rfl) (hd : fV ops j = some d := by exact rfl) (hdst : o.dst = some t := by exact rfl) (hb : gw d sl = some (.d (.v (.bool b))) := by exact rfl) (ht : Nat.blt t n = true := by exact rfl) (hbw : b = !want := by omega) : br P GL n0 Pn ops (o :: rest) Q ⟨n, sl, ob⟩ := GY hg hd hb hbw hdst ht h
theorem j1 {l : List Oper} (d : Nat) (v : Bool) (hb : gw d sl = some (.d (.v (.bool b)))) (hv : b = v)
 (h : br P GL n0 Pn ops l Q ⟨n, (d, .d (.v (.bool v))) :: sl, ob⟩) : br P GL n0 Pn ops l Q ⟨n, sl, ob⟩ := by
 subst hv
 cases b with
 | true => exact wK d hb (fun _ => h) (fun e => by cases e)
 | false => exact wK d hb (fun e => by cases e) (fun _ => h)
inductive Ip (ops : List Oper) (sl : List (Nat × SV)) (o : Oper) : Prop
 | none (h : o.guard = none)
 | yes {j d : Nat} {want b : Bool} (hg : o.guard = some (j, want)) (hd : fV ops j = some d) (hb : gw d sl = some (.d (.v (.bool b)))) (hbw : b = want)
def Ft (t : Nat) : List (Nat × SV) → Bool
 | [] => false
 | (k, _) :: r => cond (Nat.beq k t) true (Ft t r)
def ki : List (Nat × SV) → List (Nat × SV) → Bool
 | [], _ => true
 | (k, _) :: r, sl => cond (Ft k sl) false (ki r sl)
theorem zI {t : Nat} : ∀ {sl : List (Nat × SV)}, Ft t sl = false → gw t sl = none
 | [], _ => rfl
 | (k, s) :: r, h => by
  simp only [Ft] at h
  show cond (Nat.beq k t) (some s) (gw t r) = none
  cases hb : Nat.beq k t <;> rw [hb] at h
  ·exact zI h
  ·cases h
theorem fc {t : Nat} {s : SV} : ∀ {nw sl : List (Nat × SV)}, ki nw sl = true → gw t sl = some s → gw t (nw ++ sl) = some s
 | [], sl, _, h => h
 | (k, x) :: r, sl, hd, h => by
  simp only [ki] at hd
  cases hk : Ft k sl <;> rw [hk] at hd
  ·show cond (Nat.beq k t) (some x) (gw t (r ++ sl)) = some s
   cases hb : Nat.beq k t
   ·exact fc hd h
   ·have e : k = t := by simpa using hb
    subst e
    rw [zI hk] at h; cases h
  ·cases hd
theorem xy {t : Nat} : ∀ {sl : List (Nat × SV)}, nf t sl = (gw t sl).getD .fH
 | [] => rfl
 | (k, x) :: r => by
  show cond (Nat.beq k t) x (nf t r) = (cond (Nat.beq k t) (some x) (gw t r)).getD .fH
  cases Nat.beq k t
  ·exact xy
  ·rfl
theorem qf {t : Nat} {s : SV} : ∀ {nw sl : List (Nat × SV)}, gw t nw = some s → gw t (nw ++ sl) = some s
 | [], sl, h => by cases h
 | (k, x) :: r, sl, h => by
  change cond (Nat.beq k t) (some x) (gw t r) = some s at h
  show cond (Nat.beq k t) (some x) (gw t (r ++ sl)) = some s
  cases hb : Nat.beq k t <;> rw [hb] at h
  ·exact qf h
  ·exact h
variable {s : SV} {nw : List (Nat × SV)}
theorem oY {l : List Oper} (hd : ki nw sl = true) (h : br P GL n0 Pn ops l Q ⟨n, (t, s) :: sl, ob⟩) : br P GL n0 Pn ops l Q ⟨n, (t, s) :: (nw ++ sl), ob⟩ := fun B hB a w ⟨g, hr⟩ =>
 h B hB a w ⟨g, hr.defers, hr.size, fun u => by
  have h1 := hr.di u
  show (nf u ((t, s) :: sl)).Den g _
  rw [fe] at h1 ⊢
  split
  ·rename_i e; rw [if_pos e] at h1; exact h1
  ·rename_i e
   rw [if_neg e] at h1
   rw [xy] at h1 ⊢
   cases hs : gw u sl with
   | none => trivial
   | some x => rw [fc hd hs] at h1; exact h1, hr.store, hr.iR⟩
theorem j9 (hg : Ip ops sl o) (hd : ki nw sl = true) (h : br P GL n0 Pn ops ({ o with guard := none } :: rest) Q ⟨n, nw ++ sl, ob⟩) : br P GL n0 Pn ops (o :: rest) Q ⟨n, nw ++ sl, ob⟩ := by
 cases hg with
 | none h1 =>
  have : ({ o with guard := none } : Oper) = o := by cases o; simp only at h1; subst h1; rfl
  rwa [this] at h
 | yes h1 h2 h3 h4 => exact y8 h1 h2 (fc hd h3) h4 h
variable {yt : Nat} {p : Bool}
theorem CA {l : List Oper} (k : Nat) (hl : fW k l = some (o :: rest)) (hb : gw d sl = some (.d (.v (.bool b)))) (ho : o.op = .pick (.tmp d) (.tmp yt) (.const (.bool false))) (hg : Ip ops sl o) (hd : o.dst = some t) (ht : Nat.blt t n = true)
 (h1 : b = true → (∀ nw, ki nw sl = true → gw yt nw = some (.d (.v (.bool p))) → br P GL n0 Pn ops (o :: rest) Q ⟨n, nw ++ sl, ob⟩) → br P GL n0 Pn ops l Q ⟨n, sl, ob⟩)
 (h2 : b = false → (∀ nw, ki nw sl = true → br P GL n0 Pn ops (o :: rest) Q ⟨n, nw ++ sl, ob⟩) → br P GL n0 Pn ops l Q ⟨n, sl, ob⟩)
 (h : br P GL n0 Pn ops rest Q ⟨n, (t, .d (.v (.bool (b && p)))) :: sl, ob⟩) : br P GL n0 Pn ops l Q ⟨n, sl, ob⟩ := by
 cases hbb : b with
 | true =>
  subst hbb
  refine h1 rfl fun nw hdj hy => j9 hg hdj (ld rfl hd ht (mr ho (fc hdj hb) (qf hy) ?_))
  exact oY hdj (by simpa using h)
 | false =>
  subst hbb
  refine h2 rfl fun nw hdj => j9 hg hdj (ld rfl hd ht (my ho (fc hdj hb) rfl ?_))
  exact oY hdj (by simpa using h)
theorem kS {l : List Oper} (k : Nat) (hl : fW k l = some (o :: rest)) (hb : gw d sl = some (.d (.v (.bool b)))) (ho : o.op = .pick (.tmp d) (.const (.bool true)) (.tmp yt)) (hg : Ip ops sl o) (hd : o.dst = some t) (ht : Nat.blt t n = true)
 (h1 : b = false → (∀ nw, ki nw sl = true → gw yt nw = some (.d (.v (.bool p))) → br P GL n0 Pn ops (o :: rest) Q ⟨n, nw ++ sl, ob⟩) → br P GL n0 Pn ops l Q ⟨n, sl, ob⟩)
 (h2 : b = true → (∀ nw, ki nw sl = true → br P GL n0 Pn ops (o :: rest) Q ⟨n, nw ++ sl, ob⟩) → br P GL n0 Pn ops l Q ⟨n, sl, ob⟩)
 (h : br P GL n0 Pn ops rest Q ⟨n, (t, .d (.v (.bool (b || p)))) :: sl, ob⟩) : br P GL n0 Pn ops l Q ⟨n, sl, ob⟩ := by
 cases hbb : b with
 | false =>
  subst hbb
  refine h1 rfl fun nw hdj hy => j9 hg hdj (ld rfl hd ht (my ho (fc hdj hb) (qf hy) ?_))
  exact oY hdj (by simpa using h)
 | true =>
  subst hbb
  refine h2 rfl fun nw hdj => j9 hg hdj (ld rfl hd ht (mr ho (fc hdj hb) rfl ?_))
  exact oY hdj (by simpa using h)
def vq (Q : D → Prop) (out : Out) (ob' : List Ob) : Prop := ob' = [] ∧ ∃ d, out = .ret (.d d) ∧ Q d
def cD (P : Program) (GL : Nat → List D) (f : FuncId) (args : List D) (Q : D → Prop) : Prop := ey P GL f [] (args.map .d) (vq Q)
variable {K : St → Prop} {f : FuncId} {args : Array Operand} {ts : Array TypeId} {svs : List SV}
theorem bo {T : Nat → Prop} {argsc : List D} {Q : D → Prop} (hc : ak P f = true) (ho : o.op = .call { callee := .value (.func f), args := args, argTypes := ts })
 (ha : Gu GL sl args.toList = some svs) (hdst : o.dst = some t) (htn : Nat.blt t n = true) (ht : cD P GL f argsc Q) (hfa : ia ob svs (argsc.map .d)) (hret : ∀ d, Q d → K ⟨n, (t, .d d) :: sl, ob⟩) : de P GL n0 Pn T o ⟨n, sl, ob⟩ K :=
 Dt (pS hc ho ha) hfa ht fun d hq => ⟨fun t' e => by rw [hdst] at e; cases e; exact ⟨htn, hret d hq⟩, fun e => by rw [hdst] at e; cases e⟩
theorem ay {obc : List Ob} {argsc m : List SV} {Q : Out → List Ob → Prop} (hc : ak P f = true) (ho : o.op = .call { callee := .value (.func f), args := args, argTypes := ts })
 (ha : Gu GL sl args.toList = some svs) (hdst : o.dst = some t) (htn : Nat.blt t n = true) (ht : ey P GL f obc argsc Q) (ix : List Nat) (hfit : bX ob ix obc ix) (hnd : fE ix = true) (hno : fJ obc = true) (hit : qv ix ob = true) (hra : lL ix argsc = some m) (hfa : ia ob svs m)
 (hret : ∀ s ob', Q (.ret s) ob' → ∃ obr ob1 obn sl1 s', pw (names ix ob.length (ob'.length - ix.length)) ob' = some obr ∧ rv ix ob = some ob1 ∧ jO ix ob1 obr = some obn ∧ vO ix sl = some sl1 ∧ s.iN (names ix ob.length (ob'.length - ix.length)) = some s' ∧ K ⟨n, (t, s') :: sl1, obn⟩)
 (hpan : ∀ s ob', Q (.JK s) ob' → ∃ obr ob1 obn sl1 s', pw (names ix ob.length (ob'.length - ix.length)) ob' = some obr ∧ rv ix ob = some ob1 ∧ jO ix ob1 obr = some obn ∧ vO ix sl = some sl1 ∧ s.iN (names ix ob.length (ob'.length - ix.length)) = some s' ∧ Pn.pn s' sl1 obn) : de P GL n0 Pn (· ∈ ix) o ⟨n, sl, ob⟩ K :=
 Bb ht ix (pS hc ho ha) hfit hnd hno (sH hit) hra hfa (fun s ob' hq => by
  obtain ⟨obr, ob1, obn, sl1, s', e1, e2, e3, e4, e5, e6⟩ := hret s ob' hq
  exact ⟨obr, ob1, obn, sl1, s', e1, e2, e3, e4, e5, fun t' e => by rw [hdst] at e; cases e; exact ⟨htn, e6⟩, fun e => by rw [hdst] at e; cases e⟩) hpan
variable {rs : List ResultVar} {σ : St} {l : List SV}
theorem jS {Q : Out → List Ob → Prop} (h : gb GL P σ rs l) (ρ : List Nat) (s' : SV) (ob' : List Ob) {t : SV} (hp : pre 0 n0 ρ = true) (hnd : fE ρ = true) (hno : fJ ob' = true) (hob : bX σ.ob ρ ob' ρ) (hren : SV.iN ρ s' = some t) (hf : Fit σ.ob (n7 l) t) (hq : Q (.ret s') ob') : Fin P GL n0 rs Q σ :=
 ⟨l, h, ρ, s', ob', t, hp, hnd, hno, hob, hren, hf, hq⟩
theorem nG {Q : Out → List Ob → Prop} {d : D} (h : gb GL P σ rs l) (hd : (n7 l).gp = some d) (ρ : List Nat) (ob' : List Ob) (hp : pre 0 n0 ρ = true) (hnd : fE ρ = true) (hno : fJ ob' = true) (hob : bX σ.ob ρ ob' ρ) (hq : Q (.ret (.d d)) ob') : Fin P GL n0 rs Q σ :=
 ⟨l, h, ρ, .d d, ob', .d d, hp, hnd, hno, hob, rfl, .gp hd, hq⟩
theorem qF {Q : Out → List Ob → Prop} {d : D} (h : gb GL P σ rs l) (hd : (n7 l).gp = some d) (d' : D) (hl : At d d') (ρ : List Nat) (ob' : List Ob) (hp : pre 0 n0 ρ = true) (hnd : fE ρ = true) (hno : fJ ob' = true) (hob : bX σ.ob ρ ob' ρ) (hq : Q (.ret (.d d')) ob') : Fin P GL n0 rs Q σ :=
 ⟨l, h, ρ, .d d', ob', .d d', hp, hnd, hno, hob, rfl, .Jm hd hl, hq⟩
variable {c : Code} {ob' : List Ob}
theorem bq (e : TypeId) (k : Nat) (hob : iX ob [.bP e k] = some ob') (h : bl P GL n0 Pn c Q ⟨n, sl, ob'⟩) : bl P GL n0 Pn c Q ⟨n, sl, ob⟩ := fun B hB a w ⟨g, hr⟩ => by
 rw [fO hob] at h
 obtain ⟨h1, _⟩ := hr.Bc (w' := w) (Fr.refl _ w) (gg.refl _) (fun b o x h1 h2 => by rw [h2] at h1; cases h1) (o' := .bP e k) (pl := .row none 0 0) rfl (fun b hb => by simp [cO, dA] at hb) (fun i f dn cur e => by cases e)
 exact h B hB a w ⟨_, h1⟩
def nX : Nat → List SV → Option (List (Nat × SV))
 | _, [] => some []
 | k, s :: r => (nX (k + 1) r).bind fun l => some ((k, s) :: l)
theorem ra : ∀ {k : Nat} {l : List SV} {r : List (Nat × SV)}, nX k l = some r → di k l = r
 | k, [], r, h => by simp [nX] at h; subst h; rfl
 | k, s :: l, r, h => by
  simp only [nX, Option.bind_eq_some_iff, Option.some.injEq] at h
  obtain ⟨r', h1, rfl⟩ := h
  simp [di, ra h1]
variable {fn : Func}
theorem xr {args : List SV} {Q : Out → List Ob → Prop} (hf : P.funcs[f]? = some fn) (hb : fn.body = some c) (hnt : fn.ntmps = n) (hrs : fn.results.toList = rs)
 (hn : Nat.ble args.length n = true) (hsl : nX 0 args = some sl) (k : Nat) (hk : ob.length = k) (h : bl P GL k (JJ k Q) c (fin P GL k rs Q) ⟨n, sl, ob⟩) : ey P GL f ob args Q := by
 subst hk
 exact rQ hf hb hnt hrs (by simpa using hn) (by rw [ra hsl]; exact h)
theorem xt {args : List D} {Q : D → Prop} (hf : P.funcs[f]? = some fn) (hb : fn.body = some c) (hnt : fn.ntmps = n) (hrs : fn.results.toList = rs)
 (hn : Nat.ble args.length n = true) (hsl : nX 0 (args.map .d) = some sl) (h : bl P GL 0 ⟨fun _ _ _ => False, fun _ _ _ _ => False⟩ c (fin P GL 0 rs (vq Q)) ⟨n, sl, []⟩) : cD P GL f args Q := by
 refine rQ hf hb hnt hrs (by simpa using hn) ?_
 rw [ra hsl]
 refine fun B hB a w hr => wp_mono (h B hB a w hr) fun e a w hl => ?_
 cases e with
 | panic c =>
  rcases hl with hl | ⟨_, _, _, _, _, _, _, _, _, _, _, hf⟩
  ·exact hl.elim
  ·exact hf.elim
 | normal => exact hl
 | exit id => exact hl
 | goto l => exact hl
 | ret => exact hl
 | outgrown => exact hl.elim
theorem Ka {Q : D → Prop} {d : D} (h : gb GL P σ rs l) (hd : (n7 l).gp = some d) (hq : Q d) : Fin P GL 0 rs (vq Q) σ :=
 ⟨l, h, [], .d d, [], .d d, rfl, rfl, rfl, .nil, rfl, .gp hd, rfl, d, rfl, hq⟩
theorem FI {Q : D → Prop} {d : D} (h : gb GL P σ rs l) (hd : (n7 l).gp = some d) (d' : D) (hl : At d d') (hq : Q d') : Fin P GL 0 rs (vq Q) σ :=
 ⟨l, h, [], .d d', [], .d d', rfl, rfl, rfl, .nil, rfl, .Jm hd hl, rfl, d', rfl, hq⟩
theorem fm {x T : Nat} {i off : Nat} {l1 cs : List SV} {ty : TypeId} {ti : TI} (h1 : gw x σ.sl = some (.bZ i off)) (h2 : cC i σ.ob = some (.cells l ty)) (h3 : bc P T = ti) (h4 : ti.ok = true) (h5 : fW off l = some l1) (h6 : lH ti.size l1 = some cs) (h7 : mn ti.agg cs = some s) : CN GL P σ (.cell x T) s :=
 ⟨i, off, l, ty, l1, cs, ti, h1, h2, h3, h4, h5, h6, h7⟩
theorem ia.rfl {ob : List Ob} : ∀ l : List SV, ia ob l l
 | [] => .nil
 | s :: r => .cons (.refl s) (ia.rfl r)
theorem Fit.of_eq {t : SV} (h : s = t) : Fit ob s t := h ▸ .refl s
def KQ : Nat → Nat → List Nat
 | _, 0 => []
 | k, n + 1 => k :: KQ (k + 1) n
variable {csl : List (Nat × SV)} {ι : Type}
theorem yP (ov : ι → List (Nat × SV)) (cs : List Nat) (Inv : ι → Prop) (m : ι → Nat) (i0 : ι) (hk : ig sl cs = some csl) (hI : Inv i0)
 (hm : nQ n0 ⟨n, sl, ob⟩ ⟨n, ov i0 ++ csl, ob⟩ (KQ 0 ob.length))
 (h : ∀ i, Inv i → bl P GL n0 Pn c (Ex.seq (fun σ' => p7 n0 (fun i => ⟨n, ov i ++ csl, ob⟩) (fun j => Inv j ∧ m j < m i) σ') Q) ⟨n, ov i ++ csl, ob⟩) : bl P GL n0 Pn (.loop c) Q ⟨n, sl, ob⟩ :=
 wB (fun i => ⟨n, ov i ++ csl, ob⟩) Inv m ⟨i0, _, hI, hm⟩ h
theorem yO (ov : ι → List (Nat × SV)) (obi : ι → List Ob) (cs : List Nat) (Inv : ι → Prop) (m : ι → Nat) (i0 : ι) (ρ : List Nat) (hk : ig sl cs = some csl) (hI : Inv i0)
 (hm : nQ n0 ⟨n, sl, ob⟩ ⟨n, ov i0 ++ csl, obi i0⟩ ρ)
 (h : ∀ i, Inv i → bl P GL n0 Pn c (Ex.seq (fun σ' => p7 n0 (fun i => ⟨n, ov i ++ csl, obi i⟩) (fun j => Inv j ∧ m j < m i) σ') Q) ⟨n, ov i ++ csl, obi i⟩) : bl P GL n0 Pn (.loop c) Q ⟨n, sl, ob⟩ :=
 wB (fun i => ⟨n, ov i ++ csl, obi i⟩) Inv m ⟨i0, _, hI, hm⟩ h
theorem zo {sl' : List (Nat × SV)} {ρ : List Nat} (hp : pre 0 n0 ρ = true) (hnd : fE ρ = true) (hno : fJ ob' = true) (hob : bX ob ρ ob' ρ) (hsl : mL ob ρ sl sl') : nQ n0 ⟨n, sl, ob⟩ ⟨n, sl', ob'⟩ ρ :=
 ⟨rfl, hp, hnd, fun j k f dn cur hj => absurd hj (eK hno j k f dn cur), hob, hsl⟩
variable {c1 c2 : Code}
theorem wD (S : ι → St) (Inv : ι → Prop) (h1 : bl P GL n0 Pn c1 (Ex.seq (fun σ' => p7 n0 S Inv σ') Q) σ) (h2 : ∀ i, Inv i → bl P GL n0 Pn c2 Q (S i)) : bl P GL n0 Pn c1 (Ex.seq (fun σ' => bl P GL n0 Pn c2 Q σ') Q) σ :=
 fun B hB a w hr => wp_mono (h1 B hB a w hr) fun e a' w' hl => by
  cases e with
  | normal =>
   obtain ⟨σ', hr', j, ρ, hj, hj2⟩ := hl
   exact ⟨_, hj2.rel hB hr', h2 j hj⟩
  | exit id => exact hl
  | goto l => exact hl
  | ret => exact hl
  | panic c => exact hl
  | outgrown => exact hl
theorem AQ (ov : ι → List (Nat × SV)) (cs : List Nat) (Inv : ι → Prop) (hk : ig sl cs = some csl)
 (h1 : bl P GL n0 Pn c1 (Ex.seq (fun σ' => p7 n0 (fun i => ⟨n, ov i ++ csl, ob⟩) Inv σ') Q) ⟨n, sl, ob⟩) (h2 : ∀ i, Inv i → bl P GL n0 Pn c2 Q ⟨n, ov i ++ csl, ob⟩) : bl P GL n0 Pn c1 (Ex.seq (fun σ' => bl P GL n0 Pn c2 Q σ') Q) ⟨n, sl, ob⟩ :=
 wD (fun i => ⟨n, ov i ++ csl, ob⟩) Inv h1 h2
theorem AP (ov : ι → List (Nat × SV)) (obi : ι → List Ob) (cs : List Nat) (Inv : ι → Prop) (hk : ig sl cs = some csl)
 (h1 : bl P GL n0 Pn c1 (Ex.seq (fun σ' => p7 n0 (fun i => ⟨n, ov i ++ csl, obi i⟩) Inv σ') Q) ⟨n, sl, ob⟩) (h2 : ∀ i, Inv i → bl P GL n0 Pn c2 Q ⟨n, ov i ++ csl, obi i⟩) : bl P GL n0 Pn c1 (Ex.seq (fun σ' => bl P GL n0 Pn c2 Q σ') Q) ⟨n, sl, ob⟩ :=
 wD (fun i => ⟨n, ov i ++ csl, obi i⟩) Inv h1 h2
end
end Go.Vd
