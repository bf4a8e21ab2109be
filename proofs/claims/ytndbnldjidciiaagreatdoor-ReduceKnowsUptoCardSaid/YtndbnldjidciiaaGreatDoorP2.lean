/-
  What is proved here: lemmas of part 2, for the theorem of the last part.
-/
import Derived.Test.YtndbnldjidciiaaGreatDoorP1
import Derived.LaidEqlPtr
import Derived.Laws.Externs
import Derived.Lib.Builder
import Derived.Lib.UnsafeStr
import Derived.Defers
import Derived.Recover
import Derived.Carry
import Derived.Lib.ConvBytes
import Derived.Laws.BytesString
import Derived.Laws.Cells
import Derived.Laws.OwnMore
import Derived.Deep.Upon
import Derived.Test.YtndbnldjidciiaaGreatDoorRows
import Derived.KernelRfl
import Derived.ProofKit
import Derived.LaidMore
import Derived.OpenShut
import Derived.Stop.Joined
set_option linter.unusedSimpArgs false
set_option linter.unusedVariables false
set_option linter.unusedSectionVars false
namespace Go.Vd
open Go Go.RowKit
section
variable {P : Program} {GL : Nat → List D} {o : Oper} {σ : St} {K : SV → List Nat → Prop}
variable {T e : TypeId}
theorem yR (hp : P.underlying T = some (.pointer e)) (p : Option Addr) (w : World) : (Op.equal T (.pointer p) (.pointer none)).run P w = .ok p.isNone w := by
 have h : ∀ d : Nat, (Op.equalIn (d + 1) T (.pointer p) (.pointer none)).run P w = .ok p.isNone w := fun d => by
  cases p <;> simp [Op.equalIn, run_underlying hp]
 simp [Op.equal, Op.maxDepth, h 9999]
variable {T' : TypeId} {x : Operand}
theorem o8 {op : BinOp} {s : SV} {b : Bool} {p : Option Addr → Prop} (ho : o.op = .binOp op T x (.const (.pointer none)) T') (hx : bJ GL σ.sl x = some s) (hop : op = .eql ∨ op = .neq) (hs : ∀ g y, s.Den g y → ∃ q, y = .pointer q ∧ q.isNone = b) (hp : P.underlying T = some (.pointer e)) (hK : K (.d (.v (.bool (if op = .eql then b else !b)))) []) : aj P GL o σ K := eF fun B g a w hr => by
 obtain ⟨q, hq, hb⟩ := hs _ _ (hr.fo hx)
 refine ⟨.d (.v (.bool (if op = .eql then b else !b))), _, fun w' => ?_, rfl, hK⟩
 have he := yR hp q w'
 have hc : a.eval (.const (.pointer none)) = .pointer none := rfl
 rcases hop with rfl | rfl
 ·simp only [execOp, ho, Sem.run_bind, hq, hc, fq (P := P) (show (Value.pointer q).oneCell' = true from rfl) (show ¬ (Value.pointer q = .nilIface ∧ Value.pointer none = .nilIface) by simp)]
  simp only [Result.andThen_ok, binOp, Sem.run_bind, he, Sem.run_pure, hb, if_true]
 ·simp only [execOp, ho, Sem.run_bind, hq, hc, fq (P := P) (show (Value.pointer q).oneCell' = true from rfl) (show ¬ (Value.pointer q = .nilIface ∧ Value.pointer none = .nilIface) by simp)]
  simp only [Result.andThen_ok, binOp, Sem.run_bind, he, Sem.run_pure, hb]
  rfl
theorem zR (hp : P.underlying T = some (.pointer e)) (ho : o.op = .binOp .eql T x (.const (.pointer none)) T') (hx : bJ GL σ.sl x = some (.d (.v (.pointer none)))) (hK : K (.d (.v (.bool true))) []) : aj P GL o σ K :=
 o8 (b := true) (p := fun _ => True) ho hx (.inl rfl) (fun g y hd => ⟨none, hd, rfl⟩) hp hK
theorem u6 (hp : P.underlying T = some (.pointer e)) (hK : K (.d (.v (.bool true))) []) (ho : o.op = .binOp .eql T x (.const (.pointer none)) T' := by exact rfl) (hx : bJ GL σ.sl x = some (.d (.v (.pointer none))) := by exact rfl) : aj P GL o σ K := zR hp ho hx hK
theorem zP (hp : P.underlying T = some (.pointer e)) (ho : o.op = .binOp .neq T x (.const (.pointer none)) T') (hx : bJ GL σ.sl x = some (.d (.v (.pointer none)))) (hK : K (.d (.v (.bool false))) []) : aj P GL o σ K :=
 o8 (b := true) (p := fun _ => True) ho hx (.inr rfl) (fun g y hd => ⟨none, hd, rfl⟩) hp hK
variable {i off : Nat}
theorem zS (hp : P.underlying T = some (.pointer e)) (ho : o.op = .binOp .eql T x (.const (.pointer none)) T') (hx : bJ GL σ.sl x = some (.bZ i off)) (hK : K (.d (.v (.bool false))) []) : aj P GL o σ K :=
 o8 (b := false) (p := fun _ => True) ho hx (.inl rfl) (fun g y hd => by obtain ⟨b, _, e⟩ := hd; exact ⟨_, e, rfl⟩) hp hK
theorem u7 (hp : P.underlying T = some (.pointer e)) (hK : K (.d (.v (.bool false))) []) (ho : o.op = .binOp .eql T x (.const (.pointer none)) T' := by exact rfl) (hx : bJ GL σ.sl x = some (.bZ i off) := by exact rfl) : aj P GL o σ K := zS hp ho hx hK
theorem zQ (hp : P.underlying T = some (.pointer e)) (ho : o.op = .binOp .neq T x (.const (.pointer none)) T') (hx : bJ GL σ.sl x = some (.bZ i off)) (hK : K (.d (.v (.bool true))) []) : aj P GL o σ K :=
 o8 (b := false) (p := fun _ => True) ho hx (.inr rfl) (fun g y hd => by obtain ⟨b, _, e⟩ := hd; exact ⟨_, e, rfl⟩) hp hK
variable {l : List D}
theorem Bu (hp : P.underlying T = some (.pointer e)) (ho : o.op = .binOp .eql T x (.const (.pointer none)) T') (hx : bJ GL σ.sl x = some (.d (.cp l))) (hK : K (.d (.v (.bool false))) []) : aj P GL o σ K :=
 o8 (b := false) (p := fun _ => True) ho hx (.inl rfl) (fun g y hd => by obtain ⟨b, off, e, _⟩ := hd; exact ⟨_, e, rfl⟩) hp hK
theorem DU (hp : P.underlying T = some (.pointer e)) (hK : K (.d (.v (.bool false))) []) (ho : o.op = .binOp .eql T x (.const (.pointer none)) T' := by exact rfl) (hx : bJ GL σ.sl x = some (.d (.cp l)) := by exact rfl) : aj P GL o σ K := Bu hp ho hx hK
theorem Bt (hp : P.underlying T = some (.pointer e)) (ho : o.op = .binOp .neq T x (.const (.pointer none)) T') (hx : bJ GL σ.sl x = some (.d (.cp l))) (hK : K (.d (.v (.bool true))) []) : aj P GL o σ K :=
 o8 (b := false) (p := fun _ => True) ho hx (.inr rfl) (fun g y hd => by obtain ⟨b, off, e, _⟩ := hd; exact ⟨_, e, rfl⟩) hp hK
end
section
variable {P : Program} {GL : Nat → List D} {n0 : Nat} {Pn : oR}
theorem qu {o : Oper} {n t : Nat} {sl : List (Nat × SV)} {ob : List Ob} {K : St → Prop} {T : Nat → Prop} (hd : o.dst = some t) (ht : Nat.blt t n = true)
 (h : ∀ B g a w, cT GL B ⟨n, sl, ob⟩ g a w → ∃ s y, (execOp a.eval o).run P w = .ok (.value y) w ∧ s.Den g y ∧ K ⟨n, (t, s) :: sl, ob⟩) : de P GL n0 Pn T o ⟨n, sl, ob⟩ K := fun B hB g a w hr next Q hK hP => by
 obtain ⟨s, y, h1, h2, h3⟩ := h B g a w hr
 unfold Oper.wp
 rw [h1]
 show next (a.put o.dst y) w
 rw [hd]
 exact hK _ _ _ _ (hr.qp ht h2) (qP.refl _ _ _ _) h3
def ll (s : ByteArray) : List (List D) := s.data.toList.map fun b => [.v (.int .u8 b.toNat)]
theorem BS (s : ByteArray) : (ll s).length = s.size := by simp [ll]
theorem Ec {s : ByteArray} (h : s ≠ .empty) : ll s ≠ [] := fun e => h (by
 have := congrArg List.length e
 rw [BS] at this
 apply ByteArray.ext; apply Array.ext'
 have h2 : s.data.toList.length = 0 := this
 rw [List.eq_nil_of_length_eq_zero h2]; rfl)
end
end Go.Vd
namespace Go.Vd
open Go Go.RowKit
mutual
def SV.fz (i : Nat) (q : Option (Nat × List (List D))) (ds : List D) : SV → Option SV
 | .bZ j off => cond (Nat.beq j i) ((fW off ds).bind fun l => some (.d (.cp l))) (some (.bZ j off))
 | .agg l => (G8 i q ds l).bind fun l' => some (.agg l')
 | .cb l => (G8 i q ds l).bind fun l' => some (.cb l')
 | .fn f a b => (G8 i q ds a).bind fun a' => (G8 i q ds b).bind fun b' => some (.fn f a' b')
 | .tp T s => (s.fz i q ds).bind fun s' => some (.tp T s')
 | .d x => some (.d x)
 | .own j k ls => some (.own j k ls)
 | .map j => some (.map j)
 | .rp j => some (.rp j)
 | .arr j n => cond (Nat.beq j i) (q.bind fun r => some (.d (.sl r.1 r.2))) (some (.arr j n))
 | .bp j off => cond (Nat.beq j i) (some .fH) (some (.bp j off))
 | .vT k ls => some (.vT k ls)
 | .fH => some .fH
def G8 (i : Nat) (q : Option (Nat × List (List D))) (ds : List D) : List SV → Option (List SV)
 | [] => some []
 | s :: r => (s.fz i q ds).bind fun s' => (G8 i q ds r).bind fun r' => some (s' :: r')
end
def xZ (i : Nat) (q : Option (Nat × List (List D))) (ds : List D) : List (Nat × SV) → Option (List (Nat × SV))
 | [] => some []
 | (k, s) :: r => (s.fz i q ds).bind fun s' => (xZ i q ds r).bind fun r' => some ((k, s') :: r')
def Ob.fz (i : Nat) (q : Option (Nat × List (List D))) (ds : List D) : Ob → Option Ob
 | .cells l ty => (G8 i q ds l).bind fun l' => some (.cells l' ty)
 | .row e k => some (.row e k)
 | .bP e k => some (.bP e k)
 | .buf e k ls q => some (.buf e k ls q)
 | .fh f => some (.fh f)
 | .cz f => some (.cz f)
 | .gH o k => some (.gH o k)
 | .jk j f dn cur => some (.jk j f dn cur)
 | .dead => some .dead
def x9 (i : Nat) (q : Option (Nat × List (List D))) (ds : List D) : List Ob → Option (List Ob)
 | [] => some []
 | o :: r => (o.fz i q ds).bind fun o' => (x9 i q ds r).bind fun r' => some (o' :: r')
structure Fz (i : Nat) (q : Option (Nat × List (List D))) (ds : List D) (g g' : Gh) : Prop where
 m : gg g.m g'.m
 gs : ∀ (j : Nat) q, g.gs[j]? = some q → g'.gs[j]? = some q
 cp : ∀ b, g.gs[i]? = some (.loc b) → ej g'.m b 0 ds
 ar : ∀ r n y, q = some r → (SV.arr i n).Den g y → (D.sl r.1 r.2).Den g'.m y
mutual
theorem SV.Bq {i : Nat} {q : Option (Nat × List (List D))} {ds : List D} {g g' : Gh} (h : Fz i q ds g g') : ∀ (s : SV) {s' : SV} {y : Value}, s.fz i q ds = some s' → s.Den g y → s'.Den g' y
 | .bZ j off, s', y, hr, hd => by
  obtain ⟨b, hb, e⟩ := hd
  simp only [SV.fz] at hr
  cases hj : Nat.beq j i with
  | false =>
   rw [hj] at hr
   simp only [cond_false, Option.some.injEq] at hr
   subst hr
   exact ⟨b, h.gs _ _ hb, e⟩
  | true =>
   rw [hj] at hr
   simp only [cond_true, Option.bind_eq_some_iff, Option.some.injEq] at hr
   obtain ⟨l, h1, rfl⟩ := hr
   have hji : j = i := by simpa using hj
   subst hji
   refine ⟨b, off, e, ?_⟩
   rw [← (jT h1).1]
   have := (h.cp b hb).drop off
   rwa [Nat.zero_add] at this
 | .agg l, s', y, hr, ⟨vs, e, hd⟩ => by
  simp only [SV.fz, Option.bind_eq_some_iff, Option.some.injEq] at hr
  obtain ⟨l', h1, rfl⟩ := hr
  exact ⟨vs, e, o7 h l h1 hd⟩
 | .cb l, s', y, hr, ⟨vs, e, hd⟩ => by
  simp only [SV.fz, Option.bind_eq_some_iff, Option.some.injEq] at hr
  obtain ⟨l', h1, rfl⟩ := hr
  exact ⟨vs, e, o7 h l h1 hd⟩
 | .fn f a b, s', y, hr, ⟨vs, us, e, d1, d2⟩ => by
  simp only [SV.fz, Option.bind_eq_some_iff, Option.some.injEq] at hr
  obtain ⟨a', h1, b', h2, rfl⟩ := hr
  exact ⟨vs, us, e, o7 h a h1 d1, o7 h b h2 d2⟩
 | .tp T s, s', y, hr, ⟨x, e, hd⟩ => by
  simp only [SV.fz, Option.bind_eq_some_iff, Option.some.injEq] at hr
  obtain ⟨t, h1, rfl⟩ := hr
  exact ⟨x, e, SV.Bq h s h1 hd⟩
 | .d x, s', y, hr, hd => by simp [SV.fz] at hr; subst hr; exact D.Den.mono h.m x hd
 | .own j k ls, s', y, hr, hd => by simp [SV.fz] at hr; subst hr; exact SV.Den.mono ⟨h.m, h.gs⟩ _ hd
 | .map j, s', y, hr, hd => by simp [SV.fz] at hr; subst hr; exact SV.Den.mono ⟨h.m, h.gs⟩ _ hd
 | .arr j n, s', y, hr, hd => by
  simp only [SV.fz] at hr
  cases hj : Nat.beq j i with
  | false =>
   rw [hj] at hr
   simp only [cond_false, Option.some.injEq] at hr
   subst hr
   exact SV.Den.mono ⟨h.m, h.gs⟩ _ hd
  | true =>
   rw [hj] at hr
   simp only [cond_true, Option.bind_eq_some_iff, Option.some.injEq] at hr
   obtain ⟨r, h1, rfl⟩ := hr
   have hji : j = i := by simpa using hj
   subst hji
   exact h.ar r n y h1 hd
 | .bp j off, s', y, hr, hd => by
  simp only [SV.fz] at hr
  cases hj : Nat.beq j i with
  | false =>
   rw [hj] at hr
   simp only [cond_false, Option.some.injEq] at hr
   subst hr
   exact SV.Den.mono ⟨h.m, h.gs⟩ _ hd
  | true =>
   rw [hj] at hr
   simp only [cond_true, Option.some.injEq] at hr
   subst hr
   trivial
 | .rp j, s', y, hr, hd => by simp [SV.fz] at hr; subst hr; exact SV.Den.mono ⟨h.m, h.gs⟩ _ hd
 | .vT k ls, s', y, hr, hd => by simp [SV.fz] at hr; subst hr; exact SV.Den.mono ⟨h.m, h.gs⟩ _ hd
 | .fH, s', y, hr, hd => by simp [SV.fz] at hr; subst hr; trivial
theorem o7 {i : Nat} {q : Option (Nat × List (List D))} {ds : List D} {g g' : Gh} (h : Fz i q ds g g') : ∀ (l : List SV) {l' : List SV} {vs : List Value}, G8 i q ds l = some l' → bj g l vs → bj g' l' vs
 | [], l', vs, hr, hd => by simp [G8] at hr; subst hr; exact hd
 | s :: r, l', vs, hr, ⟨x, v', e, h1, h2⟩ => by
  simp only [G8, Option.bind_eq_some_iff, Option.some.injEq] at hr
  obtain ⟨s', hs, r', hr', rfl⟩ := hr
  exact ⟨x, v', e, SV.Bq h s hs h1, o7 h r hr' h2⟩
end
theorem zK {i : Nat} {q : Option (Nat × List (List D))} {ds : List D} {g g' : Gh} (h : Fz i q ds g g') : ∀ {l l' : List (Nat × SV)}, xZ i q ds l = some l' → ∀ {t : Nat} {y : Value}, (nf t l).Den g y → (nf t l').Den g' y
 | [], l', hr, t, y, hd => by simp [xZ] at hr; subst hr; trivial
 | (k, s) :: r, l', hr, t, y, hd => by
  simp only [xZ, Option.bind_eq_some_iff, Option.some.injEq] at hr
  obtain ⟨s', hs, r', hr', rfl⟩ := hr
  rw [fe] at hd ⊢
  by_cases e : k = t
  ·rw [if_pos e] at hd ⊢; exact SV.Bq h s hs hd
  ·rw [if_neg e] at hd ⊢; exact zK h hr' hd
theorem zL {i : Nat} {q : Option (Nat × List (List D))} {ds : List D} : ∀ {l l' : List Ob}, x9 i q ds l = some l' → l'.length = l.length ∧ ∀ (j : Nat) o', l'[j]? = some o' → ∃ o, l[j]? = some o ∧ o.fz i q ds = some o'
 | [], l', h => by simp [x9] at h; subst h; simp
 | o :: r, l', h => by
  simp only [x9, Option.bind_eq_some_iff, Option.some.injEq] at h
  obtain ⟨a', h1, b', h2, rfl⟩ := h
  have ih := zL h2
  refine ⟨by simp [ih.1], fun j o' hj => ?_⟩
  cases j with
  | zero => simp at hj; subst hj; exact ⟨o, rfl, h1⟩
  | succ j => simpa using ih.2 j o' (by simpa using hj)
variable {i : Nat} {ds : List D} {g : Gh}
theorem Ob.CM {q : Option (Nat × List (List D))} {g' : Gh} (h : Fz i q ds g g') {o o' : Ob} (hr : o.fz i q ds = some o') : gX g g' o o' ∧ (∀ j f dn cur, o' = .jk j f dn cur → o = o') ∧ (∀ f, o = .fh f → o' = .fh f) := by
 cases o <;> simp only [Ob.fz, Option.bind_eq_some_iff, Option.some.injEq] at hr
 case cells l ty =>
  obtain ⟨l', h1, rfl⟩ := hr
  exact ⟨⟨rfl, fun vs hd => o7 h l h1 hd⟩, (fun _ _ _ _ e => by cases e), (fun _ e => by cases e)⟩
 all_goals (subst hr; exact ⟨gX.refl ⟨h.m, h.gs⟩ _, (fun _ _ _ _ _ => rfl), (fun _ e => e)⟩)
section
variable {P : Program} {GL : Nat → List D} {n0 : Nat} {Pn : oR}
variable {B : Bs} {n : Nat} {sl sl' : List (Nat × SV)} {ob ob1 : List Ob} {a : Act} {w : World} {cs : List SV} {ty : TypeId}
theorem cT.zM (h : cT GL B ⟨n, sl, ob⟩ g a w) (ho : ob[i]? = some (.cells cs ty)) (hcs : qW cs = some ds) (hone : fP cs = true)
 (hsl : xZ i none ds sl = some sl') (hob : x9 i none ds ob = some ob1) : ∃ m', gg g.m m' ∧ cT GL B ⟨n, sl', ob1.set i .dead⟩ ⟨m', g.gs⟩ a w := by
 obtain ⟨pl, hpl⟩ := h.store.place ho
 have hok := h.store.gM _ _ _ ho hpl
 cases pl with
 | row b c k => exact hok.elim
 | loc b =>
  obtain ⟨vs, hh, hd, hmn⟩ := hok
  have hdd := bj.gp _ hd hcs
  have hone' := iY hone hd
  have hmle : gg g.m (gA g.m b vs) := gg.set fun o x hx => by rw [hmn] at hx; cases hx
  have hF : Fz i none ds g ⟨gA g.m b vs, g.gs⟩ := ⟨hmle, fun _ _ h => h, fun c hc => by
   rw [hpl] at hc; cases hc
   refine ej.tz (dk.mono hmle _ hdd) fun j x hx => ?_
   show gA _ _ _ _ _ = _
   unfold gA; rw [if_pos rfl, Nat.zero_add]; exact hx, fun r n y hq => by cases hq⟩
  have hget := zL hob
  have hil := (List.getElem?_eq_some_iff.1 ho).1
  have hlen := h.store.len
  have hneb : ∀ (j : Nat) oj pj c, j ≠ i → ob[j]? = some oj → g.gs[j]? = some pj → cO oj pj c → c ≠ b := fun j oj pj c hj h1 h2 h3 e => by
   subst e; exact hj (h.store.oI j i oj _ pj _ c h1 ho h2 hpl h3 rfl)
  have hbl : b < w.heap.size := (Array.getElem?_eq_some_iff.1 hh).1
  refine ⟨gA g.m b vs, hmle, h.defers, h.size, fun t => zK hF hsl (h.di t), ?_, ?_⟩
  ·refine h.store.step (p := fun j => j = i) hmle (fun _ _ h => h) (fun _ _ _ h => h) (fun c off x hx => ?_) (by simp [hget.1, hlen]) (fun j o1 hj h1 => ?_) (fun j k f dn cur h1 => ?_) (fun j k f dn cur hj h1 hk => ?_)
    (fun j o1 q c hj h1 h2 h3 => ⟨rfl, fun off hn => ?_⟩) (fun j o1 hj h1 => ?_) (fun j o1 q c hj h1 h2 h3 => ?_) (fun i j oi oj pi pj b hi hj _ _ _ _ _ _ => hi.trans hj.symm)
   ·simp only [gA] at hx
    by_cases hcb : c = b
    ·subst hcb
     rw [if_pos rfl] at hx
     refine ⟨?_, hone' x (List.mem_of_getElem? hx)⟩
     simp only [World.cell?, hh]
     simpa using hx
    ·rw [if_neg hcb] at hx; exact h.store.sat c off x hx
   ·rw [List.getElem?_set_ne (Ne.symm hj)] at h1
    obtain ⟨o, e1, e2⟩ := hget.2 j o1 h1
    exact ⟨o, e1, (Ob.CM hF e2).1⟩
   ·by_cases hj : j = i
    ·subst hj
     rw [List.getElem?_set_self (by rw [hget.1]; exact hil)] at h1; cases h1
    ·rw [List.getElem?_set_ne (Ne.symm hj)] at h1
     obtain ⟨o, e1, e2⟩ := hget.2 j _ h1
     have e3 := (Ob.CM hF e2).2.1 _ _ _ _ rfl
     subst e3
     have e4 := h.store.dQ j k f dn cur e1
     have hk : k ≠ i := fun e => by subst e; rw [ho] at e4; cases e4
     rw [List.getElem?_set_ne (Ne.symm hk)]
     have hkl := (List.getElem?_eq_some_iff.1 e4).1
     obtain ⟨o5, e5, e6⟩ := hget.2 k ob1[k] (by simp [hget.1, hkl])
     rw [e4] at e5; cases e5
     rw [List.getElem?_eq_getElem (by rw [hget.1]; exact hkl), (Ob.CM hF e6).2.2 f rfl]
   ·rw [List.getElem?_set_ne (Ne.symm hj)] at h1
    obtain ⟨o, e1, e2⟩ := hget.2 j _ h1
    have e3 := (Ob.CM hF e2).2.1 _ _ _ _ rfl
    subst e3 hk
    have e4 := h.store.dQ j k f dn cur e1
    rw [ho] at e4; cases e4
   ·show gA _ _ _ _ _ = _
    unfold gA; rw [if_neg (hneb j o1 q c hj h1 h2 h3)]; exact hn
   ·subst hj
    rw [List.getElem?_set_self (by rw [hget.1]; exact hil)] at h1; cases h1
    exact ⟨_, hpl, trivial⟩
   ·subst hj
    rw [List.getElem?_set_self (by rw [hget.1]; exact hil)] at h1; cases h1
    simp [cO, dA] at h3
  ·refine h.iR.step (X := fun c => c = b) (Fr.refl _ w) (fun c e => by subst e; exact h.iR.own i _ _ c ho hpl rfl) hmle (fun c off x hx hn => ?_) (fun j o1 p c h1 h2 h3 => ?_) (fun _ _ h => h)
   ·simp only [gA] at hx
    by_cases hcb : c = b
    ·exact .inl hcb
    ·rw [if_neg hcb, hn] at hx; cases hx
   ·by_cases hj : j = i
    ·subst hj
     rw [List.getElem?_set_self (by rw [hget.1]; exact hil)] at h1; cases h1
     simp [cO, dA] at h3
    ·rw [List.getElem?_set_ne (Ne.symm hj)] at h1
     obtain ⟨o, e1, e2⟩ := hget.2 j o1 h1
     refine .inl (h.iR.own j o p c e1 h2 ?_)
     cases o <;> simp only [Ob.fz, Option.bind_eq_some_iff, Option.some.injEq] at e2
     case cells l ty => obtain ⟨l', _, rfl⟩ := e2; cases p <;> exact h3
     all_goals (subst e2; exact h3)
theorem cT.CO (h : cT GL B ⟨n, sl, ob⟩ g a w) (ho : ob[i]? = some (.cells cs ty)) (hcs : qW cs = some ds) (hone : fP cs = true)
 (hsl : xZ i none ds sl = some sl') (hob : x9 i none ds ob = some ob1) : ∃ g', cT GL B ⟨n, sl', ob1.set i .dead⟩ g' a w := by
 obtain ⟨m', _, h2⟩ := h.zM ho hcs hone hsl hob
 exact ⟨_, h2⟩
variable {Q : Ex → St → Prop} {ob' : List Ob}
theorem IJ {ops l : List Oper} (i : Nat) (ho : cC i ob = some (.cells cs ty)) (hcs : qW cs = some ds) (hone : fP cs = true) (hsl : xZ i none ds sl = some sl') (hob : x9 i none ds ob = some ob1) (hob' : hJ i .dead ob1 = some ob')
 (h : br P GL n0 Pn ops l Q ⟨n, sl', ob'⟩) : br P GL n0 Pn ops l Q ⟨n, sl, ob⟩ := fun B hB a w ⟨g, hr⟩ => by
 obtain ⟨g', hr'⟩ := hr.CO (bL ho) hcs hone hsl hob
 rw [← (eH hob').1] at hr'
 exact h B hB a w ⟨g', hr'⟩
theorem yQ {c : Code} (i : Nat) (ho : cC i ob = some (.cells cs ty)) (hcs : qW cs = some ds) (hone : fP cs = true) (hsl : xZ i none ds sl = some sl') (hob : x9 i none ds ob = some ob1) (hob' : hJ i .dead ob1 = some ob')
 (h : bl P GL n0 Pn c Q ⟨n, sl', ob'⟩) : bl P GL n0 Pn c Q ⟨n, sl, ob⟩ := fun B hB a w ⟨g, hr⟩ => by
 obtain ⟨g', hr'⟩ := hr.CO (bL ho) hcs hone hsl hob
 rw [← (eH hob').1] at hr'
 exact h B hB a w ⟨g', hr'⟩
end
end Go.Vd
namespace Go.Vd
open Go Go.RowKit
structure Me where
 f : FuncId
 args : List SV
section
variable {P : Program} {GL : Nat → List D} {n0 n1 : Nat} {fn : Func} {Qf : Out → List Ob → Prop} {dfs : List Me}
end
end Go.Vd
namespace Go.Vd
open Go Go.RowKit
section
variable {P : Program} {GL : Nat → List D} {o : Oper} {σ : St} {K : SV → List Nat → Prop}
variable {T T' : TypeId} {x y : Operand}
theorem tC {m n : Int} (ho : o.op = .binOp .add T x y T') (hx : bJ GL σ.sl x = some (.d (.v (.int .i64 m)))) (hy : bJ GL σ.sl y = some (.d (.v (.int .i64 n)))) (hK : K (.d (.v (.int .i64 (IntKind.i64.wrap (m + n))))) []) : aj P GL o σ K :=
 fY ho hx hy rfl (by simp) (fun w => by simp [binOp, Op.intArith]) hK
theorem yS (hp : P.underlying T = some .bool) (p q : Bool) (w : World) : (Op.equal T (.bool p) (.bool q)).run P w = .ok (p == q) w := by
 have h : ∀ d : Nat, (Op.equalIn (d + 1) T (.bool p) (.bool q)).run P w = .ok (p == q) w := fun d => by simp [Op.equalIn, run_underlying hp]
 simp [Op.equal, Op.maxDepth, h 9999]
variable {p q : Bool}
theorem FF {op : BinOp} (hp : P.underlying T = some .bool) (ho : o.op = .binOp op T x y T') (hx : bJ GL σ.sl x = some (.d (.v (.bool p)))) (hy : bJ GL σ.sl y = some (.d (.v (.bool q)))) (hop : op = .eql ∨ op = .neq) (hK : K (.d (.v (.bool (if op = .eql then p == q else !(p == q))))) []) : aj P GL o σ K := eF fun B g a w hr => by
 have hxe : a.eval x = .bool p := hr.fo hx
 have hye : a.eval y = .bool q := hr.fo hy
 refine ⟨.d (.v (.bool (if op = .eql then p == q else !(p == q)))), _, fun w' => ?_, rfl, hK⟩
 have he := yS hp p q w'
 have hgd : ∀ op, (eqGuard op T x y (.bool p) (.bool q)).run P w' = .ok () w' := fun op => by unfold eqGuard; cases op <;> simp
 have hbo : ∀ op, op = .eql ∨ op = .neq → (binOp op T (.bool p) (.bool q)).run P w' = .ok (.bool (if op = .eql then p == q else !(p == q))) w' := fun op hop => by
  rcases hop with rfl | rfl <;> simp only [binOp, Sem.run_bind, he, Sem.run_pure, Result.andThen_ok, if_true] <;> rfl
 simp only [execOp, ho, hxe, hye, Sem.run_bind, hgd op, Result.andThen_ok, hbo op hop, Sem.run_pure]
theorem zW (hp : P.underlying T = some .bool) (ho : o.op = .binOp .neq T x y T') (hx : bJ GL σ.sl x = some (.d (.v (.bool p)))) (hy : bJ GL σ.sl y = some (.d (.v (.bool q)))) (hK : K (.d (.v (.bool (!(p == q))))) []) : aj P GL o σ K := FF hp ho hx hy (.inr rfl) hK
end
end Go.Vd
namespace Go.Vd
open Go Go.RowKit
theorem dh : (∀ (p : Prop) [Decidable p], (decide p = true) = p) ∧ (∀ (p : Prop) [Decidable p], (decide p = false) = ¬ p) ∧ (∀ b : Bool, ((!b) = true) = (b = false)) ∧ (∀ b : Bool, ((!b) = false) = (b = true)) ∧ ((!true) = false) ∧ ((!false) = true)
 ∧ (∀ a b : Int, (¬ a < b) = (b ≤ a)) ∧ (∀ a b : Int, (¬ a ≤ b) = (b < a)) ∧ (∀ a b : Bool, ((a && b) = true) = (a = true ∧ b = true)) ∧ (∀ a b : Bool, ((a || b) = true) = (a = true ∨ b = true)) ∧ (∀ a b : Bool, ((a && b) = false) = (a = false ∨ b = false)) ∧ (∀ a b : Bool, ((a || b) = false) = (a = false ∧ b = false))
 ∧ ((false = true) = False) ∧ ((true = false) = False) ∧ ((¬ True) = False) ∧ ((¬ False) = True) ∧ (∀ [Decidable True], decide True = true) ∧ (∀ [Decidable False], decide False = false)
 ∧ (∀ p : Prop, (True ∧ p) = p) ∧ (∀ p : Prop, (p ∧ True) = p) ∧ (∀ p : Prop, (False ∧ p) = False) ∧ (∀ p : Prop, (p ∧ False) = False) ∧ (∀ p : Prop, (True ∨ p) = True) ∧ (∀ p : Prop, (p ∨ True) = True) ∧ (∀ p : Prop, (False ∨ p) = p) ∧ (∀ p : Prop, (p ∨ False) = p)
 ∧ (∀ b : Bool, (true && b) = b) ∧ (∀ b : Bool, (false && b) = false) ∧ (∀ b : Bool, (b && true) = b) ∧ (∀ b : Bool, (b && false) = false) ∧ (∀ b : Bool, (true || b) = true) ∧ (∀ b : Bool, (false || b) = b) ∧ (∀ b : Bool, (b || true) = true) ∧ (∀ b : Bool, (b || false) = b)
 ∧ (∀ n : Nat, (n : Int).toNat = n) ∧ (∀ n : Nat, ((n : Int) + 1).toNat = n + 1) := by
 repeat' apply And.intro
 all_goals first
  | rfl
  | (intros; simp; done)
  | (intro a b; exact propext Int.not_lt)
  | (intro a b; exact propext Int.not_le)
  | (intros; omega)
  | (intro a b; cases a <;> cases b <;> simp)
section
variable {P : Program} {GL : Nat → List D} {n0 : Nat} {Pn : oR}
variable {Q : Ex → St → Prop} {n : Nat} {sl sl' : List (Nat × SV)} {ob : List Ob}
theorem kp (L : List Nat) {c : Code} (h : bl P GL n0 Pn c Q ⟨n, sl', ob⟩) (hk : ig sl L = some sl' := by exact rfl) : bl P GL n0 Pn c Q ⟨n, sl, ob⟩ := wC L hk h
variable {c : Operand} {c1 c2 : Code} {σ : St} {b : Bool}
theorem cd (h1 : b = true → bl P GL n0 Pn c1 Q σ) (h2 : b = false → bl P GL n0 Pn c2 Q σ) (hc : bJ GL σ.sl c = some (.d (.v (.bool b))) := by exact rfl) : bl P GL n0 Pn (.cond c c1 c2) Q σ := ju hc h1 h2
theorem vy (h2 : b = false → bl P GL n0 Pn c2 Q σ) (h1 : b = true → bl P GL n0 Pn c1 Q σ) (hc : bJ GL σ.sl c = some (.d (.v (.bool b))) := by exact rfl) : bl P GL n0 Pn (.cond c c1 c2) Q σ := ju hc h1 h2
theorem KV {l : List Oper} {fuel : Nat} {listed : Array Bool} {L : List (Nat × Nat)} (d : Nat)
 (h1 : b = true → bI P GL n0 Pn l fuel listed L Q ⟨n, (d, .d (.v (.bool true))) :: sl, ob⟩) (h2 : b = false → bI P GL n0 Pn l fuel listed L Q ⟨n, (d, .d (.v (.bool false))) :: sl, ob⟩) (hb : gw d sl = some (.d (.v (.bool b))) := by exact rfl) : bI P GL n0 Pn l fuel listed L Q ⟨n, sl, ob⟩ := Ej d hb h1 h2
variable {o : Oper} {t : Nat} {ob' : List Ob} {K : St → Prop} {f : FuncId} {args : Array Operand} {ts : Array TypeId} {svs m : List SV}
theorem ck {sl1 : List (Nat × SV)} {ob1 obr obn : List Ob} {obc : List Ob} {argsc : List SV} {r r' : SV} (hc : ak P f = true) (ho : o.op = .call { callee := .value (.func f), args := args, argTypes := ts }) (ha : Gu GL sl args.toList = some svs) (ht : ey P GL f obc argsc fun out ob2 => out = .ret r ∧ ob2 = ob') (ix : List Nat) (hra : lL ix argsc = some m) (hfit : bX ob ix obc ix) (hfa : ia ob svs m)
 (hK : K ⟨n, (t, r') :: sl1, obn⟩) (hdst : o.dst = some t := by exact rfl) (htn : Nat.blt t n = true := by exact rfl) (hnd : fE ix = true := by exact rfl) (hno : fJ obc = true := by exact rfl) (hit : qv ix ob = true := by exact rfl)
 (e1 : pw (names ix ob.length (ob'.length - ix.length)) ob' = some obr := by exact rfl) (e2 : rv ix ob = some ob1 := by exact rfl) (e3 : jO ix ob1 obr = some obn := by exact rfl) (e4 : vO ix sl = some sl1 := by exact rfl) (e5 : r.iN (names ix ob.length (ob'.length - ix.length)) = some r' := by exact rfl) : de P GL n0 Pn (· ∈ ix) o ⟨n, sl, ob⟩ K :=
 ay hc ho ha hdst htn ht ix hfit hnd hno hit hra hfa (fun s ob2 hq => by
  obtain ⟨h1, rfl⟩ := hq
  cases h1
  exact ⟨_, _, _, _, _, e1, e2, e3, e4, e5, hK⟩) (fun s ob2 hq => by cases hq.1)
variable {d : D}
theorem cv {argsc : List D} (hc : ak P f = true) (ho : o.op = .call { callee := .value (.func f), args := args, argTypes := ts }) (ha : Gu GL sl args.toList = some svs) (ht : cD P GL f argsc (· = d)) (hfa : ia ob svs (argsc.map .d)) (hK : K ⟨n, (t, .d d) :: sl, ob⟩)
 (hdst : o.dst = some t := by exact rfl) (htn : Nat.blt t n = true := by exact rfl) : de P GL n0 Pn (fun _ => False) o ⟨n, sl, ob⟩ K :=
 bo hc ho ha hdst htn ht hfa fun d' hd => by cases hd; exact hK
variable {s : SV} {l : List SV}
theorem an (h : ia ob l m) : ia ob (s :: l) (s :: m) := .cons (.refl s) h
theorem bd (h : ia ob l m) (hd : s.gp = some d := by exact rfl) : ia ob (s :: l) (.d d :: m) := .cons (.gp hd) h
theorem zX : ia ob [] [] := .nil
variable {k : Nat}
theorem JL (h : ia ob l m) : ia ob (.d (.v (.slice none 0 0)) :: l) (.d (.sl k []) :: m) := .cons .G2 h
variable {ρ : List Nat}
theorem cW : bX ob ρ [] [] := .nil
variable {r : List Ob} {i : Nat} {is : List Nat} {lc : List SV} {ty : TypeId}
theorem bh (hr : bX ob ρ r is) (hi : cC i ob = some (.cells l ty) := by exact rfl) (h : lL ρ lc = some l := by exact rfl) : bX ob ρ (.cells lc ty :: r) (i :: is) := .cons hi (.cells h (ia.rfl _)) hr
theorem BU (hf : ia ob l m) (hr : bX ob ρ r is) (hi : cC i ob = some (.cells l ty) := by exact rfl) (h : lL ρ lc = some m := by exact rfl) : bX ob ρ (.cells lc ty :: r) (i :: is) := .cons hi (.cells h hf) hr
variable {e : TypeId}
theorem cu (hr : bX ob ρ r is) (hi : cC i ob = some (.row e k) := by exact rfl) : bX ob ρ (.row e k :: r) (i :: is) := .cons hi .row hr
theorem p6 (hr : bX ob ρ r is) (hi : cC i ob = some (.bP e k) := by exact rfl) : bX ob ρ (.row e k :: r) (i :: is) := .cons hi .J4 hr
theorem Ef (hr : bX ob ρ r is) (hi : cC i ob = some (.bP e k) := by exact rfl) : bX ob ρ (.bP e k :: r) (i :: is) := .cons hi .HN hr
theorem Eg {ls : List (List D)} {q : Option (Option Nat × Nat)} (hr : bX ob ρ r is) (hi : cC i ob = some (.buf e k ls q) := by exact rfl) : bX ob ρ (.buf e k ls q :: r) (i :: is) := .cons hi .buf hr
theorem LH {o : Ob} (hr : bX ob ρ r is) (hi : cC i ob = some o := by exact rfl) : bX ob ρ (.dead :: r) (i :: is) := .cons hi .dead hr
theorem dF : mL ob ρ sl [] := .nil
theorem eh {s' : SV} {r : List (Nat × SV)} (h : s.iN ρ = some s') (hf : Fit ob (nf t sl) s') (hr : mL ob ρ sl r) : mL ob ρ sl ((t, s) :: r) := .cons h hf hr
theorem aH {r : List (Nat × SV)} (hr : mL ob ρ sl r) (h : s.iN ρ = some (nf t sl) := by exact rfl) : mL ob ρ sl ((t, s) :: r) := .cons h (.refl _) hr
theorem mo (hob : bX ob ρ ob' ρ) (hsl : mL ob ρ sl sl') (hp : pre 0 n0 ρ = true := by exact rfl) (hnd : fE ρ = true := by exact rfl) (hno : fJ ob' = true := by exact rfl) : nQ n0 ⟨n, sl, ob⟩ ⟨n, sl', ob'⟩ ρ := zo hp hnd hno hob hsl
end
end Go.Vd
namespace Go.Vd
open Go Go.RowKit
section
variable {P : Program} {GL : Nat → List D} {n0 : Nat} {Pn : oR}
end
end Go.Vd
namespace Go.Vd
open Go Go.RowKit
section
variable {P : Program} {GL : Nat → List D} {o : Oper} {σ : St} {K : SV → List Nat → Prop}
def GM (m n : Int) : Int := IntKind.wrap .u8 (m - n)
theorem G9 {T T' : TypeId} {x y : Operand} {m n : Int} (ho : o.op = .binOp .sub T x y T') (hx : bJ GL σ.sl x = some (.d (.v (.int .u8 m)))) (hy : bJ GL σ.sl y = some (.d (.v (.int .u8 n)))) (hK : K (.d (.v (.int .u8 (GM m n)))) []) : aj P GL o σ K :=
 fY ho hx hy rfl (by simp) (fun w => by simp only [binOp, Op.intArith, ne_eq, not_true_eq_false, if_false]; rfl) hK
end
variable {c : Int}
theorem AF (h : 48 ≤ c ∧ c ≤ 57) : GM c 48 = c - 48 := by
 unfold GM IntKind.wrap
 simp [IntKind.bits, IntKind.signed]
 omega
theorem Au (h : 0 ≤ c ∧ c ≤ 255) : IntKind.wrap .i64 c = c := by
 unfold IntKind.wrap
 simp [IntKind.bits, IntKind.signed]
 omega
end Go.Vd
namespace Go.Vd
open Go Go.RowKit
theorem BR (s : ByteArray) : (s.data.toList.map fun c => (c.toNat : Int)).foldl (fun r n => r.push (UInt8.ofNat n.toNat)) ByteArray.empty = s := by
 have h : ∀ (l : List UInt8) (r : ByteArray), (l.map fun c => (c.toNat : Int)).foldl (fun r n => r.push (UInt8.ofNat n.toNat)) r = ⟨⟨r.data.toList ++ l⟩⟩ := by
  intro l
  induction l with
  | nil => intro r; simp
  | cons c l ih =>
   intro r
   simp only [List.map_cons, List.foldl_cons]
   rw [ih]
   simp [ByteArray.push]
 rw [h]
 rfl
theorem ye {P : Program} {GL : Nat → List D} {o : Oper} {σ : St} {K : SV → List Nat → Prop} {src dst e : TypeId} {x : Operand} {s : ByteArray} {i : Nat} {ls : List (List D)} (hu : P.underlying src = some (.slice e)) (he : P.underlying e = some (.int .u8)) (hd : P.underlying dst = some .string) (ho : o.op = .convert src dst x)
 (hx : bJ GL σ.sl x = some (.own i 1 ls)) (hls : ls = ll s) (hne : s ≠ .empty) (hK : K (.d (.v (.string s))) []) : aj P GL o σ K := fun B g a w hr => by
 subst hls
 obtain ⟨ad, cap, h1, hc, hd'⟩ : (D.sl 1 (ll s)).Den g.m (a.eval x) := uo (hr.fo hx)
 obtain ⟨b, off, rfl, hd2⟩ := hd' (Ec hne)
 have hm : ∀ (j : Nat) c, s.data.toList[j]? = some c → g.m b (off + j) = some (.int .u8 c.toNat) := fun j c hj => by
  have hj2 : (ll s)[j]? = some [.v (.int .u8 c.toNat)] := by simp only [ll, List.getElem?_map, hj, Option.map_some]
  obtain ⟨⟨y, hy, hyd⟩, _⟩ := (hd2.get hj2).2
  rw [Nat.mul_one] at hy
  rw [hy]; exact congrArg some hyd
 refine ⟨s.data.toList.zipIdx.map fun p => (⟨b, off + p.2, none⟩, .int .u8 p.1.toNat), .d (.v (.string s)), .string s, [], fun w' hcw => ?_, fun p hp => ?_, fun p hp => ?_, rfl, hK⟩
 ·have hl : (loadCells ⟨b, off, none⟩ (ll s).length).run P w' = .ok ((s.data.toList.map fun c => (c.toNat : Int)).map (Value.int .u8)).toArray w' := by
   have := run_loadCells_list (P := P) w' ⟨b, off, none⟩ ((s.data.toList.map fun c => (c.toNat : Int)).map (Value.int .u8)) (fun j v hj => by
    rw [eS]
    simp only [List.getElem?_map] at hj
    cases hjc : s.data.toList[j]? with
    | none => rw [hjc] at hj; cases hj
    | some c =>
     rw [hjc] at hj
     simp only [Option.map_some, Option.some.injEq] at hj
     subst hj
     exact hcw _ (List.mem_map.2 ⟨(c, j), List.mem_zipIdx_iff_getElem?.2 hjc, rfl⟩))
   simpa [ll] using this
  simp only [execOp, ho, h1, Sem.run_bind, run_convert_bytes_string w' src dst e _ _ _ hu he hd, run_bytesToString w' _ _ _ _ hl, Result.andThen_ok, BR]
  rfl
 ·obtain ⟨⟨c, j⟩, hq, rfl⟩ := List.mem_map.1 hp
  rw [List.mem_zipIdx_iff_getElem?] at hq
  exact (hr.store.sat _ _ _ (hm j c hq)).1
 ·obtain ⟨⟨c, j⟩, hq, rfl⟩ := List.mem_map.1 hp
  rw [List.mem_zipIdx_iff_getElem?] at hq
  exact ⟨rfl, .inl (hm j c hq)⟩
end Go.Vd
namespace Go.Vd
open Go Go.RowKit
end Go.Vd
namespace Go.Vd
open Go Go.RowKit
theorem dk.split {m : Mem} : ∀ {l r : List D} {vs : List Value}, dk m (l ++ r) vs → dk m l (vs.take l.length) ∧ dk m r (vs.drop l.length)
 | [], r, vs, h => by simpa [dk] using h
 | d :: l, r, vs, h => by
  obtain ⟨x, l', e, h1, h2⟩ := h
  subst e
  have ih := dk.split h2
  exact ⟨⟨x, _, by simp, h1, ih.1⟩, by simpa using ih.2⟩
theorem CX {m : Mem} {k : Nat} : ∀ {ls : List (List D)} {xs : List Value} {r : Nat} {el : List D}, (∀ x ∈ ls, x.length = k) → dk m ls.flatten xs → ls[r]? = some el → dk m el ((xs.drop (r * k)).take k)
 | [], _, r, el, _, _, h => by simp at h
 | a :: ls, xs, 0, el, hk, hd, h => by
  simp at h; subst h
  have := (dk.split (l := a) (r := ls.flatten) (by simpa using hd)).1
  rw [hk a (by simp)] at this
  simpa using this
 | a :: ls, xs, r + 1, el, hk, hd, h => by
  have h2 := (dk.split (l := a) (r := ls.flatten) (by simpa using hd)).2
  rw [hk a (by simp)] at h2
  have := CX (fun x hx => hk x (by simp [hx])) h2 (r := r) (by simpa using h)
  rw [List.drop_drop] at this
  rwa [show (r + 1) * k = k + r * k by rw [Nat.add_mul]; omega]
theorem sQ {k : Nat} : ∀ {ls : List (List D)}, (∀ x ∈ ls, x.length = k) → ls.flatten.length = ls.length * k
 | [], _ => by simp
 | a :: ls, h => by
  simp only [List.flatten_cons, List.length_append, List.length_cons]
  rw [h a (by simp), sQ fun x hx => h x (by simp [hx]), Nat.add_mul]; omega
theorem CW {m : Mem} {k : Nat} : ∀ {ls : List (List D)} {xs : List Value} {r : Nat} {ds : List D} {vs : List Value}, (∀ x ∈ ls, x.length = k) → dk m ls.flatten xs → r < ls.length → ds.length = k → dk m ds vs → dk m (ls.set r ds).flatten (xs.take (r * k) ++ vs ++ xs.drop (r * k + k))
 | [], _, r, _, _, _, _, h, _, _ => by simp at h
 | a :: ls, xs, 0, ds, vs, hk, hd, _, hl, hv => by
  have h2 := (dk.split (l := a) (r := ls.flatten) (by simpa using hd)).2
  rw [hk a (by simp)] at h2
  simpa using hv.append h2
 | a :: ls, xs, r + 1, ds, vs, hk, hd, h, hl, hv => by
  have h1 := dk.split (l := a) (r := ls.flatten) (by simpa using hd)
  rw [hk a (by simp)] at h1
  have ih := CW (fun x hx => hk x (by simp [hx])) h1.2 (r := r) (ds := ds) (vs := vs) (by simpa using h) hl hv
  have hx := h1.1.length
  have e : xs.take ((r + 1) * k) ++ vs ++ xs.drop ((r + 1) * k + k) = xs.take k ++ ((xs.drop k).take (r * k) ++ vs ++ (xs.drop k).drop (r * k + k)) := by
   rw [List.drop_drop, show (r + 1) * k + k = k + (r * k + k) by rw [Nat.add_mul]; omega, show (r + 1) * k = k + r * k by rw [Nat.add_mul]; omega, List.take_add]
   simp only [List.append_assoc]
  rw [List.set_cons_succ, List.flatten_cons, e]
  exact h1.1.append ih
section
variable {P : Program} {GL : Nat → List D} {n0 : Nat} {Pn : oR} {o : Oper}
variable {σ : St} {K : SV → List Nat → Prop} {T : TypeId} {x : Operand} {m : Nat}
theorem gj {i : Nat} (hu : P.underlying T = some (.slice (bc P T).elem)) (ho : o.op = .call { callee := .builtin .len, args := #[x], argTypes := #[T] })
 (hx : bJ GL σ.sl x = some (.arr i m)) (hK : K (.d (.v (.int .i64 m))) []) : aj P GL o σ K := eF fun B g a w hr => by
 obtain ⟨b, cap, _, h1⟩ := hr.fo hx
 exact ⟨.d (.v (.int .i64 m)), .int .i64 m, fun w' => by simp [execOp, ho, h1, resolve, invoke, builtin, Builtin.len_, run_underlying hu, goInt], rfl, hK⟩
variable {ob : List Ob} {q k : Nat}
theorem vn {g : Gh} {w : World} (hs : cH GL ob g w) {e : Nat} {ls : List (List D)} {pq : Option (Option Nat × Nat)} (hi : ob[q]? = some (.buf e k ls pq)) {b : Option Nat} {cap : Nat} (hp : g.gs[q]? = some (.row b cap m)) :
 m = ls.length ∧ (∀ x ∈ ls, x.length = k) ∧ (∃ xs, w.ownsRow 0 e k (.slice (b.map fun c => ⟨c, 0, none⟩) m cap) m xs ∧ dk g.m ls.flatten xs ∧ ∀ u ∈ xs, u.oneCell' = true) ∧ ∀ c, b = some c → ∀ o, g.m c o = none := ⟨(hs.gM _ _ _ hi hp).1, (hs.gM _ _ _ hi hp).2.1, (hs.gM _ _ _ hi hp).2.2.1, (hs.gM _ _ _ hi hp).2.2.2.1⟩
variable {e : TypeId} {ti : TI}
theorem pz {pq : Option (Option Nat × Nat)} {i : Operand} {ls : List (List D)} {j : Int} {kd : IntKind} (hu : P.underlying T = some (.slice (bc P T).elem)) (hT : bc P (bc P T).elem = ti) (hok : ti.ok = true) (hs : ti.size = k) (ho : o.op = .indexAddr T x i)
 (hx : bJ GL σ.sl x = some (.arr q m)) (hi : bJ GL σ.sl i = some (.d (.v (.int kd j)))) (hq : cC q σ.ob = some (.buf e k ls pq)) (h01 : 0 ≤ j ∧ j < m) (hK : K (.bp q (j.toNat * k)) []) : aj P GL o σ K := eF fun B g a w hr => by
 obtain ⟨h0, h1⟩ := h01
 obtain ⟨b, cap, hb, hv⟩ := hr.fo hx
 obtain ⟨hm, _, ⟨xs, hown, _⟩, _⟩ := vn hr.store (bL hq) hb
 cases b with
 | none =>
  exfalso
  rcases hown.2 with ⟨_, h2⟩ | ⟨g0, c0, cur, h2, _⟩
  ·omega
  ·cases h2
 | some b =>
  have h2 : a.eval i = .int kd j := hr.fo hi
  rw [← hT] at hok
  obtain ⟨inf, d, hi', hd', hs', _⟩ := rS hok
  refine ⟨.bp q (j.toNat * k), .pointer (some ⟨b, j.toNat * k, none⟩), fun w' => ?_, ⟨b, cap, m, hb, rfl⟩, hK⟩
  rw [hT, hs] at hs'
  simp only [Option.map_some] at hv
  simp [execOp, ho, hv, h2, Instr.indexAt, run_underlying hu, asIntOf, h0, h1, sizeOf, typeInfo, hi', ← hs', eS]
variable {n off r : Nat} {sl : List (Nat × SV)} {ty : TypeId}
theorem Ba {t : Nat} {pq : Option (Option Nat × Nat)} {K : St → Prop} {T : Nat → Prop} {ls : List (List D)} {el : List D} (hT : bc P ty = ti) (hok : ti.ok = true) (hag : ti.agg = true) (ho : o.op = .load ty x) (hd : o.dst = some t) (ht : Nat.blt t n = true)
 (hx : bJ GL sl x = some (.bp q off)) (hi : cC q ob = some (.buf e k ls pq)) (hk : ti.size = k) (hoff : off = r * k) (he : ls[r]? = some el) (h : K ⟨n, (t, .d (.agg el)) :: sl, ob⟩) : de P GL n0 Pn T o ⟨n, sl, ob⟩ K :=
 qu hd ht fun B g a w hr => by
  subst hT
  obtain ⟨b, cap, m, hb, hv⟩ := hr.fo hx
  obtain ⟨hm, hl, ⟨xs, hown, hdx, _⟩, _⟩ := vn hr.store (bL hi) hb
  have hel := CX hl hdx he
  have hr0 := (List.getElem?_eq_some_iff.1 he).1
  have hlen : ((xs.drop (r * k)).take k).length = (bc P ty).size := by rw [hel.length, hk]; exact hl el (List.mem_of_getElem? he)
  have hcell := (tw (b := b) hown).2
  have hrun := gF hok (w := w) (b := b) (off := off) hlen (fun j y hj => by
   rw [List.getElem?_take] at hj
   split at hj
   ·rw [List.getElem?_drop] at hj
    rw [hoff]; exact hcell _ y hj
   ·cases hj) (fun hn => by rw [hag] at hn; cases hn)
  rw [hag] at hrun
  exact ⟨.d (.agg el), .agg ⟨(xs.drop (r * k)).take k⟩, by simp only [execOp, ho, hv, Instr.loadAt, Instr.sureAddr, Sem.run_bind, Sem.run_pure, hrun, Result.andThen_ok, if_true], ⟨_, rfl, hel⟩, h⟩
theorem sr {pq : Option (Option Nat × Nat)} {ob' : List Ob} {K : St → Prop} {y : Operand} {s : SV} {cs : List SV} {ds : List D} {ls : List (List D)} (hT : bc P ty = ti) (hok : ti.ok = true) (ho : o.op = .store ty x y) (hd : o.dst = none)
 (hx : bJ GL sl x = some (.bp q off)) (hy : bJ GL sl y = some s) (hi : cC q ob = some (.buf e k ls pq)) (hk : ti.size = k) (hc : jd ti.agg s = some cs) (hcd : qW cs = some ds) (hsz : Nat.beq cs.length ti.size = true) (hone : fP cs = true) (hno : fF q ob = true) (hoff : off = r * k ∧ r < ls.length)
 (hob : hJ q (.buf e k (ls.set r ds) pq) ob = some ob') (h : K ⟨n, sl, ob'⟩) : de P GL n0 Pn (fun j => j = q) o ⟨n, sl, ob⟩ K := fun B hB g a w hr next Q hK hP => by
 subst hT
 obtain ⟨hoff, hr0⟩ := hoff
 obtain ⟨b, cap, m, hb, hpx⟩ := hr.fo hx
 have hi' := bL hi
 obtain ⟨hm, hl, ⟨xs, hown, hdx, h1x⟩, hmn⟩ := vn hr.store hi' hb
 rcases hown.2 with ⟨h2, _⟩ | ⟨b1, cap1, cur, e1, _, hh, hle, hcm, hcs, htk⟩
 ·cases h2
 simp only [Option.map_some, Value.slice.injEq, Option.some.injEq, Addr.mk.injEq] at e1
 obtain ⟨⟨rfl, _, _⟩, _, rfl⟩ := e1
 obtain ⟨ti, d, hinf, hdd, hsi, _⟩ := rS hok
 have hcd0 := iI hc (hr.fo hy)
 have hcd1 := bj.gp _ hcd0 hcd
 have hcl := hcd0.length
 have hsz' : cs.length = (bc P ty).size := by simpa using hsz
 have hnl : (a.eval y).cells.toList.length = k := by omega
 have hdl : ds.length = k := by have := hcd1.length; omega
 have hin : off + k ≤ m * k := by rw [hoff, hm]; have := Nat.mul_le_mul_right k (show r + 1 ≤ ls.length by omega); rw [Nat.add_mul] at this; omega
 have hin2 : m * k ≤ cap * k := Nat.mul_le_mul_right k hle
 have hst := run_storeCells_at (P := P) b off e (a.eval y).cells.toList 0 cur w hh (by omega) (iY hone hcd0)
 simp only [Nat.add_zero] at hst
 have hrun : (execOp a.eval o).run P w = .ok .skip (w.setRow b (cur.toList.take off ++ (a.eval y).cells.toList ++ cur.toList.drop (off + (a.eval y).cells.toList.length)).toArray) := by
  have hsz2 : (a.eval y).cells.size = ti.size := by simpa using (show (a.eval y).cells.toList.length = ti.size by omega)
  simp only [execOp, ho, hpx, Instr.storeAt, Instr.sureAddr, storeVar, sizeOf, typeInfo, Sem.run_bind, Sem.run_pure, Result.andThen_ok, run_program, hinf, hsz2]
  simp only [ne_eq, not_true_eq_false, if_false]
  rw [hst]
  simp
 rw [hnl] at hrun
 unfold Oper.wp
 rw [hrun]
 show next (a.put o.dst _) _
 rw [hd]
 have hcurl : cur.toList.length = cap * k := by simpa using hcs
 have hxl := hown.1
 have hx1 : xs.take off = cur.toList.take off := by rw [← htk, List.take_take, Nat.min_eq_left (by omega)]
 have hx2 : xs.drop (off + k) = (cur.toList.drop (off + k)).take (m * k - (off + k)) := by rw [← htk, List.drop_take]
 have hnew : (w.setRow b (cur.toList.take off ++ (a.eval y).cells.toList ++ cur.toList.drop (off + k)).toArray).ownsRow 0 e k (.slice ((some b).map fun c => ⟨c, 0, none⟩) m cap) m (xs.take off ++ (a.eval y).cells.toList ++ xs.drop (off + k)) := by
  refine ⟨?_, .inr ⟨b, cap, _, rfl, Nat.zero_le _, setRow_heap w b _ _ _ _ hh, hle, hcm, ?_, ?_⟩⟩
  ·simp only [List.length_append, List.length_take, List.length_drop]; omega
  ·simp only [List.size_toArray, List.length_append, List.length_take, List.length_drop]; omega
  ·rw [hx1, hx2]
   show List.take (m * k) (cur.toList.take off ++ (a.eval y).cells.toList ++ cur.toList.drop (off + k)) = _
   have hpl : (cur.toList.take off ++ (a.eval y).cells.toList).length = off + k := by simp only [List.length_append, List.length_take]; omega
   rw [List.take_append, hpl, List.take_of_length_le (by omega)]
 have hset := eH hob
 obtain ⟨h1, h2⟩ := hr.Iu (w' := w.setRow b (cur.toList.take off ++ (a.eval y).cells.toList ++ cur.toList.drop (off + k)).toArray) (o' := .buf e k (ls.set r ds) pq) hi' hb rfl ⟨rfl, rfl, rfl, by simp, fun c _ hc => setRow_other w _ _ _ hc⟩
  ⟨by
   rw [List.length_set]; exact hm, fun x hx => by
   rcases List.mem_or_eq_of_mem_set hx with h3 | h3
   ·exact hl x h3
   ·rw [h3]; exact hdl, ⟨_, hnew, by rw [hoff]; exact CW hl hdx hr0 hdl hcd1, fun u hu => by
   simp only [List.mem_append] at hu
   rcases hu with (hu | hu) | hu
   ·exact h1x u (List.mem_of_mem_take hu)
   ·exact iY hone hcd0 u hu
   ·exact h1x u (List.mem_of_mem_drop hu)⟩, hmn, (hr.store.gM _ _ _ hi' hb).2.2.2.2⟩ (.inl rfl) (ny hno) (fun k f dn cur e => by cases e) (hmn b rfl)
 rw [← hset.1] at h1
 exact hK _ _ _ _ h1 h2 h
end
end Go.Vd
namespace Go.Vd
open Go Go.RowKit
section
variable {P : Program} {GL : Nat → List D} {n0 : Nat} {Pn : oR}
end
end Go.Vd
namespace Go.Vd
open Go Go.RowKit
section
variable {GL : Nat → List D} {B : Bs} {σ : St} {g : Gh} {a : Act} {w : World}
variable {i n : Nat} {e : TypeId} {sl' : List (Nat × SV)} {ob' : List Ob}
theorem cT.KG (h : cT GL B σ g a w) {w' : World} {o : Ob} {b : Option Nat} {cap : Nat} {k : Nat} {ls ls' : List (List D)} {pq : Option (Option Nat × Nat)} (ho : σ.ob[i]? = some o) (hor : o = .buf e k ls pq ∨ o = .bP e k) (hpl : g.gs[i]? = some (.row b cap n)) (hf : Fr (fun c => b = some c ∧ o = .buf e k ls pq) w w')
 {m' : Mem} (hm : gg g.m m') {c cap' n' : Nat} (hc : (b = some c ∧ o = .buf e k ls pq) ∨ w.heap.size ≤ c)
 (hnew : ∀ d off x, m' d off = some x → g.m d off = none → d = c) (hsat : ∀ off x, m' c off = some x → w'.cell? ⟨c, off, none⟩ = some x ∧ x.oneCell' = true)
 (hold : ∀ d off x, b = some d → g.m d off = some x → w'.cell? ⟨d, off, none⟩ = some x)
 (hok : ef ⟨m', g.gs.set i (.row (some c) cap' n')⟩ w' (.buf e k ls' none) (.row (some c) cap' n'))
 (hsl : yq i σ.sl = some sl') (hob : yr i σ.ob = some ob') :
 cT GL B ⟨σ.n, sl', ob'.set i (.buf e k ls' none)⟩ ⟨m', g.gs.set i (.row (some c) cap' n')⟩ a w' ∧ qP (fun j => j = i) σ.ob g w ⟨m', g.gs.set i (.row (some c) cap' n')⟩ w' := by
 have hlen := h.store.len
 have hi := (List.getElem?_eq_some_iff.1 ho).1
 have hob2 := o6 hob
 have hself : (g.gs.set i (.row (some c) cap' n'))[i]? = some (.row (some c) cap' n') := List.getElem?_set_self (by omega)
 have hgs : ∀ (j : Nat) q, j ≠ i → g.gs[j]? = some q → (g.gs.set i (.row (some c) cap' n'))[j]? = some q := fun j q hj hq => by rw [List.getElem?_set_ne (Ne.symm hj)]; exact hq
 have hat : ∀ (j d : Nat), g.gs[j]? = some (.loc d) → (g.gs.set i (.row (some c) cap' n'))[j]? = some (.loc d) := fun j d hd => hgs j _ (fun e => by subst e; rw [hpl] at hd; cases hd) hd
 have hkl : Io (fun j => Nat.beq j i) g ⟨m', g.gs.set i (.row (some c) cap' n')⟩ := ⟨hm, fun j q hq hj => hgs j q (fun e => by subst e; simp at hj) hq, hat⟩
 have hbr : ∀ d, b = some d ∧ o = .buf e k ls pq → cO o (.row b cap n) d := fun d hd => by rw [hd.2, hd.1]; rfl
 have hne : ∀ (j : Nat) oj pj d, j ≠ i → σ.ob[j]? = some oj → g.gs[j]? = some pj → cO oj pj d → ¬ (b = some d ∧ o = .buf e k ls pq) ∧ d ≠ c := fun j oj pj d hj h1 h2 h3 => by
  have h4 : ¬ (b = some d ∧ o = .buf e k ls pq) := fun hd => hj (h.store.oI j i oj o pj _ d h1 ho h2 hpl h3 (hbr d hd))
  refine ⟨h4, fun e => ?_⟩
  subst e
  rcases hc with hc | hc
  ·exact h4 hc
  ·have := h.store.lt h1 h2 h3; omega
 refine ⟨⟨h.defers, h.size, fun t => ?_, ?_, ?_⟩, hm, fun j d oj hj h1 h2 h3 => ⟨hat j d h2, hf.block d (h.store.lt h1 h2 (dY h3)) (hne j oj _ d hj h1 h2 (dY h3)).1⟩⟩
 ·show (nf t sl').Den _ _
  rw [qB hsl]
  exact SV.Den.kill hkl _ (h.di t)
 ·refine h.store.step (p := fun j => j = i) hm hat hgs (fun d off x hx => ?_) (by simp [hob2.1, hlen]) (fun j o1 hj h1 => ?_) (fun j q f dn cur h1 => ?_) (fun j q f dn cur hj h1 hk => ?_)
   (fun j o1 q d hj h1 h2 h3 => ⟨hf.block d (h.store.lt h1 h2 h3) (hne j o1 q d hj h1 h2 h3).1, fun off hn => ?_⟩) (fun j o1 hj h1 => ?_) (fun j o1 q d hj h1 h2 h3 => ?_) (fun i j oi oj pi pj b hi hj _ _ _ _ _ _ => hi.trans hj.symm)
  ·by_cases hdc : d = c
   ·subst hdc; exact hsat off x hx
   ·cases hg : g.m d off with
    | none => exact absurd (hnew d off x hx hg) hdc
    | some y =>
     have e1 := hm d off y hg
     simp only at hx
     rw [e1] at hx; cases hx
     have hs := h.store.sat d off x hg
     refine ⟨?_, hs.2⟩
     by_cases hbd : b = some d ∧ o = .buf e k ls pq
     ·exact hold d off x hbd.1 hg
     ·rw [World.cell?_of_block (w := w) (hf.block d (h.store.jH hg) hbd)]; exact hs.1
  ·rw [List.getElem?_set_ne (Ne.symm hj)] at h1
   obtain ⟨o2, h2, h3⟩ := hob2.2 j o1 h1
   exact ⟨o2, h2, gX.kO hkl h3⟩
  ·by_cases hj : j = i
   ·subst hj
    rw [List.getElem?_set_self (by rw [hob2.1]; exact hi)] at h1
    cases h1
   ·rw [List.getElem?_set_ne (Ne.symm hj)] at h1
    obtain ⟨o2, h2, h3⟩ := hob2.2 j _ h1
    have h4 : o2 = .jk q f dn cur := by
     cases o2 <;> simp only [Ob.kO, Option.bind_eq_some_iff, Option.some.injEq] at h3
     case cells => obtain ⟨_, _, h3⟩ := h3; cases h3
     all_goals (cases h3; try rfl)
    subst h4
    have h5 := h.store.dQ j q f dn cur h2
    have hq : q ≠ i := fun e => by subst e; rw [ho] at h5; cases h5; rcases hor with hor | hor <;> cases hor
    rw [List.getElem?_set_ne (Ne.symm hq)]
    have h6 : q < ob'.length := by rw [hob2.1]; exact (List.getElem?_eq_some_iff.1 h5).1
    obtain ⟨o3, h7, h8⟩ := hob2.2 q ob'[q] (by simp [h6])
    rw [h5] at h7; cases h7
    simp [Ob.kO] at h8
    rw [List.getElem?_eq_getElem h6, ← h8]
  ·rw [List.getElem?_set_ne (Ne.symm hj)] at h1
   obtain ⟨o2, h2, h3⟩ := hob2.2 j _ h1
   have h4 : o2 = .jk q f dn cur := by
    cases o2 <;> simp only [Ob.kO, Option.bind_eq_some_iff, Option.some.injEq] at h3
    case cells => obtain ⟨_, _, h3⟩ := h3; cases h3
    all_goals (cases h3; try rfl)
   have hk : q = i := hk
   subst h4 hk
   have h5 := h.store.dQ j _ f dn cur h2
   rw [ho] at h5; cases h5; rcases hor with hor | hor <;> cases hor
  ·cases hx : m' d off with
   | none => exact hx
   | some x => exact absurd (hnew d off x hx hn) (hne j o1 q d hj h1 h2 h3).2
  ·subst hj
   rw [List.getElem?_set_self (by rw [hob2.1]; exact hi)] at h1
   cases h1
   exact ⟨_, hself, hok⟩
  ·subst hj
   rw [List.getElem?_set_self (by rw [hob2.1]; exact hi)] at h1
   cases h1
   simp only at h2
   rw [hself] at h2; cases h2
   simp only [cO, dA, Option.some.injEq] at h3
   subst h3
   rcases hc with hc | hc
   ·exact .inl ⟨_, o, _, rfl, ho, hpl, hbr _ hc⟩
   ·exact .inr hc
 ·have hX : ∀ d, b = some d ∧ o = .buf e k ls pq → B.X d ∨ B.w.heap.size ≤ d := fun d hd => h.iR.own i o _ d ho hpl (hbr d hd)
  refine h.iR.step hf hX hm (fun d off x hx hn => by
   have := hnew d off x hx hn
   subst this; exact hc) (fun j o1 p d h1 h2 h3 => ?_) hat
  by_cases hj : j = i
  ·subst hj
   rw [List.getElem?_set_self (by rw [hob2.1]; exact hi)] at h1
   cases h1
   simp only at h2
   rw [hself] at h2; cases h2
   simp only [cO, dA, Option.some.injEq] at h3
   subst h3
   rcases hc with hc | hc
   ·exact .inl (hX _ hc)
   ·exact .inr hc
  ·rw [List.getElem?_set_ne (Ne.symm hj)] at h1
   simp only at h2
   rw [List.getElem?_set_ne (Ne.symm hj)] at h2
   obtain ⟨o2, h4, h5⟩ := hob2.2 j o1 h1
   refine .inl (h.iR.own j o2 p d h4 h2 ?_)
   rcases (gX.kO hkl h5).bZ h3 (fun _ _ => trivial) with h6 | ⟨e', k', rfl⟩
   ·exact h6
   ·simp [Ob.kO] at h5; subst h5; simp [cO, dA] at h3
end
section
variable {P : Program} {GL : Nat → List D} {n0 : Nat} {Pn : oR}
theorem rM {m : Mem} {k b : Nat} : ∀ {news : List (List D)} {off : Nat}, dM m k b off news → ∃ nv, nv.length = news.length * k ∧ dk m news.flatten nv ∧ (∀ i x, nv[i]? = some x → m b (off + i) = some x) ∧ ∀ e ∈ news, e.length = k
 | [], off, _ => ⟨[], by simp, rfl, by simp, by simp⟩
 | e :: r, off, ⟨⟨h0, h1⟩, h2⟩ => by
  obtain ⟨vs, hv, hc⟩ := h1.Dd
  obtain ⟨nv, h3, h4, h5, h6⟩ := rM h2
  have hl := hv.length
  refine ⟨vs ++ nv, by simp [h3, hl, h0, Nat.add_mul]; omega, by simpa using hv.append h4, fun i x hx => ?_, fun a ha => by
   rcases List.mem_cons.1 ha with rfl | ha
   ·exact h0
   ·exact h6 a ha⟩
  rw [List.getElem?_append] at hx
  split at hx
  ·exact hc i x hx
  ·have := h5 _ x hx
   rwa [show off + k + (i - vs.length) = off + i by omega] at this
variable {o : Oper} {n t i m size bytes : Nat} {sl sl' : List (Nat × SV)} {ob ob1 ob' : List Ob} {K : St → Prop} {ty e : TypeId} {s x : Operand} {sx : SV}
theorem uq {ls news : List (List D)} {pq : Option (Option Nat × Nat)} {or : Ob} (TS : je P ty e size bytes) (ho : o.op = .call { callee := .builtin .append, args := #[s, x], argTypes := #[ty, ty] })
 (hd : o.dst = some t) (ht : Nat.blt t n = true) (hs : (bJ GL sl s = some (.arr i m) ∧ or = .buf e size ls pq) ∨ (bJ GL sl s = some (.d (.v (.slice none 0 0))) ∧ ls = [] ∧ or = .bP e size)) (hi : cC i ob = some or) (hx : bJ GL sl x = some sx) (hxD : sx.gp = some (.sl size news))
 (hsz : 0 < size) (hne : news ≠ []) (h63 : ls.length + news.length ≤ maxLen ∧ (ls.length + news.length) * bytes ≤ 140737488355328) (hsl : yq i sl = some sl') (hob : yr i ob = some ob1) (hob' : hJ i (.buf e size (ls ++ news) none) ob1 = some ob')
 (h : K ⟨n, (t, .arr i (ls ++ news).length) :: sl', ob'⟩) : de P GL n0 Pn (fun j => j = i) o ⟨n, sl, ob⟩ K := fun B hB g a w hr next Q hK hP => by
 have hi' := bL hi
 rw [(eH hob').1] at h
 have hrow : ∃ b cap xs, g.gs[i]? = some (.row b cap ls.length) ∧ a.eval s = .slice (b.map fun b => ⟨b, 0, none⟩) ls.length cap ∧ w.ownsRow 0 e size (a.eval s) ls.length xs ∧ dk g.m ls.flatten xs ∧ (∀ u ∈ xs, u.oneCell' = true) ∧ (∀ c, b = some c → ∀ o, g.m c o = none) ∧ (∀ x ∈ ls, x.length = size) := by
  rcases hs with ⟨hs, rfl⟩ | ⟨hs, rfl, rfl⟩
  ·obtain ⟨b, cap, h1, h2⟩ := hr.fo hs
   obtain ⟨hm, hl, ⟨xs, hown, hdx, h1x⟩, hmn⟩ := vn hr.store hi' h1
   subst hm
   exact ⟨b, cap, xs, h1, h2, by rw [h2]; exact hown, hdx, h1x, hmn, hl⟩
  ·have hv : a.eval s = .slice none 0 0 := hr.fo hs
   obtain ⟨p, hp⟩ := hr.store.place hi'
   have hok := hr.store.gM _ _ _ hi' hp
   simp only [ef] at hok; subst hok
   exact ⟨none, 0, [], hp, hv, by rw [hv]; exact ⟨by simp, .inl ⟨rfl, rfl⟩⟩, rfl, (by simp), (fun c hc => by cases hc), (by simp)⟩
 obtain ⟨b, cap, xs, hpl, hval, hown, hdx, h1x, hmn, hll⟩ := hrow
 obtain ⟨ax, capx, hvx, hlx, hdx0⟩ := SV.Den.gp _ (hr.fo hx) hxD
 obtain ⟨bx, offx, rfl, hdx2⟩ := hdx0 hne
 obtain ⟨nv, hnl, hnd, hnv, hnk⟩ := rM hdx2
 have hm : 0 < news.length := List.length_pos_iff.2 hne
 have hncell : ∀ j u, nv[j]? = some u → w.cell? ((⟨bx, offx, none⟩ : Addr).add j) = some u := fun j u hu => by
  rw [eS]; exact (hr.store.sat _ _ _ (hnv j u hu)).1
 have hnone : ∀ u ∈ nv, u.oneCell' = true := fun u hu => by
  obtain ⟨j, hj⟩ := List.getElem?_of_mem hu
  exact (hr.store.sat _ _ _ (hnv j u hj)).2
 obtain ⟨v', w', hrun, hrow', hfr0, k, hk1, hk2, hk3, c', rfl⟩ := Cr (P := P) (ty := o.type) TS hsz hown (a := ⟨bx, offx, none⟩) (c := capx) hnl hm hncell hnone h63.1 h63.2
 have hrun2 : (execOp a.eval o).run P w = .ok (.value (.slice (some ⟨k, 0, none⟩) (ls.length + news.length) c')) w' := by
  unfold execOp
  simp only [ho, resolve, invoke, builtin, Sem.run_bind, Sem.run_pure, Result.andThen_ok, List.map_toArray, List.map_cons, List.map_nil, hvx, hrun]
 unfold Oper.wp
 rw [hrun2]
 show next (a.put o.dst _) _
 rw [hd]
 have hob2 : (a.eval s).ownBlock = b := by rw [hval]; cases b <;> rfl
 rw [hob2] at hk2
 have hnk0 : ∀ off, g.m k off = none := fun off => by
  rcases hk2 with h5 | h5
  ·exact hmn k h5 off
  ·cases hx : g.m k off with
   | none => rfl
   | some y => have := hr.store.jH hx; omega
 have hbo : ∀ d, b = some d → or = .buf e size ls pq := fun d hd => by
  rcases hs with ⟨_, h6⟩ | ⟨_, _, rfl⟩
  ·exact h6
  ·have hok := hr.store.gM _ _ _ hi' hpl
   simp only [ef, Pl.row.injEq] at hok
   rw [hok.1] at hd; cases hd
 have hor : or = .buf e size ls pq ∨ or = .bP e size := by
  rcases hs with ⟨_, h6⟩ | ⟨_, _, h6⟩
  ·exact .inl h6
  ·exact .inr h6
 have hfr2 : Fr (fun c => b = some c ∧ or = .buf e size ls pq) w w' := hfr0.mono fun c _ hc => by
  have h8 : b = some c := by rw [← hob2]; exact hc.1
  exact ⟨h8, hbo c h8⟩
 have hcor : (b = some k ∧ or = .buf e size ls pq) ∨ w.heap.size ≤ k := by
  rcases hk2 with h5 | h5
  ·exact .inl ⟨h5, hbo k h5⟩
  ·exact .inr (by omega)
 obtain ⟨h1, h2⟩ := hr.KG (w' := w') (m' := g.m) (cap' := c') (n' := ls.length + news.length) (ls' := ls ++ news) hi' hor hpl hfr2 (gg.refl _) hcor (fun d off y h1 h2 => by rw [h2] at h1; cases h1) (fun off y hy => by rw [hnk0] at hy; cases hy) (fun d off y hd hy => by rw [hmn d hd] at hy; cases hy)
  ⟨by simp, fun y hy => by
   rcases List.mem_append.1 hy with hy | hy
   ·exact hll y hy
   ·exact hnk y hy, ⟨xs ++ nv, hrow', by rw [List.flatten_append]; exact hdx.append hnd, fun u hu => by
   rcases List.mem_append.1 hu with hu | hu
   ·exact h1x u hu
   ·exact hnone u hu⟩, (fun c hc off => by cases hc; exact hnk0 off), fun r e => by cases e⟩ hsl hob
 refine hK _ _ _ _ (h1.qp (s := .arr i (ls ++ news).length) ht ⟨some k, c', ?_, by rw [List.length_append]; rfl⟩) h2 h
 show (g.gs.set i _)[i]? = _
 rw [List.getElem?_set_self (List.getElem?_eq_some_iff.1 hpl).1, List.length_append]
theorem vL {ls news : List (List D)} {pq : Option (Option Nat × Nat)} (TS : je P ty e size bytes) (ho : o.op = .call { callee := .builtin .append, args := #[s, x], argTypes := #[ty, ty] })
 (hd : o.dst = some t) (ht : Nat.blt t n = true) (hs : bJ GL sl s = some (.arr i m)) (hi : cC i ob = some (.buf e size ls pq)) (hx : bJ GL sl x = some sx) (hxD : sx.gp = some (.sl size news))
 (hsz : 0 < size) (hne : news ≠ []) (h63 : ls.length + news.length ≤ maxLen ∧ (ls.length + news.length) * bytes ≤ 140737488355328) (hsl : yq i sl = some sl') (hob : yr i ob = some ob1) (hob' : hJ i (.buf e size (ls ++ news) none) ob1 = some ob')
 (h : K ⟨n, (t, .arr i (ls ++ news).length) :: sl', ob'⟩) : de P GL n0 Pn (fun j => j = i) o ⟨n, sl, ob⟩ K := uq TS ho hd ht (.inl ⟨hs, rfl⟩) hi hx hxD hsz hne h63 hsl hob hob' h
end
end Go.Vd
namespace Go.Vd
open Go Go.RowKit
variable {cap : Nat}
theorem yH {m : Mem} {k : Nat} {ls : List (List D)} {ad : Option Addr} (l h : Nat) (hlh : l ≤ h) (hh : h ≤ ls.length) (hcap : ls.length ≤ cap) (hden : ls ≠ [] → ∃ b off, ad = some ⟨b, off, none⟩ ∧ dM m k b off ls) :
 (D.sl k ((ls.drop l).take (h - l))).Den m (.slice (if cap = l then ad else ad.map (·.add (l * k))) (h - l) (cap - l)) := by
 have hlen : ((ls.drop l).take (h - l)).length = h - l := by rw [List.length_take, List.length_drop]; omega
 refine ⟨_, cap - l, by rw [hlen], by omega, fun hne => ?_⟩
 have hl : l < h := by
  rcases Nat.lt_or_ge l h with h1 | h1
  ·exact h1
  ·exact absurd (List.eq_nil_of_length_eq_zero (by omega)) hne
 obtain ⟨b, off, rfl, hd⟩ := hden (by intro e; rw [e] at hh; simp at hh; omega)
 rw [if_neg (by omega)]
 refine ⟨b, off + l * k, by rw [Option.map_some, eS], (hd.drop _).take _⟩
section
variable {P : Program} {GL : Nat → List D} {o : Oper} {σ : St} {K : SV → List Nat → Prop} {T : TypeId} {x lo hi : Operand} {k : Nat} {ls ls' : List (List D)} {l h : Int} {k1 k2 : IntKind} {s : SV} {ti : TI}
theorem u0 (hu : P.underlying T = some (.slice (bc P T).elem)) (hT : bc P (bc P T).elem = ti) (hok : ti.ok = true) (hs : ti.size = k)
 (ho : o.op = .slice T x (some lo) none none) (hx : bJ GL σ.sl x = some s) (hxD : s.gp = some (.sl k ls)) (hl : bJ GL σ.sl lo = some (.d (.v (.int k1 l)))) (hb : 0 ≤ l ∧ l ≤ ls.length)
 (hls : ls.drop l.toNat = ls') (hK : K (.d (.sl k ls')) []) : aj P GL o σ K := eF fun B g a w hr => by
 obtain ⟨ad, cap, e1, hcap, hden⟩ := SV.Den.gp _ (hr.fo hx) hxD
 have e2 : a.eval lo = .int k1 l := hr.fo hl
 rw [← hT] at hok hs
 obtain ⟨inf, d, hi', hd', hs', _⟩ := rS hok
 rw [hs] at hs'
 have hp := yH l.toNat ls.length (by omega) (Nat.le_refl _) hcap hden
 rw [List.take_of_length_le (by rw [List.length_drop]; omega), hls] at hp
 refine ⟨.d (.sl k ls'), _, fun w' => ?_, hp, hK⟩
 have h3 := jv (P := P) (kd := k1) (i := l) (y := ls.length) (c := .sliceB) (by omega) (by omega) w'
 simp only [execOp, ho, e1, e2, Option.map_some, Option.map_none, Sem.run_bind]
 simp [Instr.sliceAt, Instr.slice, run_underlying hu, Instr.sliceBounds, h3, sizeOf, typeInfo, hi', ← hs']
theorem gT (hu : P.underlying T = some (.slice (bc P T).elem)) (hT : bc P (bc P T).elem = ti) (hok : ti.ok = true) (hs : ti.size = k)
 (ho : o.op = .slice T x none (some hi) none) (hx : bJ GL σ.sl x = some s) (hxD : s.gp = some (.sl k ls)) (hh : bJ GL σ.sl hi = some (.d (.v (.int k2 h)))) (hb : 0 ≤ h ∧ h ≤ ls.length)
 (hls : ls.take h.toNat = ls') (hK : K (.d (.sl k ls')) []) : aj P GL o σ K := eF fun B g a w hr => by
 obtain ⟨ad, cap, e1, hcap, hden⟩ := SV.Den.gp _ (hr.fo hx) hxD
 have e3 : a.eval hi = .int k2 h := hr.fo hh
 rw [← hT] at hok hs
 obtain ⟨inf, d, hi', hd', hs', _⟩ := rS hok
 rw [hs] at hs'
 have hp := yH 0 h.toNat (by omega) (by omega) hcap hden
 rw [List.drop_zero, Nat.sub_zero, Nat.zero_mul, hls] at hp
 refine ⟨.d (.sl k ls'), _, fun w' => ?_, hp, hK⟩
 have h2 := jv (P := P) (kd := k2) (i := h) (y := cap) (c := .sliceAcap) (by omega) (by omega) w'
 simp only [execOp, ho, e1, e3, Option.map_some, Option.map_none, Sem.run_bind]
 simp [Instr.sliceAt, Instr.slice, run_underlying hu, Instr.sliceBounds, h2, sizeOf, typeInfo, hi', ← hs']
variable {w : World} {ty e : TypeId} {size bytes n : Nat}
theorem EP {ty' : TypeId} {base a : Option Addr} {cap' : Nat} (TS : je P ty e size bytes) (hle : n ≤ cap) : (Builtin.append_ #[ty, ty] ty' #[.slice base n cap, .slice a 0 cap']).run P w = .ok (.slice base n cap) w := by
 obtain ⟨i, hi, hi2⟩ := Option.map_eq_some_iff.1 TS.info
 refine run_append_nothing w ty ty ty' e i TS.under hi base n cap hle _ ?_
 cases a with
 | none => exact Src.ofNil w TS.under cap'
 | some a => exact Src.ofSlice w TS.under a 0 cap' [] (by simp) (by simp) (by simp)
end
variable {n i : Nat} {sl sl' : List (Nat × SV)} {ob ob1 : List Ob} {w : World} {e : TypeId}
theorem cT.K8 {P : Program} {GL : Nat → List D} {B : Bs} {g : Gh} {a : Act} (h : cT GL B ⟨n, sl, ob⟩ g a w) {o : Ob} {k : Nat} (ho : ob[i]? = some o) (hor : o = .row e k ∨ o = .bP e k)
 (hsl : yq i sl = some sl') (hob : yr i ob = some ob1) : cT GL B ⟨n, sl', ob1.set i (.row e k)⟩ g a w := by
 have hkl : Io (fun j => Nat.beq j i) g g := ⟨gg.refl _, fun _ _ h _ => h, fun _ _ h => h⟩
 have hob2 := o6 hob
 have hi := (List.getElem?_eq_some_iff.1 ho).1
 have hlen := h.store.len
 have hself : (ob1.set i (.row e k))[i]? = some (.row e k) := List.getElem?_set_self (by omega)
 have hrow : ∀ p, g.gs[i]? = some p → gX g g o (.row e k) := fun p hp => by rcases hor with rfl | rfl <;> exact ⟨rfl, rfl⟩
 have hle : ∀ (j : Nat) o', (ob1.set i (.row e k))[j]? = some o' → ∃ o, ob[j]? = some o ∧ gX g g o o' := fun j o' hj => by
  by_cases hji : j = i
  ·subst hji
   rw [hself] at hj; cases hj
   obtain ⟨p, hp⟩ := h.store.place ho
   exact ⟨o, ho, hrow p hp⟩
  ·rw [List.getElem?_set_ne (Ne.symm hji)] at hj
   obtain ⟨o2, h2, h3⟩ := hob2.2 j o' hj
   exact ⟨o2, h2, gX.kO hkl h3⟩
 refine ⟨h.defers, h.size, fun t => ?_, ?_, ?_⟩
 ·show (nf t sl').Den _ _
  rw [qB hsl]
  exact SV.Den.kill hkl _ (h.di t)
 ·refine h.store.step (p := fun _ => False) (gg.refl _) (fun _ _ h => h) (fun _ _ _ h => h) h.store.sat (by rw [List.length_set, hob2.1]; exact hlen) (fun j o' _ hj => hle j o' hj) (fun j q f dn cur h1 => ?_) (fun _ _ _ _ _ _ _ h => h)
   (fun _ _ _ _ _ _ _ _ => ⟨rfl, fun _ h => h⟩) (fun _ _ h => h.elim) (fun _ _ _ _ h => h.elim) (fun _ _ _ _ _ _ _ h => h.elim)
  by_cases hj : j = i
  ·subst hj
   rw [hself] at h1; cases h1
  ·rw [List.getElem?_set_ne (Ne.symm hj)] at h1
   obtain ⟨o2, h2, h3⟩ := hob2.2 j _ h1
   have h4 : o2 = .jk q f dn cur := by
    cases o2 <;> simp only [Ob.kO, Option.bind_eq_some_iff, Option.some.injEq] at h3
    case cells => obtain ⟨_, _, h3⟩ := h3; cases h3
    all_goals (cases h3; try rfl)
   subst h4
   have h5 := h.store.dQ j q f dn cur h2
   have hq : q ≠ i := fun e => by subst e; rw [ho] at h5; cases h5; rcases hor with hor | hor <;> cases hor
   rw [List.getElem?_set_ne (Ne.symm hq)]
   have h6 : q < ob1.length := by rw [hob2.1]; exact (List.getElem?_eq_some_iff.1 h5).1
   obtain ⟨o3, h7, h8⟩ := hob2.2 q ob1[q] (by simp [h6])
   rw [h5] at h7; cases h7
   simp [Ob.kO] at h8
   rw [List.getElem?_eq_getElem h6, ← h8]
 ·refine ⟨h.iR.fr, h.iR.mem, h.iR.new, fun j o' p b h1 h2 h3 => ?_, h.iR.at'⟩
  obtain ⟨o2, h4, h5⟩ := hle j o' h1
  rcases h5.bZ h3 (fun _ _ => trivial) with h6 | ⟨e2, k2, rfl⟩
  ·exact h.iR.own j o2 p b h4 h2 h6
  ·have hok := h.store.gM j _ p h4 h2
   simp only [ef] at hok; subst hok
   cases o' <;> first | exact False.elim h5 | (simp [cO, dA] at h3)
variable {n0 t size bytes : Nat} {Pn : oR} {ob' : List Ob} {ty : TypeId} {sx : SV}
theorem lj {P : Program} {GL : Nat → List D} {o : Oper} {K : St → Prop} {s x : Operand} {ls news : List (List D)} {or : Ob} (TS : je P ty e size bytes) (ho : o.op = .call { callee := .builtin .append, args := #[s, x], argTypes := #[ty, ty] })
 (hd : o.dst = some t) (ht : Nat.blt t n = true) (hs : bJ GL sl s = some (.own i size ls) ∨ (bJ GL sl s = some (.d (.v (.slice none 0 0))) ∧ ls = [] ∧ or = .bP e size)) (hx : bJ GL sl x = some sx) (hxD : sx.gp = some (.sl size news)) (hi : cC i ob = some or) (hor : or = .row e size ∨ or = .bP e size)
 (hsz : 0 < size) (h63 : ls.length + news.length ≤ maxLen ∧ (ls.length + news.length) * bytes ≤ 140737488355328) (hsl : yq i sl = some sl') (hob : yr i ob = some ob1) (hob' : hJ i (.row e size) ob1 = some ob')
 (h : K ⟨n, (t, .own i size (ls ++ news)) :: sl', ob'⟩) : de P GL n0 Pn (fun j => j = i) o ⟨n, sl, ob⟩ K := by
 by_cases hne : news = []
 ·subst hne
  rw [List.append_nil] at h
  intro B hB g a w hr next Q hK hP
  have hi' := bL hi
  have hval : ∃ b cap, g.gs[i]? = some (.row b cap ls.length) ∧ a.eval s = .slice (b.map fun b => ⟨b, 0, none⟩) ls.length cap ∧ ls.length ≤ cap ∧ (ls ≠ [] → ∃ c, b = some c ∧ dM g.m size c 0 ls) := by
   rcases hs with hs | ⟨hs, rfl, rfl⟩
   ·obtain ⟨b, cap, h1, h2, h3, h4⟩ := hr.fo hs
    exact ⟨b, cap, h1, h2, h3, h4⟩
   ·have hv : a.eval s = .slice none 0 0 := hr.fo hs
    obtain ⟨p, hp⟩ := hr.store.place hi'
    have hok := hr.store.gM _ _ _ hi' hp
    simp only [ef] at hok; subst hok
    exact ⟨none, 0, hp, hv, Nat.le_refl _, fun h => absurd rfl h⟩
  obtain ⟨b, cap, hpl, hv, hc, hden⟩ := hval
  obtain ⟨ax, capx, hvx, _, _⟩ := SV.Den.gp _ (hr.fo hx) hxD
  have hrun : (execOp a.eval o).run P w = .ok (.value (.slice (b.map fun b => ⟨b, 0, none⟩) ls.length cap)) w := by
   unfold execOp
   simp only [ho, resolve, invoke, builtin, Sem.run_bind, Sem.run_pure, Result.andThen_ok, List.map_toArray, List.map_cons, List.map_nil, hv, hvx, List.length_nil, EP TS hc]
  unfold Oper.wp
  rw [hrun]
  show next (a.put o.dst _) _
  rw [hd]
  have h1 := hr.K8 (P := P) hi' hor hsl hob
  rw [(eH hob').1] at h
  exact hK _ _ _ _ (h1.qp (s := .own i size ls) ht ⟨b, cap, hpl, rfl, hc, hden⟩) (qP.refl _ _ _ _) h
 ·exact nx TS ho hd ht hs hi hor (fun B g a w hr => SV.Den.gp _ (hr.fo hx) hxD) hsz hne h63.1 h63.2 hsl hob hob' h
theorem gL {P : Program} {GL : Nat → List D} {o : Oper} {k : Nat} {ob2 : List Ob} {K : St → Prop} {s x : Operand} {news : List (List D)} (TS : je P ty e size bytes) (ho : o.op = .call { callee := .builtin .append, args := #[s, x], argTypes := #[ty, ty] })
 (hd : o.dst = some t) (ht : Nat.blt t n = true) (hs : bJ GL sl s = some (.d (.v (.slice none 0 0)))) (hx : bJ GL sl x = some sx) (hxD : sx.gp = some (.sl size news)) (hl : ob.length = k) (hob0 : iX ob [.bP e size] = some ob1) (hi : cC k ob1 = some (.bP e size))
 (hsz : 0 < size) (h63 : news.length ≤ maxLen ∧ news.length * bytes ≤ 140737488355328) (hsl : yq k sl = some sl') (hob : yr k ob1 = some ob2) (hob' : hJ k (.row e size) ob2 = some ob')
 (h : K ⟨n, (t, .own k size news) :: sl', ob'⟩) {T : Nat → Prop} : de P GL n0 Pn T o ⟨n, sl, ob⟩ K :=
 wL (T' := fun j => j = k) e size hob0 (fun i hi hx => by omega) (lj (ls := []) TS ho hd ht (.inr ⟨hs, rfl, rfl⟩) hx hxD hi (.inr rfl) hsz (by simpa using h63) hsl hob hob' h)
end Go.Vd
namespace Go.Vd
open Go Go.RowKit
section
variable {P : Program} {GL : Nat → List D} {n0 : Nat} {Pn : oR}
variable {o : Oper} {n t : Nat} {sl : List (Nat × SV)} {ob : List Ob} {K : St → Prop}
theorem xL {i m e k : Nat} {sl' : List (Nat × SV)} {ob1 ob' : List Ob} {T : TypeId} {x hi : Operand} {ls : List (List D)} {pq : Option (Option Nat × Nat)} {h : Int} {k2 : IntKind} {ti : TI} (hu : P.underlying T = some (.slice (bc P T).elem)) (hT : bc P (bc P T).elem = ti) (hok : ti.ok = true) (hs : ti.size = k)
 (ho : o.op = .slice T x none (some hi) none) (hd : o.dst = some t) (ht : Nat.blt t n = true) (hx : bJ GL sl x = some (.arr i m)) (hh : bJ GL sl hi = some (.d (.v (.int k2 h)))) (hi' : cC i ob = some (.buf e k ls pq)) (hb : 0 ≤ h ∧ h ≤ m) (hne : 0 < m)
 (hsl : yq i sl = some sl') (hob : yr i ob = some ob1) (hob' : hJ i (.buf e k (ls.take h.toNat) none) ob1 = some ob')
 (hK0 : K ⟨n, (t, .arr i h.toNat) :: sl', ob'⟩) : de P GL n0 Pn (fun j => j = i) o ⟨n, sl, ob⟩ K := fun B hB g a w hr next Q hK hP => by
 have hi2 := bL hi'
 rw [(eH hob').1] at hK0
 obtain ⟨b, cap, hpl, hv⟩ := hr.fo hx
 obtain ⟨hm, hl, ⟨xs, hown, hdx, h1x⟩, hmn⟩ := vn hr.store hi2 hpl
 have hown0 := hown
 rcases hown.2 with ⟨h2, h3⟩ | ⟨b1, cap1, cur, e1, hb0, hhp, hle, hcm, hcs, htk⟩
 ·omega
 cases b with
 | none => simp at e1
 | some b =>
 simp only [Option.map_some, Value.slice.injEq, Option.some.injEq, Addr.mk.injEq] at e1
 obtain ⟨⟨rfl, _, _⟩, _, rfl⟩ := e1
 simp only [Option.map_some] at hv
 have e3 : a.eval hi = .int k2 h := hr.fo hh
 rw [← hT] at hok hs
 obtain ⟨inf, d, hinf, hdd, hs', _⟩ := rS hok
 rw [hs] at hs'
 have h2 := jv (P := P) (kd := k2) (i := h) (y := cap) (c := .sliceAcap) (by omega) (by omega) w
 have hrun : (execOp a.eval o).run P w = .ok (.value (.slice (some ⟨b, 0, none⟩) h.toNat cap)) w := by
  simp only [execOp, ho, hv, e3, Option.map_some, Option.map_none, Sem.run_bind]
  have hc0 : ¬ cap = 0 := by omega
  simp [Instr.sliceAt, Instr.slice, run_underlying hu, Instr.sliceBounds, h2, sizeOf, typeInfo, hinf, ← hs', hc0, eS]
 unfold Oper.wp
 rw [hrun]
 show next (a.put o.dst _) _
 rw [hd]
 have hth : (ls.take h.toNat).length = h.toNat := by rw [List.length_take]; omega
 have hdt : dk g.m (ls.take h.toNat).flatten (xs.take (h.toNat * k)) := by
  have h5 : ls.flatten = (ls.take h.toNat).flatten ++ (ls.drop h.toNat).flatten := by rw [← List.flatten_append, List.take_append_drop]
  have h6 := sQ (k := k) (ls := ls.take h.toNat) fun x hx => hl x (List.mem_of_mem_take hx)
  rw [hth] at h6
  rw [h5] at hdx
  have h7 := (dk.split hdx).1
  rw [h6] at h7
  exact h7
 have hmk : h.toNat * k ≤ m * k := Nat.mul_le_mul_right k (by omega)
 obtain ⟨h1, h2⟩ := hr.KG (w' := w) (m' := g.m) (c := b) (cap' := cap) (n' := h.toNat) (ls' := ls.take h.toNat) hi2 (.inl rfl) hpl (Fr.refl _ _) (gg.refl _) (.inl ⟨rfl, rfl⟩) (fun d off y h1 h2 => by rw [h2] at h1; cases h1) (fun off y hy => hr.store.sat _ _ _ hy) (fun d off y hd hy => (hr.store.sat _ _ _ hy).1)
  ⟨hth.symm, fun y hy => hl y (List.mem_of_mem_take hy), ⟨xs.take (h.toNat * k), ⟨by rw [List.length_take, hown0.1]; omega, .inr ⟨b, cap, cur, rfl, hb0, hhp, by omega, hcm, hcs, by rw [← htk, List.take_take, Nat.min_eq_left hmk]⟩⟩, hdt, fun u hu => h1x u (List.mem_of_mem_take hu)⟩, fun c hc off => by cases hc; exact hmn b rfl off, fun r e => by cases e⟩ hsl hob
 refine hK _ _ _ _ (h1.qp (s := .arr i h.toNat) ht ⟨some b, cap, ?_, rfl⟩) h2 hK0
 show (g.gs.set i _)[i]? = _
 rw [List.getElem?_set_self (List.getElem?_eq_some_iff.1 hpl).1]
theorem ot {T : Nat → Prop} (hd : o.dst = some t) (ht : Nat.blt t n = true) (h : aj P GL o ⟨n, sl, ob⟩ fun s _ => K ⟨n, (t, s) :: sl, ob⟩) : de P GL n0 Pn T o ⟨n, sl, ob⟩ K :=
 qu hd ht fun B g a w hr => by
  obtain ⟨Hc, s, y, L, h1, h2, _, h4, h5⟩ := h B g a w hr
  exact ⟨s, y, h1 w h2, h4, h5⟩
end
end Go.Vd
namespace Go.Vd
open Go Go.RowKit
section
variable {P : Program} {GL : Nat → List D} {n0 : Nat} {Pn : oR}
variable {o : Oper} {n t k : Nat} {sl : List (Nat × SV)} {ob ob' : List Ob} {K : St → Prop} {T : Nat → Prop} {ty : TypeId}
theorem zb (ho : o.op = .makeMap ty none) (hd : o.dst = some t) (ht : Nat.blt t n = true) (hl : ob.length = k) (hob : iX ob [.cz fun _ => none] = some ob')
 (h : K ⟨n, (t, .map k) :: sl, ob'⟩) : de P GL n0 Pn T o ⟨n, sl, ob⟩ K := fun B hB g a w hr next Q hK hP => by
 subst hl
 rw [fO hob] at h
 have hrun : (execOp a.eval o).run P w = .ok (.value (.map (some w.heap.size))) (w.alloc (.map #[] 0)) := by
  simp only [execOp, ho, Option.map_none, Sem.run_bind, Sem.run_pure, run_makeMap, Result.andThen_ok]
 have hmn : ∀ o, g.m w.heap.size o = none := fun o => by
  cases hx : g.m w.heap.size o with
  | none => rfl
  | some x => have := hr.store.jH hx; omega
 obtain ⟨h1, h2⟩ := hr.Bc ((Fr.refl _ w).alloc (.map #[] 0)) (gg.refl _) (fun b o x h1 h2 => by rw [h2] at h1; cases h1) (o' := .cz fun _ => none) (pl := .loc w.heap.size) ⟨⟨_, kI.made w, fun s => rfl⟩, hmn⟩ (fun b hb => by simp only [cO, dA, Option.some.injEq] at hb; omega) (fun i f dn cur e => by cases e)
 unfold Oper.wp
 rw [hrun]
 show next (a.put o.dst _) _
 rw [hd]
 exact hK _ _ _ _ (h1.qp (s := .map ob.length) ht ⟨w.heap.size, by rw [hr.store.len]; simp, rfl⟩) ⟨h2.1, fun i b o _ => h2.2 i b o (fun x => x)⟩ h
variable {e : TypeId} {x y : Operand} {i : Nat} {f : ByteArray → Option D} {s : ByteArray}
theorem nu {k : TypeId} (hm : Cd P ty k e) (ho : o.op = .lookup ty x y false) (hd : o.dst = some t) (ht : Nat.blt t n = true)
 (hx : bJ GL sl x = some (.map i)) (hy : bJ GL sl y = some (.d (.v (.string s)))) (hi : cC i ob = some (.cz f)) (h : K ⟨n, (t, .d ((f s).getD (.v (.pointer none)))) :: sl, ob⟩) : de P GL n0 Pn T o ⟨n, sl, ob⟩ K :=
 qu hd ht fun B g a w hr => by
  obtain ⟨b, hb, hbe⟩ := hr.fo hx
  have hye : a.eval y = .string s := hr.fo hy
  obtain ⟨⟨M, hmap, hden⟩, _⟩ := hr.store.gM _ _ _ (bL hi) hb
  have hrun := hmap.lookup hm.under hm.key hm.zero s
  refine ⟨_, (M s).getD (.pointer none), by simp only [execOp, ho, hbe, hye, Sem.run_bind, hrun, Result.andThen_ok, Sem.run_pure], ?_, h⟩
  have h1 := hden s
  show D.Den g.m _ _
  cases hf : f s with
  | none => rw [hf] at h1; simp only at h1; rw [h1]; rfl
  | some d =>
   rw [hf] at h1
   obtain ⟨v, h2, h3⟩ := h1
   rw [h2]; exact h3
def p9 (f : ByteArray → Option D) (s : ByteArray) (d : D) : ByteArray → Option D := fun t => if t = s then some d else f t
theorem pV {k : TypeId} {z : Operand} {d : D} (hm : Cd P ty k e) (ho : o.op = .mapUpdate ty x y z) (hd : o.dst = none)
 (hx : bJ GL sl x = some (.map i)) (hy : bJ GL sl y = some (.d (.v (.string s)))) (hz : bJ GL sl z = some (.d d)) (hi : cC i ob = some (.cz f)) (hno : fF i ob = true) (hob : hJ i (.cz (p9 f s d)) ob = some ob') (h : K ⟨n, sl, ob'⟩) : de P GL n0 Pn (fun j => j = i) o ⟨n, sl, ob⟩ K := fun B hB g a w hr next Q hK hP => by
 obtain ⟨b, hb, hbe⟩ := hr.fo hx
 have hye : a.eval y = .string s := hr.fo hy
 have hze : d.Den g.m (a.eval z) := hr.fo hz
 obtain ⟨⟨M, hmap, hden⟩, hmn⟩ := hr.store.gM _ _ _ (bL hi) hb
 obtain ⟨w', hrun, hm', hfr⟩ := hmap.update hm.under hm.key s (a.eval z)
 have hrun2 : (execOp a.eval o).run P w = .ok .skip w' := by simp only [execOp, ho, hbe, hye, Sem.run_bind, hrun, Result.andThen_ok, Sem.run_pure]
 unfold Oper.wp
 rw [hrun2]
 show next (a.put o.dst _) _
 rw [hd]
 have hden' : vw g.m (p9 f s d) (Es M s (a.eval z)) := fun t => by
  unfold p9 Es
  by_cases ht : t = s
  ·rw [if_pos ht, if_pos ht]; exact ⟨_, rfl, hze⟩
  ·rw [if_neg ht, if_neg ht]; exact hden t
 obtain ⟨h1, h2⟩ := hr.Iu (o' := .cz (p9 f s d)) (bL hi) hb rfl hfr ⟨⟨_, hm', hden'⟩, hmn⟩ (.inl rfl) (ny hno) (fun k f dn cur h => by cases h) hmn
 rw [← (eH hob).1] at h1
 exact hK _ _ _ _ h1 h2 h
theorem xM {sl' : List (Nat × SV)} {ob1 ob2 : List Ob} {s : SV} {ti : TI} {cs : List SV} {ds : List D} (hT : bc P ty = ti) (ho : o.op = .box ty x) (hd : o.dst = some t) (ht : Nat.blt t n = true) (hx : bJ GL sl x = some s) (hm : jd ti.agg s = some cs) (hl : ob.length = k)
 (hcs : qW cs = some ds) (hone : fP cs = true) (hob : iX ob [.cells cs ty] = some ob1) (hsl : xZ k none ds ((t, .bZ k 0) :: sl) = some sl') (hob2 : x9 k none ds ob1 = some ob2) (hob3 : hJ k .dead ob2 = some ob') (h : K ⟨n, sl', ob'⟩) : de P GL n0 Pn T o ⟨n, sl, ob⟩ K := fun B hB g a w hr next Q hK hP => by
 subst hT hl
 have hrun : (execOp a.eval o).run P w = .ok (.value (.pointer (some ⟨w.heap.size, 0, none⟩))) (w.alloc (.cells ⟨(a.eval x).cells.toList⟩ ty)) := by
  simp [execOp, ho, Instr.box, newVar, newRow]
 unfold Oper.wp
 rw [hrun]
 show next (a.put o.dst _) _
 rw [hd]
 obtain ⟨h1, h2⟩ := ou (ty := ty) hr (cs := cs) (vs := (a.eval x).cells.toList) (iI hm (hr.fo hx))
 have h3 := h1.qp (s := .bZ ob.length 0) ht (ym hr.store.len)
 rw [fO hob] at hob2
 obtain ⟨m', h4, h5⟩ := h3.zM (i := ob.length) (cs := cs) (ty := ty) (by simp) hcs hone hsl hob2
 rw [← (eH hob3).1] at h5
 exact hK _ _ _ _ h5 ⟨h2.1.trans h4, fun i b o _ => h2.2 i b o (fun x => x)⟩ h
end
end Go.Vd
namespace Go.Vd
open Go Go.RowKit
structure nV where
 gM : List Ob
 gI : List Pl
def nV.own (x : nV) (b : Nat) : Prop := ∃ (i : Nat) (o : Ob) (p : Pl), x.gM[i]? = some o ∧ x.gI[i]? = some p ∧ cO o p b
structure nV.ok (x : nV) (m : Mem) (w : World) : Prop where
 len : x.gM.length = x.gI.length
 no : fJ x.gM = true
 gM : ∀ (i : Nat) o p, x.gM[i]? = some o → x.gI[i]? = some p → ef ⟨m, x.gI⟩ w o p
 oI : ∀ (i j : Nat) oi oj pi pj b, x.gM[i]? = some oi → x.gM[j]? = some oj → x.gI[i]? = some pi → x.gI[j]? = some pj → cO oi pi b → cO oj pj b → i = j
theorem nV.ok.lt {x : nV} {m : Mem} {w : World} (h : x.ok m w) {b : Nat} (hb : x.own b) : b < w.heap.size := by
 obtain ⟨i, o, p, h1, h2, h3⟩ := hb
 exact (h.gM i o p h1 h2).lt h3
theorem nV.ok.oA {x : nV} {m m' : Mem} {w w' : World} (hm : gg m m') (hb : ∀ b, x.own b → w'.heap[b]? = w.heap[b]?) (hn : ∀ b, x.own b → ∀ i, m b i = none → m' b i = none) (h : x.ok m w) : x.ok m' w' :=
 ⟨h.len, h.no, fun i o p ho hp => ef.oA (g := ⟨m, x.gI⟩) (g' := ⟨m', x.gI⟩) (gX.refl (g := ⟨m, x.gI⟩) (g' := ⟨m', x.gI⟩) ⟨hm, fun _ _ h => h⟩ o) (fun _ _ h => h) (fun b hb' => by
  rcases hb' with hb' | ⟨i', f, dn, cur, rfl, _⟩
  ·exact hb b ⟨i, o, p, ho, hp, hb'⟩
  ·exact absurd ho (eK h.no i i' f dn cur)) (fun b hb' => hn b ⟨i, o, p, ho, hp, hb'⟩) (h.gM i o p ho hp), h.oI⟩
variable {g : Gh} {w : World}
theorem nV.zj {GL : Nat → List D} {gM : List Ob} (h : cH GL gM g w) (hno : fJ gM = true) : (nV.mk gM g.gs).ok g.m w :=
 ⟨h.len, hno, fun i o p h1 h2 => h.gM i o p h1 h2, h.oI⟩
def da (l : List nV) : Ob := .gH (fun b => ∃ x, x ∈ l ∧ x.own b) (fun m w => (∀ x, x ∈ l → x.ok m w) ∧ ∀ (i j : Nat) x y b, l[i]? = some x → l[j]? = some y → x.own b → y.own b → i = j)
variable {l : List nV} {p : Pl}
theorem dC {b : Nat} : cO (da l) p b ↔ ∃ x, x ∈ l ∧ x.own b := Ds
theorem wH (h : ef g w (da l) p) : (∀ x, x ∈ l → x.ok g.m w) ∧ ∀ (i j : Nat) x y b, l[i]? = some x → l[j]? = some y → x.own b → y.own b → i = j := by
 unfold da at h
 cases p <;> exact h.1
theorem ui (h1 : ∀ x, x ∈ l → x.ok g.m w) (h2 : ∀ (i j : Nat) x y b, l[i]? = some x → l[j]? = some y → x.own b → y.own b → i = j) : ef g w (da l) p := by
 have h3 : ((∀ x, x ∈ l → x.ok g.m w) ∧ ∀ (i j : Nat) x y b, l[i]? = some x → l[j]? = some y → x.own b → y.own b → i = j) ∧ (∀ b, (∃ x, x ∈ l ∧ x.own b) → b < w.heap.size) ∧ ∀ m m' (w w' : World), gg m m' → (∀ b, (∃ x, x ∈ l ∧ x.own b) → w'.heap[b]? = w.heap[b]?) → (∀ b, (∃ x, x ∈ l ∧ x.own b) → ∀ i, m b i = none → m' b i = none) → ((∀ x, x ∈ l → x.ok m w) ∧ ∀ (i j : Nat) x y b, l[i]? = some x → l[j]? = some y → x.own b → y.own b → i = j) → ((∀ x, x ∈ l → x.ok m' w') ∧ ∀ (i j : Nat) x y b, l[i]? = some x → l[j]? = some y → x.own b → y.own b → i = j) :=
  ⟨⟨h1, h2⟩, fun b ⟨x, hx, hb⟩ => (h1 x hx).lt hb, fun m m' w w' hm hb hn h => ⟨fun x hx => nV.ok.oA hm (fun b hb' => hb b ⟨x, hx, hb'⟩) (fun b hb' => hn b ⟨x, hx, hb'⟩) (h.1 x hx), h.2⟩⟩
 unfold da
 cases p <;> exact h3
section
variable {P : Program} {GL : Nat → List D} {n0 : Nat} {Pn : oR}
variable {Q : Ex → St → Prop} {n : Nat} {sl : List (Nat × SV)} {ob : List Ob}
theorem AO {c : Code} {ob' : List Ob} (hob : iX ob [da []] = some ob') (h : bl P GL n0 Pn c Q ⟨n, sl, ob'⟩) : bl P GL n0 Pn c Q ⟨n, sl, ob⟩ := fun B hB a w ⟨g, hr⟩ => by
 rw [fO hob] at h
 obtain ⟨h1, _⟩ := hr.Bc (w' := w) (Fr.refl _ w) (gg.refl _) (fun b o x h1 h2 => by rw [h2] at h1; cases h1) (o' := da []) (pl := .row none 0 0) (ui (fun x hx => by cases hx) (fun i j x y b hi => by simp at hi)) (fun b hb => by
  obtain ⟨x, hx, _⟩ := dC.1 hb
  cases hx) (fun i f dn cur e => by cases e)
 exact h B hB a w ⟨_, h1⟩
def xf : List Nat → List Ob → Option (List Ob)
 | [], l => some l
 | i :: ix, l => (hJ i .dead l).bind fun l' => xf ix l'
theorem xe : ∀ {ix : List Nat} {l l' : List Ob}, xf ix l = some l' → l'.length = l.length ∧ (∀ j, j ∈ ix → l'[j]? = some .dead) ∧ ∀ j, j ∉ ix → l'[j]? = l[j]?
 | [], l, l', h => by simp [xf] at h; subst h; simp
 | i :: ix, l, l', h => by
  simp only [xf, Option.bind_eq_some_iff] at h
  obtain ⟨l1, h1, h2⟩ := h
  obtain ⟨e1, e2⟩ := eH h1
  obtain ⟨a1, a2, a3⟩ := xe h2
  subst e1
  refine ⟨by rw [a1, List.length_set], fun j hj => ?_, fun j hj => ?_⟩
  ·by_cases hji : j ∈ ix
   ·exact a2 j hji
   ·rcases List.mem_cons.1 hj with rfl | h3
    ·rw [a3 j hji, List.getElem?_set_self e2]
    ·exact absurd h3 hji
  ·have h3 : j ≠ i ∧ j ∉ ix := ⟨fun e => hj (e ▸ List.mem_cons_self), fun e => hj (List.mem_cons_of_mem _ e)⟩
   rw [a3 j h3.2, List.getElem?_set_ne (Ne.symm h3.1)]
variable {ob1 : List Ob} {pi : Nat} {dQ : List nV} {ix : List Nat}
theorem cT.EY {B : Bs} {a : Act} (hr : cT GL B ⟨n, sl, ob⟩ g a w) {obc : List Ob} (hp : cC pi ob = some (da dQ)) (hfit : bX ob ix obc ix) (hnd : ix.Nodup) (hno : fJ obc = true) (hno2 : fJ ob = true) (hpi : pi ∉ ix) (hob : xf ix ob = some ob1) :
 cT GL B ⟨n, sl, ob1.set pi (da (dQ ++ [⟨obc, ix.map fun i => g.gs.getD i (.loc 0)⟩]))⟩ g a w := by
 have hsub := hr.store.sub hfit hnd (fun j i f dn cur hj => absurd hj (eK hno j i f dn cur))
 have hp' := bL hp
 have hpil := (List.getElem?_eq_some_iff.1 hp').1
 obtain ⟨d1, d2, d3⟩ := xe hob
 obtain ⟨ppl, hppl⟩ := hr.store.place hp'
 have hpool := wH (hr.store.gM _ _ _ hp' hppl)
 have hit := nV.zj hsub.1 hno
 generalize hpls : (ix.map fun i => g.gs.getD i (.loc 0)) = gI at hsub hit ⊢
 have hnew : ∀ b, (nV.mk obc gI).own b → ∃ (i : Nat) (o : Ob) (p : Pl), i ∈ ix ∧ ob[i]? = some o ∧ g.gs[i]? = some p ∧ cO o p b := fun b ⟨i, o, p, h1, h2, h3⟩ => by
  obtain ⟨i', k, o', p', e1, e2, e3, e4⟩ := hsub.2.2 b ⟨i, o, p, h1, h2, h3⟩
  exact ⟨i', o', p', List.mem_of_getElem? e1, e2, e3, e4⟩
 have hold : ∀ x ∈ dQ, ∀ b, x.own b → ¬ (nV.mk obc gI).own b := fun x hx b hb hb2 => by
  obtain ⟨i, o, p, h1, h2, h3, h4⟩ := hnew b hb2
  have := hr.store.oI pi i _ o ppl p b hp' h2 hppl h3 (dC.2 ⟨x, hx, hb⟩) h4
  subst this; exact hpi h1
 have hlen := hr.store.len
 have hself : (ob1.set pi (da (dQ ++ [⟨obc, gI⟩])))[pi]? = some (da (dQ ++ [⟨obc, gI⟩])) := List.getElem?_set_self (by rw [d1]; exact hpil)
 have hother : ∀ j, j ≠ pi → j ∉ ix → (ob1.set pi (da (dQ ++ [⟨obc, gI⟩])))[j]? = ob[j]? := fun j h1 h2 => by rw [List.getElem?_set_ne (Ne.symm h1), d3 j h2]
 have hdead : ∀ j, j ∈ ix → (ob1.set pi (da (dQ ++ [⟨obc, gI⟩])))[j]? = some .dead := fun j h1 => by
  have h2 : pi ≠ j := fun e => hpi (by rw [e]; exact h1)
  rw [List.getElem?_set_ne h2, d2 j h1]
 have hpoolok : ef g w (da (dQ ++ [⟨obc, gI⟩])) ppl := by
  refine ui (fun x hx => ?_) fun i j x y b hi hj hxb hyb => ?_
  ·rcases List.mem_append.1 hx with hx | hx
   ·exact hpool.1 x hx
   ·simp only [List.mem_singleton] at hx; subst hx; exact hit
  ·rw [List.getElem?_append] at hi hj
   have hlast : ∀ (k : Nat) z, ¬ k < dQ.length → [nV.mk obc gI][k - dQ.length]? = some z → k = dQ.length ∧ z = ⟨obc, gI⟩ := fun k z h1 h2 => by
    have h3 := (List.getElem?_eq_some_iff.1 h2).1
    simp only [List.length_singleton] at h3
    have h4 : k - dQ.length = 0 := by omega
    rw [h4] at h2
    simp at h2
    exact ⟨by omega, h2.symm⟩
   split at hi
   ·split at hj
    ·exact hpool.2 i j x y b hi hj hxb hyb
    ·rename_i h6
     obtain ⟨_, rfl⟩ := hlast _ _ h6 hj
     exact absurd hyb (hold x (List.mem_of_getElem? hi) b hxb)
   ·rename_i h5
    obtain ⟨h7, rfl⟩ := hlast _ _ h5 hi
    split at hj
    ·exact absurd hxb (hold y (List.mem_of_getElem? hj) b hyb)
    ·rename_i h6
     obtain ⟨h8, _⟩ := hlast _ _ h6 hj
     omega
 refine ⟨hr.defers, hr.size, hr.di, ?_, ?_⟩
 ·refine hr.store.step (p := fun j => j = pi ∨ j ∈ ix) (gg.refl _) (fun _ _ h => h) (fun _ _ _ h => h) hr.store.sat (by show (ob1.set pi _).length = _; rw [List.length_set, d1]; exact hlen) (fun j o1 hj h1 => ?_) (fun j k f dn cur h1 => ?_) (fun j k f dn cur hj h1 => ?_)
   (fun j o1 q c hj h1 h2 h3 => ⟨rfl, fun _ h => h⟩) (fun j o1 hj h1 => ?_) (fun j o1 q c hj h1 h2 h3 => ?_) (fun i j oi oj qi qj b hi hj h1 h2 h3 h4 h5 h6 => ?_)
  ·simp only [not_or] at hj
   have h2 : (ob1.set pi (da (dQ ++ [⟨obc, gI⟩])))[j]? = some o1 := h1
   rw [hother j hj.1 hj.2] at h2
   exact ⟨o1, h2, gX.refl (Gw.refl g) o1⟩
  ·by_cases h9 : j = pi
   ·subst h9; rw [hself] at h1; cases h1
   ·by_cases h8 : j ∈ ix
    ·rw [hdead j h8] at h1; cases h1
    ·rw [hother j h9 h8] at h1; exact absurd h1 (eK hno2 j k f dn cur)
  ·simp only [not_or] at hj
   have h2 : (ob1.set pi (da (dQ ++ [⟨obc, gI⟩])))[j]? = some (.jk k f dn cur) := h1
   rw [hother j hj.1 hj.2] at h2; exact absurd h2 (eK hno2 j k f dn cur)
  ·have h2 : (ob1.set pi (da (dQ ++ [⟨obc, gI⟩])))[j]? = some o1 := h1
   rcases hj with rfl | hj
   ·rw [hself] at h2; cases h2
    exact ⟨ppl, hppl, hpoolok⟩
   ·rw [hdead j hj] at h2; cases h2
    obtain ⟨k, hk, e⟩ := List.mem_iff_getElem.1 hj
    obtain ⟨i', o, a1, a2, _⟩ := hfit.get.2 k (obc[k]'(by rw [hfit.get.1]; exact hk)) (by simp [hfit.get.1, hk])
    rw [List.getElem?_eq_getElem hk, e] at a1; cases a1
    obtain ⟨q, hq⟩ := hr.store.place a2
    exact ⟨q, hq, by cases q <;> trivial⟩
  ·have h4 : (ob1.set pi (da (dQ ++ [⟨obc, gI⟩])))[j]? = some o1 := h1
   rcases hj with rfl | hj
   ·rw [hself] at h4; cases h4
    obtain ⟨x, hx, hb⟩ := dC.1 h3
    rcases List.mem_append.1 hx with hx | hx
    ·exact .inl ⟨j, _, q, .inl rfl, hp', h2, dC.2 ⟨x, hx, hb⟩⟩
    ·simp only [List.mem_singleton] at hx; subst hx
     obtain ⟨i, o, p, e1, e2, e3, e4⟩ := hnew c hb
     exact .inl ⟨i, o, p, .inr e1, e2, e3, e4⟩
   ·rw [hdead j hj] at h4; cases h4
    cases q <;> exact absurd h3 (by simp [cO, dA])
  ·have h7 : (ob1.set pi (da (dQ ++ [⟨obc, gI⟩])))[i]? = some oi := h1
   have h8 : (ob1.set pi (da (dQ ++ [⟨obc, gI⟩])))[j]? = some oj := h2
   rcases hi with rfl | hi
   ·rcases hj with rfl | hj
    ·rfl
    ·rw [hdead j hj] at h8; cases h8
     cases qj <;> exact absurd h6 (by simp [cO, dA])
   ·rw [hdead i hi] at h7; cases h7
    cases qi <;> exact absurd h5 (by simp [cO, dA])
 ·refine ⟨hr.iR.fr, hr.iR.mem, hr.iR.new, fun j o1 q c h1 h2 h3 => ?_, hr.iR.at'⟩
  have h4 : (ob1.set pi (da (dQ ++ [⟨obc, gI⟩])))[j]? = some o1 := h1
  by_cases h9 : j = pi
  ·subst h9
   rw [hself] at h4; cases h4
   obtain ⟨x, hx, hb⟩ := dC.1 h3
   rcases List.mem_append.1 hx with hx | hx
   ·exact hr.iR.own j _ q c hp' h2 (dC.2 ⟨x, hx, hb⟩)
   ·simp only [List.mem_singleton] at hx; subst hx
    obtain ⟨i, o, p, e1, e2, e3, e4⟩ := hnew c hb
    exact hr.iR.own i o p c e2 e3 e4
  ·by_cases h8 : j ∈ ix
   ·rw [hdead j h8] at h4; cases h4
    cases q <;> exact absurd h3 (by simp [cO, dA])
   ·rw [hother j h9 h8] at h4
    exact hr.iR.own j o1 q c h4 h2 h3
variable {t : Nat} {obF : nV → List Ob}
theorem Cz {ops l : List Oper} {i1 i2 k1 k2 : Nat} (obc : List Ob) (hp : cC pi ob = some (da dQ)) (hfit : bX ob ix obc ix) (hnd : fE ix = true) (hno : fJ obc = true) (hno2 : fJ ob = true) (hpi : (ix.contains pi) = false) (hob : xf ix ob = some ob1) (hobF : ∀ x, hJ pi (da (dQ ++ [x])) ob1 = some (obF x))
 (hsl : nf t sl = .agg [.bZ i1 0, .bZ i2 0]) (hk1 : ix[k1]? = some i1) (hk2 : ix[k2]? = some i2)
 (h : ∀ (gI : List Pl) (b1 b2 : Nat), gI.length = obc.length → gI[k1]? = some (.loc b1) → gI[k2]? = some (.loc b2) → br P GL n0 Pn ops l Q ⟨n, (t, .d (.agg [.v (.pointer (some ⟨b1, 0, none⟩)), .v (.pointer (some ⟨b2, 0, none⟩))])) :: sl, obF ⟨obc, gI⟩⟩) : br P GL n0 Pn ops l Q ⟨n, sl, ob⟩ := fun B hB a w ⟨g, hr⟩ => by
 have hpi' : pi ∉ ix := fun h => by rw [List.contains_iff_mem.2 h] at hpi; cases hpi
 have h1 := hr.EY hp hfit (jy hnd) hno hno2 hpi' hob
 rw [← (eH (hobF _)).1] at h1
 have h2 := hr.di t
 have h3 : (SV.agg [.bZ i1 0, .bZ i2 0]).Den g (a.tmps.getD t undef) := by rw [← hsl]; exact h2
 obtain ⟨vs, e1, x1, l1, e2, ⟨b1, hb1, e3⟩, x2, l2, e4, ⟨b2, hb2, e5⟩, e6⟩ := h3
 have hl : ∀ (k i b : Nat), ix[k]? = some i → g.gs[i]? = some (.loc b) → (ix.map fun i => g.gs.getD i (.loc 0))[k]? = some (.loc b) := fun k i b h1 h2 => by
  rw [List.getElem?_map, h1]; simp [List.getD_eq_getElem?_getD, h2]
 have h4 := h1.known (t := t) (s := .d (.agg [.v (.pointer (some ⟨b1, 0, none⟩)), .v (.pointer (some ⟨b2, 0, none⟩))])) (by
  subst e2 e4 e6 e3 e5
  exact ⟨_, e1, _, _, rfl, rfl, _, _, rfl, rfl, rfl⟩)
 exact h _ b1 b2 (by rw [List.length_map, hfit.get.1]) (hl _ _ _ hk1 hb1) (hl _ _ _ hk2 hb2) B hB a w ⟨g, h4⟩
variable {ρ is : List Nat} {r : List Ob} {i : Nat} {f : ByteArray → Option D}
theorem tr (hr : bX ob ρ r is) (hi : cC i ob = some (.cz f) := by exact rfl) : bX ob ρ (.cz f :: r) (i :: is) := .cons hi .cz hr
theorem KH {f' : ByteArray → Option D} (he : f = f') (hr : bX ob ρ r is) (hi : cC i ob = some (.cz f') := by exact rfl) : bX ob ρ (.cz f :: r) (i :: is) := by subst he; exact .cons hi .cz hr
theorem Ee {o : Nat → Prop} {k : Mem → World → Prop} (hr : bX ob ρ r is) (hi : cC i ob = some (.gH o k) := by exact rfl) : bX ob ρ (.gH o k :: r) (i :: is) := .cons hi .gH hr
theorem Fa {o : Oper} {K : St → Prop} {f : FuncId} {args : Array Operand} {ts : Array TypeId} {argsc svs : List SV} {Q : Out → List Ob → Prop} (hc : ak P f = true) (ho : o.op = .call { callee := .value (.func f), args := args, argTypes := ts })
 (ha : Gu GL sl args.toList = some svs) (hdst : o.dst = some t) (htn : Nat.blt t n = true) {k : Nat} {x : nV} (hp : cC pi ob = some (da dQ)) (hk : dQ[k]? = some x) (hno : fJ ob = true) (ht : ey P GL f x.gM argsc Q)
 (hfa : ∀ (m : Mem) (gs : List Pl) (vs : List Value), bj ⟨m, gs⟩ svs vs → bj ⟨m, x.gI⟩ argsc vs) (hobF : ∀ y, hJ pi (da (dQ.set k y)) ob = some (obF y))
 (hQ : ∀ s ob', Q (.ret s) ob' → ∃ d, s = .d d) (hpan : ∀ s ob', Q (.JK s) ob' → False)
 (hret : ∀ d ob' pls', Q (.ret (.d d)) ob' → (∀ (j b : Nat), j < x.gM.length → x.gI[j]? = some (.loc b) → pls'[j]? = some (.loc b)) → K ⟨n, (t, .d d) :: sl, obF ⟨ob', pls'⟩⟩) : de P GL n0 Pn (fun j => j = pi) o ⟨n, sl, ob⟩ K := fun B hB g a w hr next Q' hK hP => by
 obtain ⟨vs, hrun, hd⟩ := pS hc ho ha B g a w hr
 have hp' := bL hp
 have hpil := (List.getElem?_eq_some_iff.1 hp').1
 obtain ⟨ppl, hppl⟩ := hr.store.place hp'
 have hpool := wH (hr.store.gM _ _ _ hp' hppl)
 have hkl := (List.getElem?_eq_some_iff.1 hk).1
 have hxm := List.mem_of_getElem? hk
 have hx := hpool.1 x hxm
 have hst0 : cH GL x.gM ⟨g.m, x.gI⟩ w := ⟨hx.len, hx.gM, fun j i f dn cur hj => absurd hj (eK hx.no j i f dn cur), hx.oI, hr.store.sat, hr.store.Fx⟩
 unfold Oper.wp
 rw [hrun, Oper.upon_enter]
 refine (ht _ w vs hst0 (hfa g.m g.gs vs hd)).mono fun e w' he => ?_
 obtain ⟨g', ob', hs, hst, hle, hno', he⟩ := he
 cases e with
 | outgrown => exact he.elim
 | panicked c => obtain ⟨v, s, _, _, h3⟩ := he; exact (hpan _ _ h3).elim
 | returned v =>
  obtain ⟨s, hs1, hq⟩ := he
  obtain ⟨d, rfl⟩ := hQ _ _ hq
  have hX : ∀ b, gf x.gM ⟨g.m, x.gI⟩ b → x.own b := fun b ⟨i, o, p, h1, h2, h3⟩ => ⟨i, o, p, h1, h2, h3⟩
  have hfr : Fr (gf x.gM ⟨g.m, x.gI⟩) w w' := hst.fr
  have hmem : gg g.m g'.m := hst.mem
  have hnewm : ∀ b i v, g'.m b i = some v → g.m b i = none → gf x.gM ⟨g.m, x.gI⟩ b ∨ w.heap.size ≤ b := hst.new
  have hstay : ∀ b, b < w.heap.size → ¬ x.own b → w'.heap[b]? = w.heap[b]? ∧ ∀ i, g.m b i = none → g'.m b i = none := fun b h1 h2 => by
   refine ⟨hfr.block b h1 fun h => h2 (hX b h), fun i hi => ?_⟩
   cases hv : g'.m b i with
   | none => rfl
   | some v =>
    rcases hnewm b i v hv hi with h3 | h3
    ·exact absurd (hX b h3) h2
    ·omega
  have hneb : ∀ (j : Nat) oj pj b, j ≠ pi → ob[j]? = some oj → g.gs[j]? = some pj → cO oj pj b → ¬ x.own b := fun j oj pj b hj h1 h2 h3 h4 =>
   hj (hr.store.oI j pi oj _ pj ppl b h1 hp' h2 hppl h3 (dC.2 ⟨x, hxm, h4⟩))
  have hitem : (nV.mk ob' g'.gs).ok g'.m w' := nV.zj hs hno'
  have hown' : ∀ b, (nV.mk ob' g'.gs).own b → x.own b ∨ w.heap.size ≤ b := fun b ⟨i, o, p, h1, h2, h3⟩ => by
   rcases hst.own i o p b h1 h2 h3 with h4 | h4
   ·exact .inl (hX b h4)
   ·exact .inr h4
  have hothers : ∀ (j : Nat) y b, j ≠ k → dQ[j]? = some y → y.own b → ¬ x.own b ∧ b < w.heap.size := fun j y b hj h1 h2 =>
   ⟨fun h3 => hj (hpool.2 j k y x b h1 hk h2 h3), (hpool.1 y (List.mem_of_getElem? h1)).lt h2⟩
  have hobset := (eH (hobF ⟨ob', g'.gs⟩)).1
  have hself : (ob.set pi (da (dQ.set k ⟨ob', g'.gs⟩)))[pi]? = some (da (dQ.set k ⟨ob', g'.gs⟩)) := List.getElem?_set_self hpil
  have hother : ∀ j, j ≠ pi → (ob.set pi (da (dQ.set k ⟨ob', g'.gs⟩)))[j]? = ob[j]? := fun j hj => List.getElem?_set_ne (Ne.symm hj)
  have hgle : Gw g ⟨g'.m, g.gs⟩ := ⟨hmem, fun _ _ h => h⟩
  have hsetget : ∀ (j : Nat) y, (dQ.set k ⟨ob', g'.gs⟩)[j]? = some y → (j = k ∧ y = ⟨ob', g'.gs⟩) ∨ (j ≠ k ∧ dQ[j]? = some y) := fun j y h1 => by
   by_cases hj : j = k
   ·subst hj; rw [List.getElem?_set_self hkl] at h1; cases h1; exact .inl ⟨rfl, rfl⟩
   ·rw [List.getElem?_set_ne (Ne.symm hj)] at h1; exact .inr ⟨hj, h1⟩
  have hpoolok : ef ⟨g'.m, g.gs⟩ w' (da (dQ.set k ⟨ob', g'.gs⟩)) ppl := by
   refine ui (fun y hy => ?_) fun i j y z b hi hj hyb hzb => ?_
   ·obtain ⟨j, hj⟩ := List.mem_iff_getElem?.1 hy
    rcases hsetget j y hj with ⟨_, rfl⟩ | ⟨h1, h2⟩
    ·exact hitem
    ·exact nV.ok.oA hmem (fun b hb => (hstay b (hothers j y b h1 h2 hb).2 (hothers j y b h1 h2 hb).1).1) (fun b hb => (hstay b (hothers j y b h1 h2 hb).2 (hothers j y b h1 h2 hb).1).2) (hpool.1 y (List.mem_of_getElem? h2))
   ·have hcross : ∀ (j : Nat) z b, j ≠ k → dQ[j]? = some z → z.own b → ¬ (nV.mk ob' g'.gs).own b := fun j z b h1 h2 h3 h4 => by
     have h5 := hothers j z b h1 h2 h3
     rcases hown' b h4 with h6 | h6
     ·exact h5.1 h6
     ·omega
    rcases hsetget i y hi with ⟨h1, rfl⟩ | ⟨h1, h2⟩
    ·rcases hsetget j z hj with ⟨h3, rfl⟩ | ⟨h3, h4⟩
     ·omega
     ·exact absurd hyb (hcross j z b h3 h4 hzb)
    ·rcases hsetget j z hj with ⟨h3, rfl⟩ | ⟨h3, h4⟩
     ·exact absurd hzb (hcross i y b h1 h2 hyb)
     ·exact hpool.2 i j y z b h2 h4 hyb hzb
  have hrel : cT GL B ⟨n, sl, ob.set pi (da (dQ.set k ⟨ob', g'.gs⟩))⟩ ⟨g'.m, g.gs⟩ a w' := by
   refine ⟨hr.defers, hr.size, fun t => SV.Den.mono hgle _ (hr.di t), ?_, ?_⟩
   ·refine hr.store.step (p := fun j => j = pi) hmem (fun _ _ h => h) (fun _ _ _ h => h) hs.sat (by show (ob.set pi _).length = _; rw [List.length_set]; exact hr.store.len) (fun j o1 hj h1 => ?_) (fun j i f dn cur h1 => ?_) (fun j i f dn cur hj h1 => ?_)
     (fun j o1 q c hj h1 h2 h3 => ?_) (fun j o1 hj h1 => ?_) (fun j o1 q c hj h1 h2 h3 => ?_) (fun i j oi oj qi qj b hi hj _ _ _ _ _ _ => hi.trans hj.symm)
    ·have h2 : (ob.set pi (da (dQ.set k ⟨ob', g'.gs⟩)))[j]? = some o1 := h1
     rw [hother j hj] at h2
     exact ⟨o1, h2, gX.refl hgle o1⟩
    ·by_cases h9 : j = pi
     ·subst h9; rw [hself] at h1; cases h1
     ·rw [hother j h9] at h1; exact absurd h1 (eK hno j i f dn cur)
    ·have h2 : (ob.set pi (da (dQ.set k ⟨ob', g'.gs⟩)))[j]? = some (.jk i f dn cur) := h1
     rw [hother j hj] at h2; exact absurd h2 (eK hno j i f dn cur)
    ·exact hstay c (hr.store.lt h1 h2 h3) (hneb j o1 q c hj h1 h2 h3)
    ·subst hj
     have h2 : (ob.set j (da (dQ.set k ⟨ob', g'.gs⟩)))[j]? = some o1 := h1
     rw [hself] at h2; cases h2
     exact ⟨ppl, hppl, hpoolok⟩
    ·subst hj
     have h4 : (ob.set j (da (dQ.set k ⟨ob', g'.gs⟩)))[j]? = some o1 := h1
     rw [hself] at h4; cases h4
     obtain ⟨y, hy, hb⟩ := dC.1 h3
     obtain ⟨i, hi⟩ := List.mem_iff_getElem?.1 hy
     rcases hsetget i y hi with ⟨_, rfl⟩ | ⟨h5, h6⟩
     ·rcases hown' c hb with h7 | h7
      ·exact .inl ⟨j, _, q, rfl, hp', h2, dC.2 ⟨x, hxm, h7⟩⟩
      ·exact .inr h7
     ·exact .inl ⟨j, _, q, rfl, hp', h2, dC.2 ⟨y, List.mem_of_getElem? h6, hb⟩⟩
   ·refine hr.iR.step hfr (fun b hb => hr.iR.own pi _ ppl b hp' hppl (dC.2 ⟨x, hxm, hX b hb⟩)) hmem hnewm (fun j o1 q c h1 h2 h3 => ?_) (fun _ _ h => h)
    have h4 : (ob.set pi (da (dQ.set k ⟨ob', g'.gs⟩)))[j]? = some o1 := h1
    by_cases h9 : j = pi
    ·subst h9
     rw [hself] at h4; cases h4
     obtain ⟨y, hy, hb⟩ := dC.1 h3
     obtain ⟨i, hi⟩ := List.mem_iff_getElem?.1 hy
     rcases hsetget i y hi with ⟨_, rfl⟩ | ⟨h5, h6⟩
     ·rcases hown' c hb with h7 | h7
      ·exact .inl (hr.iR.own j _ ppl c hp' hppl (dC.2 ⟨x, hxm, h7⟩))
      ·exact .inr h7
     ·exact .inl (hr.iR.own j _ ppl c hp' hppl (dC.2 ⟨y, List.mem_of_getElem? h6, hb⟩))
    ·rw [hother j h9] at h4
     exact .inl (hr.iR.own j o1 q c h4 h2 h3)
  have hkeep : qP (fun j => j = pi) ob g w ⟨g'.m, g.gs⟩ w' := ⟨hmem, fun j c oj hj h1 h2 h3 => ⟨h2, (hstay c (hr.store.lt h1 h2 (dY h3)) (hneb j oj _ c hj h1 h2 (dY h3))).1⟩⟩
  have hK2 := hret d ob' g'.gs hq (fun j b h1 h2 => hst.at' j b h1 h2)
  rw [hobset] at hK2
  show next (a.put o.dst _) _
  rw [hdst]
  exact hK _ _ _ _ (hrel.qp (s := .d d) htn hs1) hkeep hK2
end
end Go.Vd
namespace Go.Vd
open Go Go.RowKit
variable {e : TypeId} {size bytes : Nat}
theorem EO {P : Program} {t : TypeId} (T : je P t e size bytes) (w : World) : (Instr.buildSlice t 0 #[]).run P w = .ok (.slice (some ⟨w.heap.size, 0, none⟩) 0 0) (w.alloc (.cells #[] e)) := by
 have hinfo := T.info
 have hzero := T.zero
 cases hi : P.info? e with
 | none => simp [hi] at hinfo
 | some ie =>
  rw [hi] at hinfo hzero
  simp only [Option.map_some, Option.some.injEq, Prod.mk.injEq, Option.bind_some] at hinfo hzero
  cases hz : ie.zero with
  | none => simp [hz] at hzero
  | some z =>
   simp [Instr.buildSlice, run_underlying T.under, newRow, zeroValue, typeInfo, Go.sizeOf, hi, hz, Result.andThen, Instr.fill]
   congr 2
   apply Array.ext'
   simp
section
variable {P : Program} {GL : Nat → List D} {n0 : Nat} {Pn : oR}
variable {o : Oper} {n t k : Nat} {sl : List (Nat × SV)} {ob : List Ob} {K : St → Prop} {T : Nat → Prop} {ty : TypeId}
theorem GZ {ob' : List Ob} (TS : je P ty e size bytes) (ho : o.op = .buildSlice ty 0 #[])
 (hd : o.dst = some t) (ht : Nat.blt t n = true) (hl : ob.length = k) (hob : iX ob [.row e size] = some ob')
 (h : K ⟨n, (t, .own k size []) :: sl, ob'⟩) : de P GL n0 Pn T o ⟨n, sl, ob⟩ K := fun B hB g a w hr next Q hK hP => by
 subst hl
 rw [fO hob] at h
 have hrun : (execOp a.eval o).run P w = .ok (.value (.slice (some ⟨w.heap.size, 0, none⟩) 0 0)) (w.alloc (.cells #[] e)) := by
  have h0 := EO TS w
  simp only [execOp, ho, Sem.run_bind]
  have h1 : (#[] : Array (Nat × Operand)).map (fun x => (x.1, a.eval x.2)) = #[] := by simp
  rw [h1, h0]; rfl
 unfold Oper.wp
 rw [hrun]
 show next (a.put o.dst _) _
 rw [hd]
 have hm0 : ∀ o, g.m w.heap.size o = none := fun o => by
  cases hx : g.m w.heap.size o with
  | none => rfl
  | some x => have := hr.store.jH hx; omega
 have hrow : (w.alloc (.cells #[] e)).ownsRow 0 e size (.slice (some ⟨w.heap.size, 0, none⟩) 0 0) 0 [] :=
  ⟨by simp, .inr ⟨w.heap.size, 0, #[], rfl, Nat.zero_le _, heap_alloc_new w _, Nat.le_refl _, Nat.zero_le _, by simp, by simp⟩⟩
 obtain ⟨h1, h2⟩ := hr.Bc (w' := w.alloc (.cells #[] e)) ((Fr.refl _ w).alloc _) (gg.refl _) (fun b o x h1 h2 => by rw [h2] at h1; cases h1) (o' := .row e size) (pl := .row (some w.heap.size) 0 0) ⟨⟨[], hrow⟩, fun c hc o _ => by cases hc; exact hm0 o⟩ (fun b hb => by simp only [cO, dA, Option.some.injEq] at hb; omega) (fun i f dn cur e => by cases e)
 refine hK _ _ _ _ (h1.qp (s := .own ob.length size []) ht ⟨some w.heap.size, 0, ?_, rfl, Nat.le_refl _, fun hn => absurd rfl hn⟩) ⟨h2.1, fun i b o _ => h2.2 i b o (fun x => x)⟩ h
 show (g.gs ++ [_])[ob.length]? = _
 have hl2 : ob.length = g.gs.length := hr.store.len
 rw [hl2]; simp
end
section
variable {P : Program} {GL : Nat → List D} {n0 : Nat} {Pn : oR}
theorem xB {T : TypeId} (hp : P.underlying T = some (.slice e)) (a : Option Addr) (l c : Nat) (w : World) : (Op.equal T (.slice a l c) (.slice none 0 0)).run P w = .ok a.isNone w := by
 have h : ∀ d : Nat, (Op.equalIn (d + 1) T (.slice a l c) (.slice none 0 0)).run P w = .ok a.isNone w := fun d => by
  cases a <;> simp [Op.equalIn, run_underlying hp]
 simp [Op.equal, Op.maxDepth, h 9999]
variable {o : Oper} {n t k : Nat} {sl : List (Nat × SV)} {ob : List Ob} {K : St → Prop} {T : Nat → Prop} {ty : TypeId}
theorem E8 {T' : TypeId} {ls : List (List D)} {x : Operand} {sx : SV} (hp : P.underlying ty = some (.slice e)) (ho : o.op = .binOp .eql ty x (.const (.slice none 0 0)) T') (hd : o.dst = some t) (ht : Nat.blt t n = true)
 (hx : bJ GL sl x = some sx) (hxD : sx.gp = some (.sl k ls)) (h : ∀ b : Bool, (b = true → ls = []) → K ⟨n, (t, .d (.v (.bool b))) :: sl, ob⟩) : de P GL n0 Pn T o ⟨n, sl, ob⟩ K :=
 qu hd ht fun B g a w hr => by
  obtain ⟨q, cap, hq, _, hne⟩ := SV.Den.gp _ (hr.fo hx) hxD
  refine ⟨.d (.v (.bool q.isNone)), .bool q.isNone, ?_, rfl, h q.isNone fun hb => ?_⟩
  ·have he := xB hp q ls.length cap w
   have hc : a.eval (.const (.slice none 0 0)) = .slice none 0 0 := rfl
   simp only [execOp, ho, Sem.run_bind, hq, hc, fq (P := P) (show (Value.slice q ls.length cap).oneCell' = true from rfl) (show ¬ (Value.slice q ls.length cap = .nilIface ∧ Value.slice none 0 0 = .nilIface) by simp)]
   simp only [Result.andThen_ok, binOp, Sem.run_bind, he, Sem.run_pure]
  ·refine Classical.byContradiction fun hn => ?_
   obtain ⟨b, off, e1, _⟩ := hne hn
   rw [e1] at hb; cases hb
end
end Go.Vd
namespace Go.Vd
open Go Go.RowKit
def Gd (P : Program) (vC : TypeId → Option TI) : Prop := ∀ t ti, vC t = some ti → bc P t = ti
def Kh : BinOp → Int → Int → Option Bool
 | .eql, m, n => some (decide (m = n))
 | .neq, m, n => some (!decide (m = n))
 | .lss, m, n => some (decide (m < n))
 | .leq, m, n => some (decide (m ≤ n))
 | .gtr, m, n => some (decide (n < m))
 | .geq, m, n => some (decide (n ≤ m))
 | _, _, _ => none
def Lf : IntKind → IntKind → Bool
 | .i64, .i64 => true
 | .u8, .u8 => true
 | _, _ => false
theorem IV : ∀ {k k' : IntKind}, Lf k k' = true → k = k' := by
 intro k k' h; cases k <;> cases k' <;> first | rfl | cases h
def Kg : BinOp → ByteArray → ByteArray → Option Bool
 | .eql, s, t => some (decide (s = t))
 | .neq, s, t => some (!decide (s = t))
 | _, _, _ => none
def Jl (GL : Nat → List D) (vC : TypeId → Option TI) (sl : List (Nat × SV)) (ob : List Ob) : Op → Option SV
 | .move x => bJ GL sl x
 | .assign x => bJ GL sl x
 | .nilCheck x => match bJ GL sl x with
  | some (.bZ i off) => some (.bZ i off)
  | some (.d (.cp l)) => some (.d (.cp l))
  | _ => none
 | .fieldAddr T x f => (vC T).bind fun ti => match fW f ti.jX with
  | some ((o1, sz, _) :: _) => cond (Nat.beq sz 0) none (match bJ GL sl x with
   | some (.bZ i off) => some (.bZ i (off + o1))
   | some (.d (.cp l)) => (fW o1 l).bind fun l' => some (.d (.cp l'))
   | _ => none)
  | _ => none
 | .load T x => (vC T).bind fun ti => cond ti.ok (match bJ GL sl x with
  | some (.bZ i off) => match cC i ob with
   | some (.cells l _) => (fW off l).bind fun l1 => (lH ti.size l1).bind fun cs => mn ti.agg cs
   | _ => none
  | some (.d (.cp l)) => (lH ti.size l).bind fun ds => (zu ds).bind fun cs => mn ti.agg cs
  | _ => none) none
 | .extract x i => match bJ GL sl x with
  | some (.cb l) => cC i l
  | some (.d (.cb l)) => (cC i l).bind fun s => some (.d s)
  | _ => none
 | .binOp op _ x y _ => match bJ GL sl x, bJ GL sl y with
  | some (.d (.v (.int k m))), some (.d (.v (.int k' n))) => cond (Lf k k') ((Kh op m n).bind fun b => some (.d (.v (.bool b)))) none
  | some (.d (.v (.string s))), some (.d (.v (.string t))) => (Kg op s t).bind fun b => some (.d (.v (.bool b)))
  | _, _ => none
 | .unOp .not _ x => match bJ GL sl x with
  | some (.d (.v (.bool b))) => some (.d (.v (.bool (!b))))
  | _ => none
 | .build T ps => (vC T).bind fun ti => cond ti.Gq (cond ti.IZ ((BE GL sl ps.toList).bind fun es => (nN ti.zero).bind fun z0 => (u4 ti.jX z0 es).bind fun cs => some (.agg cs)) none) none
 | _ => none
section
variable {P : Program} {GL : Nat → List D} {n0 : Nat} {Pn : oR}
end
end Go.Vd
namespace Go.Vd
open Go Go.RowKit
structure LJ where
 ti : List (Nat × TI)
 us : List Nat
 ut : List Nat
def KP : List (Nat × TI) → Nat → Option TI
 | [], _ => none
 | (k, x) :: r, t => cond (Nat.beq k t) (some x) (KP r t)
class jg (P : Program) where
 vC : LJ
 ti : ∀ p ∈ vC.ti, bc P p.1 = p.2
 us : ∀ t ∈ vC.us, P.underlying t = some (.slice (bc P t).elem)
 ut : ∀ t ∈ vC.ut, P.underlying t = some .string
theorem CB : ∀ {l : List (Nat × TI)} {t : Nat} {x : TI}, KP l t = some x → (t, x) ∈ l
 | [], t, x, h => by cases h
 | (k, y) :: r, t, x, h => by
  unfold KP at h
  cases hb : Nat.beq k t <;> rw [hb] at h
  ·exact List.mem_cons_of_mem _ (CB h)
  ·have e : k = t := by simpa using hb
   simp only [cond_true, Option.some.injEq] at h
   subst e h; exact List.mem_cons_self
def Iw (P : Program) [T : jg P] : TypeId → Option TI := KP T.vC.ti
theorem pM (P : Program) [T : jg P] : Gd P (Iw P) := fun t x h => T.ti _ (CB h)
def Le (P : Program) [T : jg P] (GL : Nat → List D) (sl : List (Nat × SV)) : Op → Option SV
 | .call c => match c.callee, c.args.toList, c.argTypes.toList with
  | .builtin .len, [x], [t] => match bJ GL sl x with
   | some (.d (.sl _ ls)) => cond (mc T.vC.us t) (some (.d (.v (.int .i64 ls.length)))) none
   | some (.own _ _ ls) => cond (mc T.vC.us t) (some (.d (.v (.int .i64 ls.length)))) none
   | some (.d (.v (.string s))) => cond (mc T.vC.ut t) (some (.d (.v (.int .i64 s.size)))) none
   | _ => none
  | _, _, _ => none
 | _ => none
def KS (P : Program) [T : jg P] (GL : Nat → List D) (sl : List (Nat × SV)) (ob : List Ob) : Op → Option (SV × List Nat)
 | .load t x => (Jl GL (Iw P) sl ob (.load t x)).bind fun s => match bJ GL sl x with
  | some (.bZ i _) => some (s, [i])
  | _ => some (s, [])
 | .call c => (Le P GL sl (.call c)).bind fun s => some (s, [])
 | op => (Jl GL (Iw P) sl ob op).bind fun s => some (s, [])
section
variable {P : Program} [T : jg P] {GL : Nat → List D} {n0 : Nat} {Pn : oR}
theorem uY {l : List Nat} {t : Nat} (h : mc l t = true) : t ∈ l := ma.1 h
variable {vC : TypeId → Option TI} {o : Oper} {n : Nat} {sl : List (Nat × SV)} {ob : List Ob} {s : SV}
theorem CQ (ht : Gd P vC) {K : SV → List Nat → Prop} {t : TypeId} {x : Operand} (ho : o.op = .load t x) (h : Jl GL vC sl ob (.load t x) = some s)
 (hK : K s (match bJ GL sl x with | some (.bZ i _) => [i] | _ => [])) : aj P GL o ⟨n, sl, ob⟩ K := by
 simp only [Jl] at h
 obtain ⟨ti, h1, h⟩ := Option.bind_eq_some_iff.1 h
 cases hz : ti.ok <;> rw [hz] at h
 ·cases h
 ·simp only [cond_true] at h
  split at h
  ·rename_i i off he
   rw [he] at hK
   split at h
   ·rename_i l ty hi
    obtain ⟨l1, h2, h⟩ := Option.bind_eq_some_iff.1 h
    obtain ⟨cs, h3, h4⟩ := Option.bind_eq_some_iff.1 h
    exact DC (ht _ _ h1) hK ho he hi hz h2 h3 h4
   ·cases h
  ·rename_i l he
   rw [he] at hK
   obtain ⟨ds, h2, h⟩ := Option.bind_eq_some_iff.1 h
   obtain ⟨cs, h3, h4⟩ := Option.bind_eq_some_iff.1 h
   exact J9 (ht _ _ h1) hK ho he hz h2 h3 h4
  ·cases h
theorem Hh (ht : Gd P vC) {K : SV → List Nat → Prop} (hl : ∀ t x, o.op ≠ .load t x) (h : Jl GL vC sl ob o.op = some s) (hK : K s []) : aj P GL o ⟨n, sl, ob⟩ K := by
 generalize ho : o.op = op at h
 cases op <;> simp only [Jl, reduceCtorEq] at h
 case move x => exact mv hK ho h
 case assign x => exact Mc hK ho h
 case nilCheck x =>
  split at h
  ·rename_i i off he; cases h; exact LU hK ho he
  ·rename_i l he; cases h; exact LS hK ho he
  ·cases h
 case fieldAddr T x f =>
  obtain ⟨ti, h1, h⟩ := Option.bind_eq_some_iff.1 h
  split at h
  ·rename_i o1 sz ag r hf
   cases hz : Nat.beq sz 0 <;> rw [hz] at h
   ·simp only [cond_false] at h
    split at h
    ·rename_i i off he; cases h; exact Kb (ht _ _ h1) hK ho he hf hz
    ·rename_i l he
     obtain ⟨l', h2, h3⟩ := Option.bind_eq_some_iff.1 h
     cases h3; exact KR (ht _ _ h1) hK ho he hf hz h2
    ·cases h
   ·cases h
  ·cases h
 case load T x => exact absurd ho (hl T x)
 case extract x i =>
  split at h
  ·rename_i l he; exact Lg hK ho he h
  ·rename_i l he
   obtain ⟨s', h2, h3⟩ := Option.bind_eq_some_iff.1 h
   cases h3; exact KT hK ho he h2
  ·cases h
 case binOp op T x y T' =>
  split at h
  ·rename_i k m k' n' hx hy
   cases hk : Lf k k' <;> rw [hk] at h
   ·cases h
   obtain rfl := IV hk
   simp only [cond_true] at h
   obtain ⟨b, h2, h3⟩ := Option.bind_eq_some_iff.1 h
   cases h3
   cases op <;> simp only [Kh, Option.some.injEq, reduceCtorEq] at h2
   all_goals subst h2
   case eql => exact L6 hK ho hx hy
   case neq => exact LZ hK ho hx hy
   case lss => exact L0 hK ho hx hy
   case leq => exact L3 hK ho hx hy
   case gtr => exact L4 hK ho hx hy
   case geq => exact L5 hK ho hx hy
  ·rename_i s' t' hx hy
   obtain ⟨b, h2, h3⟩ := Option.bind_eq_some_iff.1 h
   cases h3
   cases op <;> simp only [Kg, Option.some.injEq, reduceCtorEq] at h2
   all_goals subst h2
   case eql => exact seq1 hK ho hx hy
   case neq => exact K7 hK ho hx hy
  ·cases h
 case unOp op T x =>
  cases op <;> simp only [Jl, reduceCtorEq] at h
  split at h
  ·rename_i b he; cases h; exact Kc hK ho he
  ·cases h
 case build T ps =>
  obtain ⟨ti, h1, h⟩ := Option.bind_eq_some_iff.1 h
  cases hz : ti.Gq <;> rw [hz] at h
  ·cases h
  ·cases hf : ti.IZ <;> rw [hf] at h
   ·cases h
   ·simp only [cond_true] at h
    obtain ⟨es, h2, h⟩ := Option.bind_eq_some_iff.1 h
    obtain ⟨z0, h3, h⟩ := Option.bind_eq_some_iff.1 h
    obtain ⟨cs, h4, h5⟩ := Option.bind_eq_some_iff.1 h
    cases h5
    exact Mb (ht _ _ h1) hK ho hz hf hf h2 h3 h4
theorem IU {K : SV → List Nat → Prop} {op : Op} (ho : o.op = op) (h : Le P GL sl op = some s) (hK : K s []) : aj P GL o ⟨n, sl, ob⟩ K := by
 unfold Le at h
 split at h
 ·rename_i c
  obtain ⟨c1, ⟨a⟩, ⟨ts⟩⟩ := c
  simp only at h
  split at h
  ·rename_i x t
   split at h
   ·rename_i he
    cases hi : mc T.vC.us t <;> rw [hi] at h
    ·cases h
    ·cases h; exact LY (T.us _ (uY hi)) hK ho he
   ·rename_i he
    cases hi : mc T.vC.us t <;> rw [hi] at h
    ·cases h
    ·cases h; exact LX (T.us _ (uY hi)) hK ho he
   ·rename_i he
    cases hi : mc T.vC.ut t <;> rw [hi] at h
    ·cases h
    ·cases h; exact LW (T.ut _ (uY hi)) hK ho he
   ·cases h
  ·cases h
 ·cases h
theorem FO {K : SV → List Nat → Prop} {L : List Nat} (h : KS P GL sl ob o.op = some (s, L)) (hK : K s L) : aj P GL o ⟨n, sl, ob⟩ K := by
 unfold KS at h
 split at h
 ·rename_i t x ho
  obtain ⟨s', h1, h2⟩ := Option.bind_eq_some_iff.1 h
  split at h2
  ·rename_i i off he
   cases h2
   exact CQ (pM P) ho h1 (by rw [he]; exact hK)
  ·rename_i he
   cases h2
   refine CQ (pM P) ho h1 ?_
   split
   ·rename_i i off he2; exact absurd he2 (he i off)
   ·exact hK
 ·rename_i c ho
  obtain ⟨s', h1, h2⟩ := Option.bind_eq_some_iff.1 h
  cases h2
  exact IU ho h1 hK
 ·rename_i h3 h4
  obtain ⟨s', h1, h2⟩ := Option.bind_eq_some_iff.1 h
  cases h2
  exact Hh (pM P) h3 h1 hK
end
inductive Fm where
 | s (c : Code)
 | b (id : Nat)
 | q (K : St → Prop)
inductive Tg where
 | c (c : Code)
 | o (ops l : List Oper)
 | e (e : Ex)
def den (P : Program) (GL : Nat → List D) (n0 : Nat) (Pn : oR) (Q : Ex → St → Prop) : List Fm → Ex → St → Prop
 | [] => Q
 | .s c :: K => Ex.seq (fun σ => bl P GL n0 Pn c (den P GL n0 Pn Q K) σ) (den P GL n0 Pn Q K)
 | .b id :: K => Ex.inBlock id (den P GL n0 Pn Q K)
 | .q R :: K => Ex.seq (fun σ => R σ) (den P GL n0 Pn Q K)
def Tg.ok (P : Program) (GL : Nat → List D) (n0 : Nat) (Pn : oR) (K : List Fm) (Q : Ex → St → Prop) (σ : St) : Tg → Prop
 | .c x => bl P GL n0 Pn x (den P GL n0 Pn Q K) σ
 | .o x y => br P GL n0 Pn x y (den P GL n0 Pn Q K) σ
 | .e x => den P GL n0 Pn Q K x σ
inductive Rz where
 | ok (t : Tg) (K : List Fm) (sl : List (Nat × SV)) (ob : List Ob)
 | no
def G7 (ops : List Oper) (sl : List (Nat × SV)) (o : Oper) : Option Bool := match o.guard with
 | none => some true
 | some (j, want) => (fV ops j).bind fun d => match gw d sl with
  | some (.d (.v (.bool true))) => some want
  | some (.d (.v (.bool false))) => some (!want)
  | some (.d (.v (.tuple _))) => some false
  | _ => none
def Lc (P : Program) [T : jg P] (GL : Nat → List D) (n m : Nat) (sl : List (Nat × SV)) (ob : List Ob) (op : Op) (dst : Option Nat) : Option (Nat × List (Nat × SV) × List Ob) := match op with
 | .alloc t => match dst with
  | some d => (Iw P t).bind fun ti => cond (Nat.blt d n) (cond ti.Gq ((nN ti.zero).bind fun cs => (iX ob [.cells cs t]).bind fun ob' => some (m + 1, (d, .bZ m 0) :: sl, ob')) none) none
  | none => none
 | .box t x => match dst with
  | some d => (Iw P t).bind fun ti => cond (Nat.blt d n) ((bJ GL sl x).bind fun s => (jd ti.agg s).bind fun cs => (iX ob [.cells cs t]).bind fun ob' => some (m + 1, (d, .bZ m 0) :: sl, ob')) none
  | none => none
 | .store t x y => match dst with
  | none => match bJ GL sl x with
   | some (.bZ i off) => match cC i ob with
    | some (.cells l ty0) => (Iw P t).bind fun ti => cond ti.ok ((bJ GL sl y).bind fun s => (jd ti.agg s).bind fun cs => cond (Nat.beq cs.length ti.size) (cond (fP cs) ((ud off cs l).bind fun l' => (hJ i (.cells l' ty0) ob).bind fun ob' => some (m, sl, ob')) none) none) none
    | _ => none
   | _ => none
  | some _ => none
 | op => match dst with
  | some d => cond (Nat.blt d n) (match KS P GL sl ob op with
   | some (s, _) => some (m, (d, s) :: sl, ob)
   | none => none) none
  | none => none
def run (P : Program) [T : jg P] (GL : Nat → List D) (n : Nat) : Nat → Tg → List Fm → Nat → List (Nat × SV) → List Ob → Rz
 | 0, t, K, _, sl, ob => .ok t K sl ob
 | N + 1, .c c, K, m, sl, ob => match c with
  | .seq a b => run P GL n N (.c a) (.s b :: K) m sl ob
  | .region _ ⟨l⟩ dr => match dr with
   | false => run P GL n N (.o l l) K m sl ob
   | true => .no
  | .skip => run P GL n N (.e .normal) K m sl ob
  | .ret => run P GL n N (.e .ret) K m sl ob
  | .exit id => run P GL n N (.e (.exit id)) K m sl ob
  | .block id c => run P GL n N (.c c) (.b id :: K) m sl ob
  | _ => .no
 | N + 1, .o ops l, K, m, sl, ob => match l with
  | [] => run P GL n N (.e .normal) K m sl ob
  | o :: r => match G7 ops sl o with
   | some true => match Lc P GL n m sl ob o.op o.dst with
    | some (m', sl', ob') => run P GL n N (.o ops r) K m' sl' ob'
    | none => .no
   | some false => match o.dst with
    | some d => cond (Nat.blt d n) (run P GL n N (.o ops r) K m ((d, .d (.v undef)) :: sl) ob) .no
    | none => .no
   | none => .no
 | N + 1, .e e, K, m, sl, ob => match K with
  | .s c :: K => match e with
   | .normal => run P GL n N (.c c) K m sl ob
   | e => run P GL n N (.e e) K m sl ob
  | .b id :: K => match e with
   | .normal => run P GL n N (.e .normal) K m sl ob
   | .exit j => cond (Nat.beq j id) (run P GL n N (.e .normal) K m sl ob) (run P GL n N (.e (.exit j)) K m sl ob)
   | e => run P GL n N (.e e) K m sl ob
  | .q _ :: K => match e with
   | .normal => .no
   | e => run P GL n N (.e e) K m sl ob
  | [] => .no
section
variable {P : Program} [T : jg P] {GL : Nat → List D} {n0 : Nat} {Pn : oR} {Q : Ex → St → Prop}
variable {ops rest : List Oper} {o : Oper} {n : Nat} {sl : List (Nat × SV)} {ob : List Ob}
theorem CL (h : G7 ops sl o = some true) (hr : br P GL n0 Pn ops ({ o with guard := none } :: rest) Q ⟨n, sl, ob⟩) : br P GL n0 Pn ops (o :: rest) Q ⟨n, sl, ob⟩ := by
 unfold G7 at h
 split at h
 ·rename_i hg
  have : ({ o with guard := none } : Oper) = o := by cases o; simp only at hg; subst hg; rfl
  rwa [this] at hr
 ·rename_i j want hg
  obtain ⟨d, h1, h2⟩ := Option.bind_eq_some_iff.1 h
  split at h2
  ·rename_i hs
   simp only [Option.some.injEq] at h2; subst h2
   exact kZ hg h1 hs hr
  ·rename_i hs
   simp only [Option.some.injEq] at h2
   exact kZ hg h1 (by rw [hs]; cases want <;> first | rfl | cases h2) hr
  ·cases h2
  ·cases h2
variable {d : Nat}
theorem Ax {t j : Nat} {want : Bool} {x : Array Value} (hg : o.guard = some (j, want)) (hd : fV ops j = some d) (hb : gw d sl = some (.d (.v (.tuple x)))) (hdst : o.dst = some t) (ht : Nat.blt t n = true)
 (h : br P GL n0 Pn ops rest Q ⟨n, (t, .d (.v undef)) :: sl, ob⟩) : br P GL n0 Pn ops (o :: rest) Q ⟨n, sl, ob⟩ := fun B hB a w ⟨g, hr⟩ => by
 have hbv : a.tmps.getD d undef = .tuple x := by have := hr.di d; rw [fI hb] at this; exact this
 unfold wpList
 rw [mN hg hd hbv, if_neg (by simp), hdst]
 exact h B hB _ w ⟨g, hr.put ht rfl⟩
theorem IX (h : G7 ops sl o = some false) (hd : o.dst = some d) (hb : Nat.blt d n = true) (hr : br P GL n0 Pn ops rest Q ⟨n, (d, .d (.v undef)) :: sl, ob⟩) : br P GL n0 Pn ops (o :: rest) Q ⟨n, sl, ob⟩ := by
 unfold G7 at h
 split at h
 ·cases h
 ·rename_i j want hg
  obtain ⟨d', h1, h2⟩ := Option.bind_eq_some_iff.1 h
  split at h2
  ·rename_i hs
   simp only [Option.some.injEq] at h2; subst h2
   exact nq hg h1 hs hd hb hr
  ·rename_i hs
   simp only [Option.some.injEq] at h2
   exact nq hg h1 (by rw [hs]; cases want <;> first | rfl | cases h2) hd hb hr
  ·rename_i hs
   exact Ax hg h1 hs hd hb hr
  ·cases h2
variable {m : Nat} {sl' : List (Nat × SV)} {ob' : List Ob}
theorem IM {m' : Nat} (hm : ob.length = m) (hg : o.guard = none) (h : Lc P GL n m sl ob o.op o.dst = some (m', sl', ob')) (hr : ob'.length = m' → br P GL n0 Pn ops rest Q ⟨n, sl', ob'⟩) : br P GL n0 Pn ops (o :: rest) Q ⟨n, sl, ob⟩ := by
 unfold Lc at h
 split at h
 ·rename_i t ho
  split at h
  ·rename_i d hd
   obtain ⟨ti, h1, h⟩ := Option.bind_eq_some_iff.1 h
   cases hb : Nat.blt d n <;> rw [hb] at h
   ·cases h
   cases hz : ti.Gq <;> rw [hz] at h
   ·cases h
   simp only [cond_true] at h
   obtain ⟨cs, h2, h⟩ := Option.bind_eq_some_iff.1 h
   obtain ⟨ob1, h3, h⟩ := Option.bind_eq_some_iff.1 h
   cases h
   exact oc (T := fun _ => False) (Md (pM P _ _ h1) (hr (by rw [fO h3]; simp [hm])) ho hd hz hb h2 h3 hm) hg
  ·cases h
 ·rename_i t x ho
  split at h
  ·rename_i d hd
   obtain ⟨ti, h1, h⟩ := Option.bind_eq_some_iff.1 h
   cases hb : Nat.blt d n <;> rw [hb] at h
   ·cases h
   simp only [cond_true] at h
   obtain ⟨s, h2, h⟩ := Option.bind_eq_some_iff.1 h
   obtain ⟨cs, h3, h⟩ := Option.bind_eq_some_iff.1 h
   obtain ⟨ob1, h4, h⟩ := Option.bind_eq_some_iff.1 h
   cases h
   exact oc (T := fun _ => False) (bx (pM P _ _ h1) (hr (by rw [fO h4]; simp [hm])) ho hd h2 hb h3 h4 hm) hg
  ·cases h
 ·rename_i t x y ho
  split at h
  ·rename_i hd
   split at h
   ·rename_i i off he
    split at h
    ·rename_i l ty0 hi
     obtain ⟨ti, h1, h⟩ := Option.bind_eq_some_iff.1 h
     cases hz : ti.ok <;> rw [hz] at h
     ·cases h
     simp only [cond_true] at h
     obtain ⟨s, h2, h⟩ := Option.bind_eq_some_iff.1 h
     obtain ⟨cs, h3, h⟩ := Option.bind_eq_some_iff.1 h
     cases hs : Nat.beq cs.length ti.size <;> rw [hs] at h
     ·cases h
     cases ha : fP cs <;> rw [ha] at h
     ·cases h
     simp only [cond_true] at h
     obtain ⟨l', h4, h⟩ := Option.bind_eq_some_iff.1 h
     obtain ⟨ob1, h5, h⟩ := Option.bind_eq_some_iff.1 h
     cases h
     exact oc (eD (pM P _ _ h1) (hr (by rw [(eH h5).1, List.length_set]; exact hm)) ho hd he h2 hi hz h3 hs ha h4 h5) hg
    ·cases h
   ·cases h
  ·cases h
 ·split at h
  ·rename_i d hd
   cases hb : Nat.blt d n <;> rw [hb] at h
   ·cases h
   simp only [cond_true] at h
   split at h
   ·rename_i s L hs
    cases h
    exact ld hg hd hb (FO hs (hr hm))
   ·cases h
  ·cases h
theorem dW {n : Nat} : ∀ {N : Nat} {t t' : Tg} {K K' : List Fm} {m : Nat} {sl sl' : List (Nat × SV)} {ob ob' : List Ob}, ob.length = m → run P GL n N t K m sl ob = .ok t' K' sl' ob' → t'.ok P GL n0 Pn K' Q ⟨n, sl', ob'⟩ → t.ok P GL n0 Pn K Q ⟨n, sl, ob⟩
 | 0, t, t', K, K', m, sl, sl', ob, ob', hm, he, h => by cases he; exact h
 | N + 1, .c c, t', K, K', m, sl, sl', ob, ob', hm, he, h => by
  show bl P GL n0 Pn c (den P GL n0 Pn Q K) _
  unfold run at he
  split at he
  ·exact EM (dW hm he h)
  ·rename_i id l dr
   split at he
   ·exact yN (dW hm he h)
   ·cases he
  ·exact Dj (dW hm he h)
  ·exact EN (dW hm he h)
  ·exact Dk (dW hm he h)
  ·exact AR (dW hm he h)
  ·cases he
 | N + 1, .o ops l, t', K, K', m, sl, sl', ob, ob', hm, he, h => by
  show br P GL n0 Pn ops l (den P GL n0 Pn Q K) _
  unfold run at he
  split at he
  ·exact GX (dW hm he h)
  ·rename_i o r
   split at he
   ·rename_i hg
    split at he
    ·rename_i m1 sl1 ob1 hop
     exact CL hg (IM (o := { o with guard := none }) hm rfl hop fun hm' => dW hm' he h)
    ·cases he
   ·rename_i hg
    split at he
    ·rename_i d hd
     cases hb : Nat.blt d n <;> rw [hb] at he
     ·cases he
     ·exact IX hg hd hb (dW hm he h)
    ·cases he
   ·cases he
 | N + 1, .e e, t', K, K', m, sl, sl', ob, ob', hm, he, h => by
  show den P GL n0 Pn Q K e _
  cases K with
  | nil => simp only [run, reduceCtorEq] at he
  | cons f K =>
   cases f with
   | s c => cases e <;> exact (dW (N := N) hm he h : Tg.ok _ _ _ _ _ _ _ _)
   | b id =>
    cases e with
    | exit j =>
     change cond (Nat.beq j id) _ _ = _ at he
     cases hb : Nat.beq j id <;> rw [hb] at he
     ·have h1 := dW (N := N) hm he h
      exact DI (Q := den P GL n0 Pn Q K) hb h1
     ·have e : j = id := by simpa using hb
      subst e
      have h1 := dW (N := N) hm he h
      exact Fl (Q := den P GL n0 Pn Q K) h1
    | normal => exact (dW (N := N) hm he h : Tg.ok _ _ _ _ _ _ _ _)
    | goto l => exact (dW (N := N) hm he h : Tg.ok _ _ _ _ _ _ _ _)
    | ret => exact (dW (N := N) hm he h : Tg.ok _ _ _ _ _ _ _ _)
   | q R =>
    cases e with
    | normal => cases he
    | exit j => exact (dW (N := N) hm he h : Tg.ok _ _ _ _ _ _ _ _)
    | goto l => exact (dW (N := N) hm he h : Tg.ok _ _ _ _ _ _ _ _)
    | ret => exact (dW (N := N) hm he h : Tg.ok _ _ _ _ _ _ _ _)
theorem gy {Q : Ex → St → Prop} (h : br P GL n0 Pn ops ({ o with guard := none } :: rest) Q ⟨n, sl, ob⟩) (hg : G7 ops sl o = some true := by exact rfl) : br P GL n0 Pn ops (o :: rest) Q ⟨n, sl, ob⟩ := CL hg h
variable {c : Code} {t : Tg} {K K' : List Fm}
theorem gc (N : Nat) (h : t.ok P GL n0 Pn K' Q ⟨n, sl', ob'⟩) (hm : ob.length = m := by simp only [List.length_cons, List.length_nil, Nat.reduceAdd]; rfl) (he : run P GL n N (.c c) K m sl ob = .ok t K' sl' ob' := by exact rfl) : bl P GL n0 Pn c (den P GL n0 Pn Q K) ⟨n, sl, ob⟩ := dW (t := .c c) hm he h
variable {l : List Oper}
theorem go (N : Nat) (h : t.ok P GL n0 Pn K' Q ⟨n, sl', ob'⟩) (hm : ob.length = m := by simp only [List.length_cons, List.length_nil, Nat.reduceAdd]; rfl) (he : run P GL n N (.o ops l) K m sl ob = .ok t K' sl' ob' := by exact rfl) : br P GL n0 Pn ops l (den P GL n0 Pn Q K) ⟨n, sl, ob⟩ := dW (t := .o ops l) hm he h
variable {e : Ex}
theorem ge (N : Nat) (h : t.ok P GL n0 Pn K' Q ⟨n, sl', ob'⟩) (hm : ob.length = m := by simp only [List.length_cons, List.length_nil, Nat.reduceAdd]; rfl) (he : run P GL n N (.e e) K m sl ob = .ok t K' sl' ob' := by exact rfl) : den P GL n0 Pn Q K e ⟨n, sl, ob⟩ := dW (t := .e e) hm he h
variable {K0 : List Fm} {m1 : Nat} {sl1 sl2 : List (Nat × SV)} {ob1 : List Ob}
theorem gk (N : Nat) (L : List Nat) (M : Nat) {t0 : Tg} (h : t.ok P GL n0 Pn K' Q ⟨n, sl', ob'⟩) (hm : ob.length = m) (h1 : run P GL n N t0 K0 m sl ob = .ok (.c c) K sl1 ob1) (h2 : ig sl1 L = some sl2) (hm1 : ob1.length = m1) (h3 : run P GL n M (.c c) K m1 sl2 ob1 = .ok t K' sl' ob') : t0.ok P GL n0 Pn K0 Q ⟨n, sl, ob⟩ :=
 dW hm h1 (show bl _ _ _ _ _ _ _ from wC L h2 (dW (t := .c c) hm1 h3 h))
theorem kc (N : Nat) (L : List Nat) (M : Nat) {c0 : Code} (h : t.ok P GL n0 Pn K' Q ⟨n, sl', ob'⟩) (hm : ob.length = m := by simp only [List.length_cons, List.length_nil, Nat.reduceAdd]; rfl) (h1 : run P GL n N (.c c0) K0 m sl ob = .ok (.c c) K sl1 ob1 := by exact rfl) (h2 : ig sl1 L = some sl2 := by exact rfl) (hm1 : ob1.length = m1 := by simp only [List.length_cons, List.length_nil, Nat.reduceAdd]; rfl) (h3 : run P GL n M (.c c) K m1 sl2 ob1 = .ok t K' sl' ob' := by exact rfl) : bl P GL n0 Pn c0 (den P GL n0 Pn Q K0) ⟨n, sl, ob⟩ := gk (t0 := .c c0) N L M h hm h1 h2 hm1 h3
theorem ko (N : Nat) (L : List Nat) (M : Nat) (h : t.ok P GL n0 Pn K' Q ⟨n, sl', ob'⟩) (hm : ob.length = m := by simp only [List.length_cons, List.length_nil, Nat.reduceAdd]; rfl) (h1 : run P GL n N (.o ops l) K0 m sl ob = .ok (.c c) K sl1 ob1 := by exact rfl) (h2 : ig sl1 L = some sl2 := by exact rfl) (hm1 : ob1.length = m1 := by simp only [List.length_cons, List.length_nil, Nat.reduceAdd]; rfl) (h3 : run P GL n M (.c c) K m1 sl2 ob1 = .ok t K' sl' ob' := by exact rfl) : br P GL n0 Pn ops l (den P GL n0 Pn Q K0) ⟨n, sl, ob⟩ := gk (t0 := .o ops l) N L M h hm h1 h2 hm1 h3
theorem ke (N : Nat) (L : List Nat) (M : Nat) (h : t.ok P GL n0 Pn K' Q ⟨n, sl', ob'⟩) (hm : ob.length = m := by simp only [List.length_cons, List.length_nil, Nat.reduceAdd]; rfl) (h1 : run P GL n N (.e e) K0 m sl ob = .ok (.c c) K sl1 ob1 := by exact rfl) (h2 : ig sl1 L = some sl2 := by exact rfl) (hm1 : ob1.length = m1 := by simp only [List.length_cons, List.length_nil, Nat.reduceAdd]; rfl) (h3 : run P GL n M (.c c) K m1 sl2 ob1 = .ok t K' sl' ob' := by exact rfl) : den P GL n0 Pn Q K0 e ⟨n, sl, ob⟩ := gk (t0 := .e e) N L M h hm h1 h2 hm1 h3
end
end Go.Vd
namespace Go.Vd
open Go Go.RowKit
section
variable {P : Program} {GL : Nat → List D} {n0 : Nat} {Pn : oR}
variable {f : FuncId} {fn : Func} {c : Code} {ob : List Ob} {n : Nat} {rs : List ResultVar} {sl : List (Nat × SV)}
theorem bS {args : List SV} {Q : Out → List Ob → Prop} (hf : P.funcs[f]? = some fn) (hnt : fn.ntmps = n) (k : Nat) (h : bl P GL k (JJ k Q) c (den P GL k (JJ k Q) (fin P GL k rs Q) []) ⟨n, sl, ob⟩)
 (hb : fn.body = some c := by exact rfl) (hrs : fn.results.toList = rs := by exact rfl) (hn : Nat.ble args.length n = true := by exact rfl) (hsl : nX 0 args = some sl := by exact rfl) (hk : ob.length = k := by exact rfl) : ey P GL f ob args Q := xr hf hb hnt hrs hn hsl k hk h
theorem bD {args : List D} {Q : D → Prop} (hf : P.funcs[f]? = some fn) (hnt : fn.ntmps = n) (h : bl P GL 0 ⟨fun _ _ _ => False, fun _ _ _ _ => False⟩ c (den P GL 0 ⟨fun _ _ _ => False, fun _ _ _ _ => False⟩ (fin P GL 0 rs (vq Q)) []) ⟨n, sl, []⟩)
 (hb : fn.body = some c := by exact rfl) (hrs : fn.results.toList = rs := by exact rfl) (hn : Nat.ble args.length n = true := by exact rfl) (hsl : nX 0 (args.map .d) = some sl := by exact rfl) : cD P GL f args Q := xt hf hb hnt hrs hn hsl h
variable {Q : Ex → St → Prop} {K : List Fm}
variable {csl : List (Nat × SV)} {ι : Type}
theorem lP (ov : ι → List (Nat × SV)) (cs : List Nat) (Inv : ι → Prop) (m : ι → Nat) (i0 : ι) (hk : ig sl cs = some csl) (hI : Inv i0)
 (hm : nQ n0 ⟨n, sl, ob⟩ ⟨n, ov i0 ++ csl, ob⟩ (KQ 0 ob.length))
 (h : ∀ i, Inv i → bl P GL n0 Pn c (den P GL n0 Pn Q (.q (fun σ' => p7 n0 (fun i => ⟨n, ov i ++ csl, ob⟩) (fun j => Inv j ∧ m j < m i) σ') :: K)) ⟨n, ov i ++ csl, ob⟩) : bl P GL n0 Pn (.loop c) (den P GL n0 Pn Q K) ⟨n, sl, ob⟩ :=
 yP ov cs Inv m i0 hk hI hm h
theorem lp (ov : ι → List (Nat × SV)) (obi : ι → List Ob) (cs : List Nat) (Inv : ι → Prop) (m : ι → Nat) (i0 : ι) (ρ : List Nat) (hk : ig sl cs = some csl) (hI : Inv i0)
 (hm : nQ n0 ⟨n, sl, ob⟩ ⟨n, ov i0 ++ csl, obi i0⟩ ρ)
 (h : ∀ i, Inv i → bl P GL n0 Pn c (den P GL n0 Pn Q (.q (fun σ' => p7 n0 (fun i => ⟨n, ov i ++ csl, obi i⟩) (fun j => Inv j ∧ m j < m i) σ') :: K)) ⟨n, ov i ++ csl, obi i⟩) : bl P GL n0 Pn (.loop c) (den P GL n0 Pn Q K) ⟨n, sl, ob⟩ :=
 yO ov obi cs Inv m i0 ρ hk hI hm h
variable {c1 c2 : Code}
theorem xc (ov : ι → List (Nat × SV)) (cs : List Nat) (Inv : ι → Prop) (hk : ig sl cs = some csl)
 (h1 : bl P GL n0 Pn c1 (den P GL n0 Pn Q (.q (fun σ' => p7 n0 (fun i => ⟨n, ov i ++ csl, ob⟩) Inv σ') :: K)) ⟨n, sl, ob⟩) (h2 : ∀ i, Inv i → bl P GL n0 Pn c2 (den P GL n0 Pn Q K) ⟨n, ov i ++ csl, ob⟩) : bl P GL n0 Pn c1 (den P GL n0 Pn Q (.s c2 :: K)) ⟨n, sl, ob⟩ :=
 AQ ov cs Inv hk h1 h2
theorem xo (ov : ι → List (Nat × SV)) (obi : ι → List Ob) (cs : List Nat) (Inv : ι → Prop) (hk : ig sl cs = some csl)
 (h1 : bl P GL n0 Pn c1 (den P GL n0 Pn Q (.q (fun σ' => p7 n0 (fun i => ⟨n, ov i ++ csl, obi i⟩) Inv σ') :: K)) ⟨n, sl, ob⟩) (h2 : ∀ i, Inv i → bl P GL n0 Pn c2 (den P GL n0 Pn Q K) ⟨n, ov i ++ csl, obi i⟩) : bl P GL n0 Pn c1 (den P GL n0 Pn Q (.s c2 :: K)) ⟨n, sl, ob⟩ :=
 AP ov obi cs Inv hk h1 h2
variable {sl' : List (Nat × SV)} {ob' : List Ob}
theorem bk {S : ι → St} {I : ι → Prop} (i : ι) (hS : S i = ⟨n, sl', ob'⟩) (hI : I i) (ρ : List Nat) (hm : nQ n0 ⟨n, sl, ob⟩ ⟨n, sl', ob'⟩ ρ) : Tg.ok P GL n0 Pn (.q (fun σ' => p7 n0 S I σ') :: K) Q ⟨n, sl, ob⟩ (.e .normal) := (⟨i, ρ, hI, hS ▸ hm⟩ : p7 n0 S I _)
theorem bi {S : ι → St} {I : ι → Prop} (i : ι) (hS : S i = ⟨n, sl', ob'⟩) (hI : I i) (hm : nQ n0 ⟨n, sl, ob⟩ ⟨n, sl', ob'⟩ (KQ 0 ob'.length)) : Tg.ok P GL n0 Pn (.q (fun σ' => p7 n0 S I σ') :: K) Q ⟨n, sl, ob⟩ (.e .normal) := (⟨i, _, hI, hS ▸ hm⟩ : p7 n0 S I _)
theorem mz {ρ : List Nat} (hob : bX ob ρ ob' ρ := by repeat (first | exact cW | refine bh ?_ | refine cu ?_ | refine Eg ?_ | refine tr ?_ | refine Ee ?_)) (hsl : mL ob ρ sl sl' := by repeat (first | exact dF | refine aH ?_)) (hp : pre 0 n0 ρ = true := by exact rfl) (hnd : fE ρ = true := by exact rfl) (hno : fJ ob' = true := by exact rfl) : nQ n0 ⟨n, sl, ob⟩ ⟨n, sl', ob'⟩ ρ := zo hp hnd hno hob hsl
variable {σ : St} {b : Bool} {p q : Prop}
theorem cj {c : Operand} (h1 : p → bl P GL n0 Pn c1 Q σ) (h2 : q → bl P GL n0 Pn c2 Q σ) (hc : bJ GL σ.sl c = some (.d (.v (.bool b))) := by exact rfl)
 (hp : (b = true) = p := by first | (simp only [dh, Int.reduceEq, Int.reduceNe, Int.reduceLT, Int.reduceLE]; exact rfl) | exact rfl) (hq : (b = false) = q := by first | (simp only [dh, Int.reduceEq, Int.reduceNe, Int.reduceLT, Int.reduceLE]; exact rfl) | exact rfl) : bl P GL n0 Pn (.cond c c1 c2) Q σ := ju hc (fun h => h1 (hp ▸ h)) (fun h => h2 (hq ▸ h))
theorem cJ {c : Operand} (h2 : q → bl P GL n0 Pn c2 Q σ) (h1 : p → bl P GL n0 Pn c1 Q σ) (hc : bJ GL σ.sl c = some (.d (.v (.bool b))) := by exact rfl)
 (hp : (b = true) = p := by first | (simp only [dh, Int.reduceEq, Int.reduceNe, Int.reduceLT, Int.reduceLE]; exact rfl) | exact rfl) (hq : (b = false) = q := by first | (simp only [dh, Int.reduceEq, Int.reduceNe, Int.reduceLT, Int.reduceLE]; exact rfl) | exact rfl) : bl P GL n0 Pn (.cond c c1 c2) Q σ := ju hc (fun h => h1 (hp ▸ h)) (fun h => h2 (hq ▸ h))
theorem ct {c : Operand} (h : bl P GL n0 Pn c1 Q σ) (hc : bJ GL σ.sl c = some (.d (.v (.bool b))) := by exact rfl) (hf : (b = false) = False := by simp only [dh, Int.reduceEq, Int.reduceNe, Int.reduceLT, Int.reduceLE]) : bl P GL n0 Pn (.cond c c1 c2) Q σ := ju hc (fun _ => h) (fun e => (hf ▸ e : False).elim)
theorem cf {c : Operand} (h : bl P GL n0 Pn c2 Q σ) (hc : bJ GL σ.sl c = some (.d (.v (.bool b))) := by exact rfl) (hf : (b = true) = False := by simp only [dh, Int.reduceEq, Int.reduceNe, Int.reduceLT, Int.reduceLE]) : bl P GL n0 Pn (.cond c c1 c2) Q σ := ju hc (fun e => (hf ▸ e : False).elim) (fun _ => h)
variable {d t : Nat} {y : SV}
theorem lI {x : SV} (hd : gw d sl = some y) (h : gw t sl = some x) : gw t ((d, y) :: sl) = some x := by
 show cond (Nat.beq d t) (some y) (gw t sl) = some x
 cases hb : Nat.beq d t
 ·exact h
 ·have e : d = t := by simpa using hb
  subst e; exact hd.symm.trans h
variable {ops l : List Oper}
theorem oX {s : SV} {nw : List (Nat × SV)} (hy : gw d sl = some y) (hd : ki nw ((d, y) :: sl) = true) (h : br P GL n0 Pn ops l Q ⟨n, (t, s) :: sl, ob⟩) : br P GL n0 Pn ops l Q ⟨n, (t, s) :: (nw ++ (d, y) :: sl), ob⟩ := fun B hB a w ⟨g, hr⟩ =>
 h B hB a w ⟨g, hr.defers, hr.size, fun u => by
  have h1 := hr.di u
  show (nf u ((t, s) :: sl)).Den g _
  rw [fe] at h1 ⊢
  split
  ·rename_i e; rw [if_pos e] at h1; exact h1
  ·rename_i e
   rw [if_neg e] at h1
   rw [xy] at h1 ⊢
   cases hs : gw u sl with
   | none => trivial
   | some x => rw [fc hd (lI hy hs)] at h1; exact h1, hr.store, hr.iR⟩
variable {o : Oper}
theorem Ip.over (hy : gw d sl = some y) (h : Ip ops sl o) : Ip ops ((d, y) :: sl) o := by
 cases h with
 | none h => exact .none h
 | yes h1 h2 h3 h4 => exact .yes h1 h2 (lI hy h3) h4
variable {rest : List Oper} {yt : Nat} {q1 q2 : Prop}
theorem oa {p : Bool} (k : Nat)
 (h1 : q1 → (∀ nw, gw yt nw = some (.d (.v (.bool p))) → ki nw ((d, .d (.v (.bool true))) :: sl) = true → br P GL n0 Pn ops (o :: rest) Q ⟨n, nw ++ (d, .d (.v (.bool true))) :: sl, ob⟩) → br P GL n0 Pn ops l Q ⟨n, (d, .d (.v (.bool true))) :: sl, ob⟩)
 (h2 : q2 → (∀ nw, ki nw ((d, .d (.v (.bool false))) :: sl) = true → br P GL n0 Pn ops (o :: rest) Q ⟨n, nw ++ (d, .d (.v (.bool false))) :: sl, ob⟩) → br P GL n0 Pn ops l Q ⟨n, (d, .d (.v (.bool false))) :: sl, ob⟩)
 (h : br P GL n0 Pn ops rest Q ⟨n, (t, .d (.v (.bool (b && p)))) :: sl, ob⟩)
 (hl : fW k l = some (o :: rest) := by exact rfl) (ho : o.op = .pick (.tmp d) (.tmp yt) (.const (.bool false)) := by exact rfl) (hb : gw d sl = some (.d (.v (.bool b))) := by exact rfl) (hd : o.dst = some t := by exact rfl) (ht : Nat.blt t n = true := by exact rfl)
 (hp : (b = true) = q1 := by first | (simp only [dh, Int.reduceEq, Int.reduceNe, Int.reduceLT, Int.reduceLE]; exact rfl) | exact rfl) (hq : (b = false) = q2 := by first | (simp only [dh, Int.reduceEq, Int.reduceNe, Int.reduceLT, Int.reduceLE]; exact rfl) | exact rfl) (hg : Ip ops sl o := by exact .none rfl) : br P GL n0 Pn ops l Q ⟨n, sl, ob⟩ := by
 cases hbb : b with
 | true =>
  subst hbb
  refine j1 d true hb rfl (h1 (hp ▸ rfl) fun nw hy hdj => j9 (hg.over hb) hdj (ld rfl hd ht (mr ho (fc hdj (lI hb hb)) (qf hy) ?_)))
  exact oX hb hdj (by simpa using h)
 | false =>
  subst hbb
  refine j1 d false hb rfl (h2 (hq ▸ rfl) fun nw hdj => j9 (hg.over hb) hdj (ld rfl hd ht (my ho (fc hdj (lI hb hb)) rfl ?_)))
  exact oX hb hdj (by simpa using h)
theorem oo {p : Bool} (k : Nat)
 (h1 : q1 → (∀ nw, gw yt nw = some (.d (.v (.bool p))) → ki nw ((d, .d (.v (.bool false))) :: sl) = true → br P GL n0 Pn ops (o :: rest) Q ⟨n, nw ++ (d, .d (.v (.bool false))) :: sl, ob⟩) → br P GL n0 Pn ops l Q ⟨n, (d, .d (.v (.bool false))) :: sl, ob⟩)
 (h2 : q2 → (∀ nw, ki nw ((d, .d (.v (.bool true))) :: sl) = true → br P GL n0 Pn ops (o :: rest) Q ⟨n, nw ++ (d, .d (.v (.bool true))) :: sl, ob⟩) → br P GL n0 Pn ops l Q ⟨n, (d, .d (.v (.bool true))) :: sl, ob⟩)
 (h : br P GL n0 Pn ops rest Q ⟨n, (t, .d (.v (.bool (b || p)))) :: sl, ob⟩)
 (hl : fW k l = some (o :: rest) := by exact rfl) (ho : o.op = .pick (.tmp d) (.const (.bool true)) (.tmp yt) := by exact rfl) (hb : gw d sl = some (.d (.v (.bool b))) := by exact rfl) (hd : o.dst = some t := by exact rfl) (ht : Nat.blt t n = true := by exact rfl)
 (hp : (b = false) = q1 := by first | (simp only [dh, Int.reduceEq, Int.reduceNe, Int.reduceLT, Int.reduceLE]; exact rfl) | exact rfl) (hq : (b = true) = q2 := by first | (simp only [dh, Int.reduceEq, Int.reduceNe, Int.reduceLT, Int.reduceLE]; exact rfl) | exact rfl) (hg : Ip ops sl o := by exact .none rfl) : br P GL n0 Pn ops l Q ⟨n, sl, ob⟩ := by
 cases hbb : b with
 | false =>
  subst hbb
  refine j1 d false hb rfl (h1 (hp ▸ rfl) fun nw hy hdj => j9 (hg.over hb) hdj (ld rfl hd ht (my ho (fc hdj (lI hb hb)) (qf hy) ?_)))
  exact oX hb hdj (by simpa using h)
 | true =>
  subst hbb
  refine j1 d true hb rfl (h2 (hq ▸ rfl) fun nw hdj => j9 (hg.over hb) hdj (ld rfl hd ht (mr ho (fc hdj (lI hb hb)) rfl ?_)))
  exact oX hb hdj (by simpa using h)
variable {ty : TypeId} {ti : TI} {k : Nat}
theorem tE {K : St → Prop} {cs : List SV} (hT : bc P ty = ti) (h : K ⟨n, (t, .bZ k 0) :: sl, ob'⟩) (ho : o.op = .alloc ty := by exact rfl) (hd : o.dst = some t := by exact rfl) (hz : ti.Gq = true := by exact rfl) (ht : Nat.blt t n = true := by exact rfl) (hm : nN ti.zero = some cs := by exact rfl) (hob : iX ob [.cells cs ty] = some ob' := by exact rfl) (hl : ob.length = k := by simp only [List.length_cons, List.length_nil, Nat.reduceAdd]; rfl) : de P GL n0 Pn (fun _ => False) o ⟨n, sl, ob⟩ K := zd hT hz ho hd ht hm hl hob h
variable {e : TypeId} {size bytes : Nat}
theorem gR {len : Nat} {K : St → Prop} {parts : Array (Nat × Operand)} (TS : je P ty e size bytes) (xs : List Operand) {els : List (List D)} (hT : bc P e = ti) (h : K ⟨n, (t, .own k size els) :: sl, ob'⟩) (ho : o.op = .buildSlice ty len parts := by exact rfl)
 (hd : o.dst = some t := by exact rfl) (ht : Nat.blt t n = true := by exact rfl) (hp : DJ 0 xs = some parts.toList := by exact rfl) (hel : DV GL sl ti.agg xs = some els := by exact rfl) (hall : Ap size els = true := by exact rfl) (hn : xs.length = len := by exact rfl) (hsz : 0 < size := by decide) (hn0 : 0 < len := by decide) (hbig : len * size ≤ 16777216 := by decide) (hl : ob.length = k := by simp only [List.length_cons, List.length_nil, Nat.reduceAdd]; rfl) (hob : iX ob [.row e size] = some ob' := by exact rfl) : de P GL n0 Pn (fun _ => False) o ⟨n, sl, ob⟩ K := IK TS xs hT ho hd ht hp hel hall hn hsz hn0 hbig hl hob h
theorem nU {i : Nat} {ob1 : List Ob} {K : St → Prop} {s x : Operand} {ls news : List (List D)} {or : Ob} {sx : SV} (TS : je P ty e size bytes) (h : K ⟨n, (t, .own i size (ls ++ news)) :: sl', ob'⟩) (ho : o.op = .call { callee := .builtin .append, args := #[s, x], argTypes := #[ty, ty] } := by exact rfl)
 (hd : o.dst = some t := by exact rfl) (ht : Nat.blt t n = true := by exact rfl) (hs : bJ GL sl s = some (.own i size ls) := by exact rfl) (hx : bJ GL sl x = some sx := by exact rfl) (hxD : sx.gp = some (.sl size news) := by exact rfl) (hi : cC i ob = some or := by exact rfl) (hor : or = .row e size ∨ or = .bP e size := by exact .inl rfl)
 (hsz : 0 < size := by decide) (hne : news ≠ [] := by simp) (h63 : ls.length + news.length ≤ maxLen ∧ (ls.length + news.length) * bytes ≤ 140737488355328 := by first | decide | (simp only [maxLen, List.length_cons, List.length_nil]; omega) | (simp only [maxLen, List.length_cons, List.length_nil, List.length_append, List.length_map]; omega) | omega) (hsl : yq i sl = some sl' := by exact rfl) (hob : yr i ob = some ob1 := by exact rfl) (hob' : hJ i (.row e size) ob1 = some ob' := by exact rfl) : de P GL n0 Pn (fun j => j = i) o ⟨n, sl, ob⟩ K := rj TS ho hd ht hs hx hxD hi hor hsz hne h63 hsl hob hob' h
theorem fN {Q : Out → List Ob → Prop} (h : Fin P GL n0 rs Q σ) : fin P GL n0 rs Q .normal σ := h
end
section
variable {P : Program} [T : jg P] {GL : Nat → List D} {n0 : Nat} {Pn : oR}
def yU (P : Program) [T : jg P] (sl : List (Nat × SV)) (ob : List Ob) : List ResultVar → Option (List SV)
 | [] => some []
 | .tmp t :: r => (gw t sl).bind fun s => (yU P sl ob r).bind fun l => some (s :: l)
 | .cell x t :: r => (Iw P t).bind fun ti => cond ti.ok (match gw x sl with
  | some (.bZ i off) => match cC i ob with
   | some (.cells l _) => (fW off l).bind fun l1 => (lH ti.size l1).bind fun cs => (mn ti.agg cs).bind fun s => (yU P sl ob r).bind fun l => some (s :: l)
   | _ => none
  | _ => none) none
theorem oW {n : Nat} {sl : List (Nat × SV)} {ob : List Ob} : ∀ {rs : List ResultVar} {l : List SV}, yU P sl ob rs = some l → gb GL P ⟨n, sl, ob⟩ rs l
 | [], l, h => by simp only [yU, Option.some.injEq] at h; exact h.symm
 | .tmp t :: r, l, h => by
  obtain ⟨s, h1, h⟩ := Option.bind_eq_some_iff.1 h
  obtain ⟨l1, h2, h3⟩ := Option.bind_eq_some_iff.1 h
  cases h3; exact ⟨_, _, rfl, h1, oW h2⟩
 | .cell x t :: r, l, h => by
  obtain ⟨ti, h1, h⟩ := Option.bind_eq_some_iff.1 h
  cases hz : ti.ok <;> rw [hz] at h
  ·cases h
  simp only [cond_true] at h
  split at h
  ·rename_i i off he
   split at h
   ·rename_i l0 ty hi
    obtain ⟨l1, h2, h⟩ := Option.bind_eq_some_iff.1 h
    obtain ⟨cs, h3, h⟩ := Option.bind_eq_some_iff.1 h
    obtain ⟨s, h4, h⟩ := Option.bind_eq_some_iff.1 h
    obtain ⟨l2, h5, h6⟩ := Option.bind_eq_some_iff.1 h
    cases h6
    exact ⟨_, _, rfl, fm he hi (pM P _ _ h1) hz h2 h3 h4, oW h5⟩
   ·cases h
  ·cases h
variable {rs : List ResultVar} {σ : St}
theorem fR {Q : Out → List Ob → Prop} (h : Fin P GL n0 rs Q σ) : Tg.ok P GL n0 Pn [] (fin P GL n0 rs Q) σ (.e .ret) := h
theorem fM {Q : Out → List Ob → Prop} (h : Fin P GL n0 rs Q σ) : Tg.ok P GL n0 Pn [] (fin P GL n0 rs Q) σ (.e .normal) := h
variable {n : Nat} {sl : List (Nat × SV)} {ob : List Ob}
theorem eo {Q : Out → List Ob → Prop} {l : List SV} {d : D} (d' : D) (ρ : List Nat) (ob' : List Ob) (hq : Q (.ret (.d d')) ob') (h : yU P sl ob rs = some l := by exact rfl) (hd : (n7 l).gp = some d := by exact rfl) (hl : At d d' := by repeat (first | exact .refl _ | exact .nil | refine .agg ?_ | refine .cb ?_ | refine .sl ?_ | refine .cons ?_ ?_))
 (hob : bX ob ρ ob' ρ := by repeat (first | exact cW | refine bh ?_ | refine cu ?_ | refine Eg ?_ | refine tr ?_ | refine Ee ?_)) (hp : pre 0 n0 ρ = true := by exact rfl) (hnd : fE ρ = true := by exact rfl) (hno : fJ ob' = true := by exact rfl) : Tg.ok P GL n0 Pn [] (fin P GL n0 rs Q) ⟨n, sl, ob⟩ (.e .ret) :=
 qF (n0 := n0) (oW h) hd d' hl ρ ob' hp hnd hno hob hq
theorem ed {Q : D → Prop} {l : List SV} {d : D} (d' : D) (hq : Q d') (h : yU P sl ob rs = some l := by exact rfl) (hd : (n7 l).gp = some d := by exact rfl) (hl : At d d' := by repeat (first | exact .refl _ | exact .nil | refine .agg ?_ | refine .cb ?_ | refine .sl ?_ | refine .cons ?_ ?_)) : Tg.ok P GL 0 Pn [] (fin P GL 0 rs (vq Q)) ⟨n, sl, ob⟩ (.e .ret) :=
 FI (oW h) hd d' hl hq
theorem ez {Q : D → Prop} {l : List SV} {d : D} (hq : Q d) (h : yU P sl ob rs = some l := by exact rfl) (hd : (n7 l).gp = some d := by exact rfl) : Tg.ok P GL 0 Pn [] (fin P GL 0 rs (vq Q)) ⟨n, sl, ob⟩ (.e .ret) :=
 Ka (oW h) hd hq
theorem qI {Q : Out → List Ob → Prop} {l : List SV} {d : D} (ρ : List Nat) (ob' : List Ob) (hq : Q (.ret (.d d)) ob') (h : yU P sl ob rs = some l := by exact rfl) (hd : (n7 l).gp = some d := by exact rfl)
 (hob : bX ob ρ ob' ρ := by repeat (first | exact cW | refine bh ?_ | refine cu ?_ | refine Eg ?_ | refine tr ?_ | refine Ee ?_)) (hp : pre 0 n0 ρ = true := by exact rfl) (hnd : fE ρ = true := by exact rfl) (hno : fJ ob' = true := by exact rfl) : Tg.ok P GL n0 Pn [] (fin P GL n0 rs Q) ⟨n, sl, ob⟩ (.e .ret) :=
 nG (n0 := n0) (oW h) hd ρ ob' hp hnd hno hob hq
variable {l : List Oper} {o : Oper} {b : Bool}
theorem HR {B : Bs} {g : Gh} {a : Act} {w : World} (hr : cT GL B ⟨n, sl, ob⟩ g a w) (h : G7 l sl o = some b) : Region.wanted o (yielded l.toArray a.tmps) = b := by
 unfold G7 at h
 split at h
 ·rename_i hg; cases h; simp [Region.wanted, hg]
 ·rename_i j want hg
  obtain ⟨d', h1, h2⟩ := Option.bind_eq_some_iff.1 h
  split at h2
  ·rename_i hs; rw [iq hr hg h1 hs]; simp only [Option.some.injEq] at h2; rw [← h2]; cases want <;> rfl
  ·rename_i hs; rw [iq hr hg h1 hs]; simp only [Option.some.injEq] at h2; rw [← h2]; cases want <;> rfl
  ·rename_i x hs
   cases h2
   have hbv : a.tmps.getD d' undef = .tuple x := by have := hr.di d'; rw [fI hs] at this; exact this
   exact mN hg (by simpa using h1) hbv
  ·cases h2
def En (P : Program) [T : jg P] (GL : Nat → List D) (n : Nat) (ops : List Oper) (ob : List Ob) : List Nat → List (Nat × Nat) → List (Nat × SV) → Option (List (Nat × Nat) × List (Nat × SV))
 | [], L, sl => some (L, sl)
 | i :: r, L, sl => match cC i ops with
  | some o => match o.dst with
   | some d => cond (Nat.blt d n) (match G7 ops sl o with
    | some true => match KS P GL sl ob o.op with
     | some (s, L') => match vB i L' L with
      | some L2 => En P GL n ops ob r L2 ((d, s) :: sl)
      | none => none
     | none => none
    | some false => En P GL n ops ob r L ((d, .d (.v undef)) :: sl)
    | none => none) none
   | none => none
  | none => none
def F1 (ops : List Oper) : List Nat → Array Bool → Bool
 | [], _ => true
 | i :: r, listed => ((Region.ready .any ops.toArray listed).contains i && Region.free .any ops.toArray listed i && Region.noSelect ops.toArray) && F1 ops r (listed.setIfInBounds i true)
def GP : List Nat → Array Bool → Array Bool
 | [], l => l
 | i :: r, l => GP r (l.setIfInBounds i true)
variable {fuel t : Nat} {listed : Array Bool}
theorem El {Q : Ex → St → Prop} {L : List (Nat × Nat)} (i : Nat) (ho : l[i]? = some o) (hw : ∀ B g a w, cT GL B ⟨n, sl, ob⟩ g a w → Region.wanted o (yielded l.toArray a.tmps) = false) (hd : o.dst = some t) (ht : Nat.blt t n = true)
 (hb : ((Region.ready .any l.toArray listed).contains i && Region.free .any l.toArray listed i && Region.noSelect l.toArray) = true)
 (h : bI P GL n0 Pn l fuel (listed.setIfInBounds i true) L Q ⟨n, (t, .d (.v undef)) :: sl, ob⟩) : bI P GL n0 Pn l (fuel + 1) listed L Q ⟨n, sl, ob⟩ := fun B hB g a w Hc hr hc hheld => by
 simp only [Bool.and_eq_true] at hb
 obtain ⟨⟨hready, hfree⟩, hsel⟩ := hb
 have ho' : l.toArray[i]? = some o := by simpa using ho
 refine qS (rq ho) ho' (Region.noSelect_spec hsel) fuel _ listed a w (Region.free_spec ho' hfree) (by simpa using hready) (v := undef) (.inr ⟨hw B g a w hr, rfl⟩) hc ?_
 rw [hd]
 exact h B hB g _ w _ (hr.qp (s := .d (.v undef)) ht rfl) hc hheld
theorem yn {Q : Ex → St → Prop} {l : List Oper} {fuel : Nat} {n : Nat} {ob : List Ob} : ∀ {is : List Nat} {listed : Array Bool} {L L' : List (Nat × Nat)} {sl sl' : List (Nat × SV)}, En P GL n l ob is L sl = some (L', sl') → F1 l is listed = true → bI P GL n0 Pn l fuel (GP is listed) L' Q ⟨n, sl', ob⟩ → bI P GL n0 Pn l (fuel + is.length) listed L Q ⟨n, sl, ob⟩
 | [], listed, L, L', sl, sl', h, hc, hr => by cases h; exact hr
 | i :: r, listed, L, L', sl, sl', h, hc, hr => by
  unfold En at h
  unfold F1 at hc
  obtain ⟨hc1, hc2⟩ := (Bool.and_eq_true _ _).mp hc
  split at h
  ·rename_i o ho
   split at h
   ·rename_i d hd
    cases hb : Nat.blt d n <;> rw [hb] at h
    ·cases h
    simp only [cond_true] at h
    split at h
    ·rename_i hg
     split at h
     ·rename_i s L1 hs
      split at h
      ·rename_i L2 hL
       exact rK (fuel := fuel + r.length) i (bL ho) (fun B g a w hr => HR hr hg) hd hb hc1 rfl (FO hs ⟨L2, hL, yn h hc2 hr⟩)
      ·cases h
     ·cases h
    ·rename_i hg
     exact El (fuel := fuel + r.length) i (bL ho) (fun B g a w hr => HR hr hg) hd hb hc1 (yn h hc2 hr)
    ·cases h
   ·cases h
  ·cases h
variable {fuel' : Nat} {listed' : Array Bool} {sl' : List (Nat × SV)}
theorem ga (is : List Nat) {Q : Ex → St → Prop} {L L' : List (Nat × Nat)} (h : bI P GL n0 Pn l fuel' listed' L' Q ⟨n, sl', ob⟩) (he : En P GL n l ob is L sl = some (L', sl') := by exact rfl) (hc : F1 l is listed = true := by kernel_rfl) (hl : GP is listed = listed' := by exact rfl)
 (hf : Nat.sub fuel is.length = fuel' := by exact rfl) (hle : Nat.ble is.length fuel = true := by exact rfl) : bI P GL n0 Pn l fuel listed L Q ⟨n, sl, ob⟩ := by
 subst hl hf
 have h1 := yn he hc h
 have h2 : is.length ≤ fuel := by simpa using hle
 have e : Nat.sub fuel is.length + is.length = fuel := Nat.sub_add_cancel h2
 rwa [e] at h1
theorem gz (is : List Nat) {Q : Ex → St → Prop} {id : Nat} {L' : List (Nat × Nat)} (hm : P.follows .mixedOrders = true) (h : bI P GL n0 Pn l fuel' listed' L' Q ⟨n, sl', ob⟩) (hfu : l.length = fuel := by exact rfl) (hli : Array.replicate fuel false = listed := by exact rfl)
 (he : En P GL n l ob is [] sl = some (L', sl') := by exact rfl) (hc : F1 l is listed = true := by kernel_rfl) (hl : GP is listed = listed' := by exact rfl)
 (hf : Nat.sub fuel is.length = fuel' := by exact rfl) (hle : Nat.ble is.length fuel = true := by exact rfl) : bl P GL n0 Pn (.region id l.toArray true) Q ⟨n, sl, ob⟩ := HC (ga is h he hc hl hf hle) hfu hli hm
end
end Go.Vd
namespace Go.Proofs.YtndbnldjidciiaaGreatDoor
open Go Go.Vd
theorem AE : bc Tryz.prog 3 = ⟨true, 1, false, [], false, [.int .i64 0], true, 0, none, [.int .i64]⟩ := by kernel_rfl
theorem LA : Tryz.prog.underlying 3 = some (.int .i64) := by kernel_rfl
theorem LM : (Tryz.prog.underlying 3).isSome = true := by kernel_rfl
theorem LP : bc Tryz.prog 4 = ⟨true, 1, false, [], false, [.bool false], true, 0, none, [.bool]⟩ := by kernel_rfl
theorem KW : Tryz.prog.underlying 4 = some .bool := by kernel_rfl
theorem LO : bc Tryz.prog 5 = ⟨true, 1, false, [], false, [.int .u8 0], true, 0, none, [.int .u8]⟩ := by kernel_rfl
theorem Lz : Tryz.prog.underlying 5 = some (.int .u8) := by kernel_rfl
theorem LL : (Tryz.prog.underlying 5).isSome = true := by kernel_rfl
theorem AB : bc Tryz.prog 9 = ⟨true, 1, false, [], false, [.string .empty], true, 0, none, [.str]⟩ := by kernel_rfl
theorem rO : Tryz.prog.underlying 9 = some .string := by kernel_rfl
theorem K5 : bc Tryz.prog 22 = ⟨true, 1, false, [], false, [.slice none 0 0], true, 28, none, [.slice]⟩ := by kernel_rfl
theorem Ay : Tryz.prog.underlying 22 = some (.slice (bc Tryz.prog 22).elem) := by kernel_rfl
theorem GJ : bc Tryz.prog (bc Tryz.prog 22).elem = ⟨true, 6, true, [(0, 1, false), (1, 1, false), (2, 1, false), (3, 1, false), (4, 1, false), (5, 1, false)], true, [.int .i64 0, .string .empty, .string .empty, .string .empty, .int .i64 0, .int .i64 0], true, 0, none, [.int .i64, .str, .str, .str, .int .i64, .int .i64]⟩ := by kernel_rfl
theorem JO : Tryz.prog.underlying 24 = some (.slice (bc Tryz.prog 24).elem) := by kernel_rfl
theorem K6 : bc Tryz.prog (bc Tryz.prog 24).elem = ⟨true, 8, true, [(0, 6, true), (6, 2, true)], true, [.int .i64 0, .string .empty, .string .empty, .string .empty, .int .i64 0, .int .i64 0, .pointer none, .pointer none], true, 0, none, [.int .i64, .str, .str, .str, .int .i64, .int .i64, .ptr, .ptr]⟩ := by kernel_rfl
theorem J0 : je Tryz.prog 24 34 8 88 := ⟨by kernel_rfl, by kernel_rfl, by kernel_rfl⟩
theorem K4 : bc Tryz.prog 28 = ⟨true, 6, true, [(0, 1, false), (1, 1, false), (2, 1, false), (3, 1, false), (4, 1, false), (5, 1, false)], true, [.int .i64 0, .string .empty, .string .empty, .string .empty, .int .i64 0, .int .i64 0], true, 0, none, [.int .i64, .str, .str, .str, .int .i64, .int .i64]⟩ := by kernel_rfl
theorem K3 : bc Tryz.prog 29 = ⟨true, 1, false, [], false, [.pointer none], true, 98, none, [.ptr]⟩ := by kernel_rfl
theorem JR : Tryz.prog.underlying 29 = some (.pointer 98) := by kernel_rfl
theorem K2 : bc Tryz.prog 30 = ⟨true, 1, false, [], false, [.pointer none], true, 47, none, [.ptr]⟩ := by kernel_rfl
theorem JQ : Tryz.prog.underlying 30 = some (.pointer 47) := by kernel_rfl
theorem GI : bc Tryz.prog 32 = ⟨true, 2, true, [(0, 1, false), (1, 1, false)], true, [.pointer none, .pointer none], true, 0, none, [.ptr, .ptr]⟩ := by kernel_rfl
theorem JU : bc Tryz.prog 34 = ⟨true, 8, true, [(0, 6, true), (6, 2, true)], true, [.int .i64 0, .string .empty, .string .empty, .string .empty, .int .i64 0, .int .i64 0, .pointer none, .pointer none], true, 0, none, [.int .i64, .str, .str, .str, .int .i64, .int .i64, .ptr, .ptr]⟩ := by kernel_rfl
theorem yz : bc Tryz.prog 36 = ⟨true, 1, false, [], false, [.slice none 0 0], true, 121, none, [.slice]⟩ := by kernel_rfl
theorem ee : Tryz.prog.underlying 36 = some (.slice (bc Tryz.prog 36).elem) := by kernel_rfl
theorem ei : bc Tryz.prog (bc Tryz.prog 36).elem = ⟨true, 3, true, [(0, 1, false), (1, 1, false), (2, 1, false)], true, [.int .i64 0, .string .empty, .slice none 0 0], true, 0, none, [.int .i64, .str, .slice]⟩ := by kernel_rfl
theorem jD : je Tryz.prog 36 121 3 48 := ⟨by kernel_rfl, by kernel_rfl, by kernel_rfl⟩
theorem EC : bc Tryz.prog 37 = ⟨true, 1, false, [], false, [.slice none 0 0], true, 39, none, [.slice]⟩ := by kernel_rfl
theorem bE : Tryz.prog.underlying 37 = some (.slice (bc Tryz.prog 37).elem) := by kernel_rfl
theorem bK : bc Tryz.prog (bc Tryz.prog 37).elem = ⟨true, 5, true, [(0, 1, false), (1, 1, false), (2, 1, false), (3, 1, false), (4, 1, false)], true, [.int .i64 0, .int .i64 0, .string .empty, .slice none 0 0, .slice none 0 0], true, 0, none, [.int .i64, .int .i64, .str, .slice, .slice]⟩ := by kernel_rfl
theorem fA : je Tryz.prog 37 39 5 80 := ⟨by kernel_rfl, by kernel_rfl, by kernel_rfl⟩
theorem bM : bc Tryz.prog 39 = ⟨true, 5, true, [(0, 1, false), (1, 1, false), (2, 1, false), (3, 1, false), (4, 1, false)], true, [.int .i64 0, .int .i64 0, .string .empty, .slice none 0 0, .slice none 0 0], true, 0, none, [.int .i64, .int .i64, .str, .slice, .slice]⟩ := by kernel_rfl
theorem EB : bc Tryz.prog 45 = ⟨true, 1, false, [], false, [.slice none 0 0], true, 63, none, [.slice]⟩ := by kernel_rfl
theorem vA : Tryz.prog.underlying 45 = some (.slice (bc Tryz.prog 45).elem) := by kernel_rfl
theorem xv : bc Tryz.prog (bc Tryz.prog 45).elem = ⟨true, 21, true, [(0, 15, true), (15, 1, false), (16, 5, true)], true, [.int .i64 0, .string .empty, .slice none 0 0, .int .i64 0, .int .i64 0, .string .empty, .slice none 0 0, .slice none 0 0, .int .i64 0, .int .i64 0, .string .empty, .slice none 0 0, .slice none 0 0, .int .i64 0, .slice none 0 0, .slice none 0 0, .int .i64 0, .int .i64 0, .string .empty, .slice none 0 0, .slice none 0 0], true, 0, none, [.int .i64, .str, .slice, .int .i64, .int .i64, .str, .slice, .slice, .int .i64, .int .i64, .str, .slice, .slice, .int .i64, .slice, .slice, .int .i64, .int .i64, .str, .slice, .slice]⟩ := by kernel_rfl
theorem AH : je Tryz.prog 45 63 21 344 := ⟨by kernel_rfl, by kernel_rfl, by kernel_rfl⟩
theorem K1 : bc Tryz.prog 47 = ⟨true, 2, true, [(0, 1, false), (1, 1, false)], true, [.slice none 0 0, .bool false], true, 0, none, [.slice, .bool]⟩ := by kernel_rfl
theorem GH : bc Tryz.prog 57 = ⟨true, 1, false, [], false, [.slice none 0 0], true, 9, none, [.slice]⟩ := by kernel_rfl
theorem jW : Tryz.prog.underlying 57 = some (.slice (bc Tryz.prog 57).elem) := by kernel_rfl
theorem lF : bc Tryz.prog (bc Tryz.prog 57).elem = ⟨true, 1, false, [], false, [.string .empty], true, 0, none, [.str]⟩ := by kernel_rfl
theorem ng : je Tryz.prog 57 9 1 16 := ⟨by kernel_rfl, by kernel_rfl, by kernel_rfl⟩
theorem Iv : bc Tryz.prog 59 = ⟨true, 1, false, [], false, [.slice none 0 0], true, 65, none, [.slice]⟩ := by kernel_rfl
theorem pG : Tryz.prog.underlying 59 = some (.slice (bc Tryz.prog 59).elem) := by kernel_rfl
theorem qc : bc Tryz.prog (bc Tryz.prog 59).elem = ⟨true, 6, true, [(0, 1, false), (1, 5, true)], true, [.string .empty, .int .i64 0, .int .i64 0, .string .empty, .slice none 0 0, .slice none 0 0], true, 0, none, [.str, .int .i64, .int .i64, .str, .slice, .slice]⟩ := by kernel_rfl
theorem JZ : je Tryz.prog 59 65 6 96 := ⟨by kernel_rfl, by kernel_rfl, by kernel_rfl⟩
theorem Df : bc Tryz.prog 61 = ⟨true, 15, true, [(0, 1, false), (1, 1, false), (2, 1, false), (3, 5, true), (8, 5, true), (13, 1, false), (14, 1, false)], true, [.int .i64 0, .string .empty, .slice none 0 0, .int .i64 0, .int .i64 0, .string .empty, .slice none 0 0, .slice none 0 0, .int .i64 0, .int .i64 0, .string .empty, .slice none 0 0, .slice none 0 0, .int .i64 0, .slice none 0 0], true, 0, none, [.int .i64, .str, .slice, .int .i64, .int .i64, .str, .slice, .slice, .int .i64, .int .i64, .str, .slice, .slice, .int .i64, .slice]⟩ := by kernel_rfl
theorem AD : bc Tryz.prog 63 = ⟨true, 21, true, [(0, 15, true), (15, 1, false), (16, 5, true)], true, [.int .i64 0, .string .empty, .slice none 0 0, .int .i64 0, .int .i64 0, .string .empty, .slice none 0 0, .slice none 0 0, .int .i64 0, .int .i64 0, .string .empty, .slice none 0 0, .slice none 0 0, .int .i64 0, .slice none 0 0, .slice none 0 0, .int .i64 0, .int .i64 0, .string .empty, .slice none 0 0, .slice none 0 0], true, 0, none, [.int .i64, .str, .slice, .int .i64, .int .i64, .str, .slice, .slice, .int .i64, .int .i64, .str, .slice, .slice, .int .i64, .slice, .slice, .int .i64, .int .i64, .str, .slice, .slice]⟩ := by kernel_rfl
theorem GG : bc Tryz.prog 65 = ⟨true, 6, true, [(0, 1, false), (1, 5, true)], true, [.string .empty, .int .i64 0, .int .i64 0, .string .empty, .slice none 0 0, .slice none 0 0], true, 0, none, [.str, .int .i64, .int .i64, .str, .slice, .slice]⟩ := by kernel_rfl
theorem JT : bc Tryz.prog 70 = ⟨true, 1, false, [], false, [.slice none 0 0], true, 61, none, [.slice]⟩ := by kernel_rfl
theorem GB : Tryz.prog.underlying 70 = some (.slice (bc Tryz.prog 70).elem) := by kernel_rfl
theorem JX : bc Tryz.prog (bc Tryz.prog 70).elem = ⟨true, 15, true, [(0, 1, false), (1, 1, false), (2, 1, false), (3, 5, true), (8, 5, true), (13, 1, false), (14, 1, false)], true, [.int .i64 0, .string .empty, .slice none 0 0, .int .i64 0, .int .i64 0, .string .empty, .slice none 0 0, .slice none 0 0, .int .i64 0, .int .i64 0, .string .empty, .slice none 0 0, .slice none 0 0, .int .i64 0, .slice none 0 0], true, 0, none, [.int .i64, .str, .slice, .int .i64, .int .i64, .str, .slice, .slice, .int .i64, .int .i64, .str, .slice, .slice, .int .i64, .slice]⟩ := by kernel_rfl
theorem Dh : je Tryz.prog 70 61 15 240 := ⟨by kernel_rfl, by kernel_rfl, by kernel_rfl⟩
theorem xu : bc Tryz.prog 78 = ⟨true, 2, true, [(0, 1, false), (1, 1, false)], true, [.int .i64 0, .int .i64 0], true, 0, none, [.int .i64, .int .i64]⟩ := by kernel_rfl
theorem KZ : bc Tryz.prog 87 = ⟨true, 4, true, [(0, 1, false), (1, 1, false), (2, 1, false), (3, 1, false)], true, [.int .i64 0, .int .i64 0, .bool false, .int .i64 0], true, 0, none, [.int .i64, .int .i64, .bool, .int .i64]⟩ := by kernel_rfl
theorem KY : bc Tryz.prog 96 = ⟨true, 1, false, [], false, [.map none], true, 0, none, [.map]⟩ := by kernel_rfl
theorem uA : Cd Tryz.prog 96 9 102 := ⟨by kernel_rfl, by kernel_rfl, by kernel_rfl⟩
theorem KX : bc Tryz.prog 98 = ⟨true, 2, true, [(0, 1, false), (1, 1, false)], true, [.slice none 0 0, .map none], true, 0, none, [.slice, .map]⟩ := by kernel_rfl
theorem Cj : Tryz.prog.underlying 102 = some (.pointer 106) := by kernel_rfl
theorem HJ : bc Tryz.prog 103 = ⟨true, 1, false, [], false, [.int .i64 0], true, 0, none, [.int .i64]⟩ := by kernel_rfl
theorem Cm : bc Tryz.prog 106 = ⟨true, 9, true, [(0, 1, false), (1, 1, false), (2, 1, false), (3, 5, true), (8, 1, false)], true, [.int .i64 0, .pointer none, .slice none 0 0, .int .i64 0, .int .i64 0, .string .empty, .slice none 0 0, .slice none 0 0, .int .i64 0], true, 0, none, [.int .i64, .ptr, .slice, .int .i64, .int .i64, .str, .slice, .slice, .int .i64]⟩ := by kernel_rfl
theorem JW : bc Tryz.prog 112 = ⟨true, 4, true, [(0, 1, false), (1, 1, false), (2, 2, true)], true, [.string .empty, .int .i64 0, .int .i64 0, .int .i64 0], true, 0, none, [.str, .int .i64, .int .i64, .int .i64]⟩ := by kernel_rfl
theorem dB : bc Tryz.prog 121 = ⟨true, 3, true, [(0, 1, false), (1, 1, false), (2, 1, false)], true, [.int .i64 0, .string .empty, .slice none 0 0], true, 0, none, [.int .i64, .str, .slice]⟩ := by kernel_rfl
theorem JP : Tryz.prog.underlying 174 = some (.slice (bc Tryz.prog 174).elem) := by kernel_rfl
theorem JY : bc Tryz.prog (bc Tryz.prog 174).elem = ⟨true, 1, false, [], false, [.int .i64 0], true, 0, none, [.int .i64]⟩ := by kernel_rfl
theorem J1 : je Tryz.prog 174 103 1 8 := ⟨by kernel_rfl, by kernel_rfl, by kernel_rfl⟩
theorem iQ : Tryz.prog.underlying 203 = some (.slice (bc Tryz.prog 203).elem) := by kernel_rfl
theorem jh : bc Tryz.prog (bc Tryz.prog 203).elem = ⟨true, 1, false, [], false, [.int .i64 0], true, 0, none, [.int .i64]⟩ := by kernel_rfl
theorem nY : je Tryz.prog 203 3 1 8 := ⟨by kernel_rfl, by kernel_rfl, by kernel_rfl⟩
theorem JV : bc Tryz.prog 232 = ⟨true, 18, true, [(0, 15, true), (15, 1, false), (16, 1, false), (17, 1, false)], true, [.int .i64 0, .string .empty, .slice none 0 0, .int .i64 0, .int .i64 0, .string .empty, .slice none 0 0, .slice none 0 0, .int .i64 0, .int .i64 0, .string .empty, .slice none 0 0, .slice none 0 0, .int .i64 0, .slice none 0 0, .int .i64 0, .slice none 0 0, .int .i64 0], true, 0, none, [.int .i64, .str, .slice, .int .i64, .int .i64, .str, .slice, .slice, .int .i64, .int .i64, .str, .slice, .slice, .int .i64, .slice, .int .i64, .slice, .int .i64]⟩ := by kernel_rfl
theorem HK : je Tryz.prog 239 5 1 1 := ⟨by kernel_rfl, by kernel_rfl, by kernel_rfl⟩
theorem Ma : ak Tryz.prog 8 = true := by kernel_rfl
theorem L9 : ak Tryz.prog 9 = true := by kernel_rfl
theorem Lv : ak Tryz.prog 10 = true := by kernel_rfl
theorem HA : ak Tryz.prog 18 = true := by kernel_rfl
theorem Kt : ak Tryz.prog 21 = true := by kernel_rfl
theorem Ks : ak Tryz.prog 22 = true := by kernel_rfl
theorem Lu : ak Tryz.prog 23 = true := by kernel_rfl
theorem Kr : ak Tryz.prog 24 = true := by kernel_rfl
theorem Hz : ak Tryz.prog 25 = true := by kernel_rfl
theorem Lt : ak Tryz.prog 26 = true := by kernel_rfl
theorem Ls : ak Tryz.prog 27 = true := by kernel_rfl
theorem Lr : ak Tryz.prog 28 = true := by kernel_rfl
theorem Lq : ak Tryz.prog 29 = true := by kernel_rfl
theorem Kq : ak Tryz.prog 30 = true := by kernel_rfl
theorem Kp : ak Tryz.prog 32 = true := by kernel_rfl
theorem vY : ak Tryz.prog 36 = true := by kernel_rfl
theorem F6 : ak Tryz.prog 37 = true := by kernel_rfl
theorem F5 : ak Tryz.prog 40 = true := by kernel_rfl
theorem Ko : ak Tryz.prog 45 = true := by kernel_rfl
theorem Kn : ak Tryz.prog 46 = true := by kernel_rfl
theorem Hy : ak Tryz.prog 47 = true := by kernel_rfl
theorem Lp : ak Tryz.prog 48 = true := by kernel_rfl
theorem Hx : ak Tryz.prog 49 = true := by kernel_rfl
theorem Lo : ak Tryz.prog 50 = true := by kernel_rfl
theorem F4 : ak Tryz.prog 51 = true := by kernel_rfl
theorem F3 : ak Tryz.prog 52 = true := by kernel_rfl
theorem Ln : ak Tryz.prog 53 = true := by kernel_rfl
theorem Am : ak Tryz.prog 55 = true := by kernel_rfl
theorem Km : ak Tryz.prog 56 = true := by kernel_rfl
theorem Eb : ak Tryz.prog 57 = true := by kernel_rfl
theorem Hw : ak Tryz.prog 58 = true := by kernel_rfl
theorem Lm : ak Tryz.prog 59 = true := by kernel_rfl
theorem vh : ak Tryz.prog 60 = true := by kernel_rfl
theorem Ea : ak Tryz.prog 61 = true := by kernel_rfl
theorem Hv : ak Tryz.prog 62 = true := by kernel_rfl
theorem Ju : ak Tryz.prog 63 = true := by kernel_rfl
theorem BQ : ak Tryz.prog 64 = true := by kernel_rfl
theorem vX : ak Tryz.prog 65 = true := by kernel_rfl
theorem nK : ak Tryz.prog 66 = true := by kernel_rfl
theorem D9 : ak Tryz.prog 67 = true := by kernel_rfl
theorem F2 : ak Tryz.prog 70 = true := by kernel_rfl
theorem Kl : ak Tryz.prog 71 = true := by kernel_rfl
theorem Kk : ak Tryz.prog 78 = true := by kernel_rfl
theorem Ll : ak Tryz.prog 79 = true := by kernel_rfl
theorem Lk : ak Tryz.prog 80 = true := by kernel_rfl
theorem Kj : ak Tryz.prog 81 = true := by kernel_rfl
theorem Jt : ak Tryz.prog 82 = true := by kernel_rfl
theorem Hu : ak Tryz.prog 83 = true := by kernel_rfl
theorem Ht : ak Tryz.prog 84 = true := by kernel_rfl
theorem Js : ak Tryz.prog 85 = true := by kernel_rfl
theorem Lj : ak Tryz.prog 86 = true := by kernel_rfl
theorem nS : ak Tryz.prog 87 = true := by kernel_rfl
theorem rJ : ak Tryz.prog 88 = true := by kernel_rfl
theorem Al : ak Tryz.prog 89 = true := by kernel_rfl
theorem Ki : ak Tryz.prog 90 = true := by kernel_rfl
theorem Hs : ak Tryz.prog 91 = true := by kernel_rfl
theorem Hr : ak Tryz.prog 92 = true := by kernel_rfl
theorem Jr : ak Tryz.prog 93 = true := by kernel_rfl
theorem vW : ak Tryz.prog 94 = true := by kernel_rfl
theorem Hq : ak Tryz.prog 99 = true := by kernel_rfl
theorem vm : ak Tryz.prog 100 = true := by kernel_rfl
theorem xm : ak Tryz.prog 101 = true := by kernel_rfl
theorem tf : ak Tryz.prog 102 = true := by kernel_rfl
theorem Ao : ak Tryz.prog 103 = true := by kernel_rfl
theorem Ij : ak Tryz.prog 104 = true := by kernel_rfl
theorem Ii : ak Tryz.prog 105 = true := by kernel_rfl
theorem Ih : ak Tryz.prog 106 = true := by kernel_rfl
theorem vk : ak Tryz.prog 114 = true := by kernel_rfl
theorem KF : ak Tryz.prog 119 = true := by kernel_rfl
theorem KE : ak Tryz.prog 120 = true := by kernel_rfl
theorem Ig : ak Tryz.prog 121 = true := by kernel_rfl
theorem pC : ak Tryz.prog 122 = true := by kernel_rfl
theorem Ie : ak Tryz.prog 123 = true := by kernel_rfl
theorem Ic : ak Tryz.prog 124 = true := by kernel_rfl
theorem F8 : ak Tryz.prog 125 = true := by kernel_rfl
theorem C3 : ak Tryz.prog 126 = true := by kernel_rfl
theorem Ib : ak Tryz.prog 130 = true := by kernel_rfl
theorem Ia : ak Tryz.prog 131 = true := by kernel_rfl
theorem H0 : ak Tryz.prog 132 = true := by kernel_rfl
theorem xl : ak Tryz.prog 143 = true := by kernel_rfl
theorem kz : ak Tryz.prog 144 = true := by kernel_rfl
theorem KD : ak Tryz.prog 147 = true := by kernel_rfl
theorem KC : ak Tryz.prog 148 = true := by kernel_rfl
theorem KB : ak Tryz.prog 149 = true := by kernel_rfl
theorem vj : ak Tryz.prog 150 = true := by kernel_rfl
theorem KA : ak Tryz.prog 151 = true := by kernel_rfl
theorem HZ : ak Tryz.prog 160 = true := by kernel_rfl
theorem HY : ak Tryz.prog 161 = true := by kernel_rfl
theorem An : ak Tryz.prog 162 = true := by kernel_rfl
theorem F7 : ak Tryz.prog 163 = true := by kernel_rfl
theorem HX : ak Tryz.prog 164 = true := by kernel_rfl
theorem Kz : ak Tryz.prog 165 = true := by kernel_rfl
theorem Ky : ak Tryz.prog 166 = true := by kernel_rfl
theorem HW : ak Tryz.prog 167 = true := by kernel_rfl
theorem HV : ak Tryz.prog 168 = true := by kernel_rfl
theorem HU : ak Tryz.prog 170 = true := by kernel_rfl
theorem Kx : ak Tryz.prog 171 = true := by kernel_rfl
theorem xk : ak Tryz.prog 172 = true := by kernel_rfl
theorem te : ak Tryz.prog 173 = true := by kernel_rfl
theorem C2 : ak Tryz.prog 174 = true := by kernel_rfl
theorem qO : ak Tryz.prog 175 = true := by kernel_rfl
theorem vi : ak Tryz.prog 176 = true := by kernel_rfl
theorem Kw : ak Tryz.prog 177 = true := by kernel_rfl
theorem td : ak Tryz.prog 178 = true := by kernel_rfl
theorem C1 : ak Tryz.prog 179 = true := by kernel_rfl
theorem Kv : ak Tryz.prog 180 = true := by kernel_rfl
theorem Ku : ak Tryz.prog 181 = true := by kernel_rfl
theorem C0 : ak Tryz.prog 182 = true := by kernel_rfl
theorem mixed : Tryz.prog.follows .mixedOrders = true := by kernel_rfl
end Go.Proofs.YtndbnldjidciiaaGreatDoor
namespace Go.Proofs.YtndbnldjidciiaaGreatDoor
open Go Go.Vd
variable {P : Program}
theorem LQ : ∀ p ∈ ([] : List (Nat × TI)), bc P p.1 = p.2 := fun p h => by cases h
variable {k : Nat}
theorem qR {x : TI} {l : List (Nat × TI)} (h : bc P k = x) (r : ∀ p ∈ l, bc P p.1 = p.2) : ∀ p ∈ (k, x) :: l, bc P p.1 = p.2 := fun p hp => by
 rcases List.mem_cons.1 hp with rfl | hp
 ·exact h
 ·exact r p hp
variable {f : Nat → Prop}
theorem LB : ∀ t ∈ ([] : List Nat), f t := fun p h => by cases h
theorem Gr {l : List Nat} (h : f k) (r : ∀ t ∈ l, f t) : ∀ t ∈ k :: l, f t := fun p hp => by
 rcases List.mem_cons.1 hp with rfl | hp
 ·exact h
 ·exact r p hp
def tb : LJ := ⟨[(3, ⟨true, 1, false, [], false, [.int .i64 0], true, 0, none, [.int .i64]⟩),
 (4, ⟨true, 1, false, [], false, [.bool false], true, 0, none, [.bool]⟩),
 (9, ⟨true, 1, false, [], false, [.string .empty], true, 0, none, [.str]⟩),
 (28, ⟨true, 6, true, [(0, 1, false), (1, 1, false), (2, 1, false), (3, 1, false), (4, 1, false), (5, 1, false)], true, [.int .i64 0, .string .empty, .string .empty, .string .empty, .int .i64 0, .int .i64 0], true, 0, none, [.int .i64, .str, .str, .str, .int .i64, .int .i64]⟩),
 (29, ⟨true, 1, false, [], false, [.pointer none], true, 98, none, [.ptr]⟩),
 (30, ⟨true, 1, false, [], false, [.pointer none], true, 47, none, [.ptr]⟩),
 (32, ⟨true, 2, true, [(0, 1, false), (1, 1, false)], true, [.pointer none, .pointer none], true, 0, none, [.ptr, .ptr]⟩),
 (34, ⟨true, 8, true, [(0, 6, true), (6, 2, true)], true, [.int .i64 0, .string .empty, .string .empty, .string .empty, .int .i64 0, .int .i64 0, .pointer none, .pointer none], true, 0, none, [.int .i64, .str, .str, .str, .int .i64, .int .i64, .ptr, .ptr]⟩),
 (36, ⟨true, 1, false, [], false, [.slice none 0 0], true, 121, none, [.slice]⟩),
 (37, ⟨true, 1, false, [], false, [.slice none 0 0], true, 39, none, [.slice]⟩),
 (39, ⟨true, 5, true, [(0, 1, false), (1, 1, false), (2, 1, false), (3, 1, false), (4, 1, false)], true, [.int .i64 0, .int .i64 0, .string .empty, .slice none 0 0, .slice none 0 0], true, 0, none, [.int .i64, .int .i64, .str, .slice, .slice]⟩),
 (45, ⟨true, 1, false, [], false, [.slice none 0 0], true, 63, none, [.slice]⟩),
 (47, ⟨true, 2, true, [(0, 1, false), (1, 1, false)], true, [.slice none 0 0, .bool false], true, 0, none, [.slice, .bool]⟩),
 (57, ⟨true, 1, false, [], false, [.slice none 0 0], true, 9, none, [.slice]⟩),
 (59, ⟨true, 1, false, [], false, [.slice none 0 0], true, 65, none, [.slice]⟩),
 (61, ⟨true, 15, true, [(0, 1, false), (1, 1, false), (2, 1, false), (3, 5, true), (8, 5, true), (13, 1, false), (14, 1, false)], true, [.int .i64 0, .string .empty, .slice none 0 0, .int .i64 0, .int .i64 0, .string .empty, .slice none 0 0, .slice none 0 0, .int .i64 0, .int .i64 0, .string .empty, .slice none 0 0, .slice none 0 0, .int .i64 0, .slice none 0 0], true, 0, none, [.int .i64, .str, .slice, .int .i64, .int .i64, .str, .slice, .slice, .int .i64, .int .i64, .str, .slice, .slice, .int .i64, .slice]⟩),
 (63, ⟨true, 21, true, [(0, 15, true), (15, 1, false), (16, 5, true)], true, [.int .i64 0, .string .empty, .slice none 0 0, .int .i64 0, .int .i64 0, .string .empty, .slice none 0 0, .slice none 0 0, .int .i64 0, .int .i64 0, .string .empty, .slice none 0 0, .slice none 0 0, .int .i64 0, .slice none 0 0, .slice none 0 0, .int .i64 0, .int .i64 0, .string .empty, .slice none 0 0, .slice none 0 0], true, 0, none, [.int .i64, .str, .slice, .int .i64, .int .i64, .str, .slice, .slice, .int .i64, .int .i64, .str, .slice, .slice, .int .i64, .slice, .slice, .int .i64, .int .i64, .str, .slice, .slice]⟩),
 (65, ⟨true, 6, true, [(0, 1, false), (1, 5, true)], true, [.string .empty, .int .i64 0, .int .i64 0, .string .empty, .slice none 0 0, .slice none 0 0], true, 0, none, [.str, .int .i64, .int .i64, .str, .slice, .slice]⟩),
 (70, ⟨true, 1, false, [], false, [.slice none 0 0], true, 61, none, [.slice]⟩),
 (78, ⟨true, 2, true, [(0, 1, false), (1, 1, false)], true, [.int .i64 0, .int .i64 0], true, 0, none, [.int .i64, .int .i64]⟩),
 (87, ⟨true, 4, true, [(0, 1, false), (1, 1, false), (2, 1, false), (3, 1, false)], true, [.int .i64 0, .int .i64 0, .bool false, .int .i64 0], true, 0, none, [.int .i64, .int .i64, .bool, .int .i64]⟩),
 (96, ⟨true, 1, false, [], false, [.map none], true, 0, none, [.map]⟩),
 (98, ⟨true, 2, true, [(0, 1, false), (1, 1, false)], true, [.slice none 0 0, .map none], true, 0, none, [.slice, .map]⟩),
 (103, ⟨true, 1, false, [], false, [.int .i64 0], true, 0, none, [.int .i64]⟩),
 (106, ⟨true, 9, true, [(0, 1, false), (1, 1, false), (2, 1, false), (3, 5, true), (8, 1, false)], true, [.int .i64 0, .pointer none, .slice none 0 0, .int .i64 0, .int .i64 0, .string .empty, .slice none 0 0, .slice none 0 0, .int .i64 0], true, 0, none, [.int .i64, .ptr, .slice, .int .i64, .int .i64, .str, .slice, .slice, .int .i64]⟩),
 (112, ⟨true, 4, true, [(0, 1, false), (1, 1, false), (2, 2, true)], true, [.string .empty, .int .i64 0, .int .i64 0, .int .i64 0], true, 0, none, [.str, .int .i64, .int .i64, .int .i64]⟩),
 (121, ⟨true, 3, true, [(0, 1, false), (1, 1, false), (2, 1, false)], true, [.int .i64 0, .string .empty, .slice none 0 0], true, 0, none, [.int .i64, .str, .slice]⟩),
 (232, ⟨true, 18, true, [(0, 15, true), (15, 1, false), (16, 1, false), (17, 1, false)], true, [.int .i64 0, .string .empty, .slice none 0 0, .int .i64 0, .int .i64 0, .string .empty, .slice none 0 0, .slice none 0 0, .int .i64 0, .int .i64 0, .string .empty, .slice none 0 0, .slice none 0 0, .int .i64 0, .slice none 0 0, .int .i64 0, .slice none 0 0, .int .i64 0], true, 0, none, [.int .i64, .str, .slice, .int .i64, .int .i64, .str, .slice, .slice, .int .i64, .int .i64, .str, .slice, .slice, .int .i64, .slice, .int .i64, .slice, .int .i64]⟩)], [22, 24, 36, 37, 45, 57, 59, 70, 203], [9]⟩
instance Mg : jg Tryz.prog := ⟨tb, qR AE (qR LP (qR AB (qR K4 (qR K3 (qR K2 (qR GI (qR JU (qR yz (qR EC (qR bM (qR EB (qR K1 (qR GH (qR Iv (qR Df (qR AD (qR GG (qR JT (qR xu (qR KZ (qR KY (qR KX (qR HJ (qR Cm (qR JW (qR dB (qR JV LQ))))))))))))))))))))))))))), Gr Ay (Gr JO (Gr ee (Gr bE (Gr vA (Gr jW (Gr pG (Gr GB (Gr iQ LB)))))))), Gr rO LB⟩
end Go.Proofs.YtndbnldjidciiaaGreatDoor
namespace Go.Vd
open Go Go.RowKit
def int (n : Int) : SV := .d (.v (.int .i64 n))
def strs (l : List ByteArray) : List (List D) := l.map fun s => [.v (.string s)]
def ints (l : List Int) : List (List D) := l.map fun n => [.v (.int .i64 n)]
abbrev c6 (l : List ByteArray) : D := .sl 1 (strs l)
abbrev HP (l : List Int) : D := .sl 1 (ints l)
theorem bU (l : List ByteArray) : (strs l).length = l.length := by simp [strs]
theorem eP (l : List Int) : (ints l).length = l.length := by simp [ints]
variable {l : List ByteArray} {i : Nat}
theorem fX (h : i < l.length) : (strs l)[((i : Nat) : Int).toNat]? = some [.v (.string l[i])] := by simp [strs, h]
theorem oD {l : List Int} (h : i < l.length) : (ints l)[((i : Nat) : Int).toNat]? = some [.v (.int .i64 l[i])] := by simp [ints, h]
theorem gC (l : List ByteArray) (s : ByteArray) : strs l ++ [[.v (.string s)]] = strs (l ++ [s]) := by simp [strs]
theorem qC (l : List Int) (n : Int) : ints l ++ [[.v (.int .i64 n)]] = ints (l ++ [n]) := by simp [ints]
def tl (name : ByteArray) (l : List ByteArray) : Bool := l.any fun s => decide (s = name)
variable {name : ByteArray} {k : Nat}
theorem Dx (h : k < l.length) (e : l[k] = name) : tl name l = true := by
 unfold tl; rw [List.any_eq_true]; exact ⟨_, List.getElem_mem h, by simpa using e⟩
theorem gP : tl name l = true ↔ name ∈ l := by
 unfold tl; rw [List.any_eq_true]
 exact ⟨fun ⟨x, hx, e⟩ => by simp at e; subst e; exact hx, fun h => ⟨name, h, by simp⟩⟩
theorem Bg (h : name ∉ l) : tl name l = false := by
 cases hb : tl name l with
 | false => rfl
 | true => exact absurd (gP.1 hb) h
theorem gN (h : k < l.length) (h1 : name ∉ l.take k) (h2 : ¬ l[k] = name) : name ∉ l.take (k + 1) := by
 rw [List.take_add_one, List.mem_append]
 rintro (h3 | h3)
 ·exact h1 h3
 ·simp [h] at h3; exact h2 h3.symm
inductive aJ where
 | mk (kind : Int) (name : ByteArray) (args : List aJ)
mutual
def aJ.cells : aJ → List D
 | .mk k s args => [.v (.int .i64 k), .v (.string s), .sl 3 (bF args)]
def bF : List aJ → List (List D)
 | [] => []
 | l :: r => l.cells :: bF r
end
def aJ.d (l : aJ) : D := .agg l.cells
theorem aJ.eR : ∀ l : aJ, l.cells.length = 3
 | .mk _ _ _ => rfl
theorem aJ.case (l : aJ) : ∃ k s args, l = .mk k s args := by cases l; exact ⟨_, _, _, rfl⟩
theorem bR : ∀ l : List aJ, (bF l).length = l.length
 | [] => rfl
 | l :: r => by simp [bF, bR r]
theorem zv : ∀ {l : List aJ} {i : Nat} {x : aJ}, l[i]? = some x → (bF l)[i]? = some x.cells
 | [], i, x, h => by simp at h
 | l :: r, 0, x, h => by simp at h; subst h; simp [bF]
 | l :: r, i + 1, x, h => by simpa [bF] using zv (l := r) (i := i) (by simpa using h)
theorem cZ {l : List aJ} {k : Int} {s : ByteArray} {args : List aJ} (h : l[i]? = some (.mk k s args)) : (bF l)[((i : Nat) : Int).toNat]? = some [.v (.int .i64 k), .v (.string s), .sl 3 (bF args)] := by
 rw [Int.toNat_natCast, zv h]; rfl
theorem qy (l m : List aJ) : bF (l ++ m) = bF l ++ bF m := by
 induction l with
 | nil => rfl
 | cons a r ih => simp [bF, ih]
theorem cU {ls : List aJ} (h : i < ls.length) : ∃ k s args, ls[i]? = some (.mk k s args) := by
 have : ls[i]? = some ls[i] := by simp [h]
 rw [this]
 cases ls[i]; exact ⟨_, _, _, rfl⟩
mutual
def aJ.size : aJ → Nat
 | .mk _ _ args => 1 + aS args
def aS : List aJ → Nat
 | [] => 0
 | l :: r => l.size + aS r
end
theorem iT : ∀ {ls : List aJ} {i : Nat} {l : aJ}, ls[i]? = some l → l.size ≤ aS ls
 | [], i, l, h => by simp at h
 | a :: r, 0, l, h => by simp at h; subst h; simp [aS]
 | a :: r, i + 1, l, h => by simp at h; have := iT h; simp [aS]; omega
theorem iA : ∀ ls : List aJ, ls.length ≤ aS ls
 | [] => by simp
 | l :: r => by have := iA r; cases l; simp [aS, aJ.size]; omega
mutual
def aJ.same : aJ → aJ → Bool
 | .mk k s a, .mk k2 s2 a2 => decide (k = k2) && decide (s = s2) && eE a a2
def eE : List aJ → List aJ → Bool
 | [], [] => true
 | l :: r, l2 :: r2 => l.same l2 && eE r r2
 | _, _ => false
end
theorem aJ.iL (k : Int) (s : ByteArray) (a : List aJ) (k2 : Int) (s2 : ByteArray) (a2 : List aJ) : aJ.same (.mk k s a) (.mk k2 s2 a2) = (decide (k = k2) && decide (s = s2) && eE a a2) := by simp [aJ.same]
theorem rf : ∀ {a b : List aJ}, eE a b = true → a.length = b.length
 | [], [], _ => rfl
 | l :: r, l2 :: r2, h => by simp [eE] at h; simp [rf h.2]
 | [], _ :: _, h => by simp [eE] at h
 | _ :: _, [], h => by simp [eE] at h
theorem wA : ∀ {a b : List aJ} {x y : aJ}, a.length = b.length → eE (a ++ [x]) (b ++ [y]) = (eE a b && x.same y)
 | [], [], x, y, _ => by simp [eE]
 | l :: r, l2 :: r2, x, y, h => by simp [eE, wA (a := r) (b := r2) (by simpa using h), Bool.and_assoc]
 | [], _ :: _, _, _, h => by simp at h
 | _ :: _, [], _, _, h => by simp at h
theorem ug {a b : List aJ} {x y : aJ} (hx : a[i]? = some x) (hy : b[i]? = some y) : eE (a.take (i + 1)) (b.take (i + 1)) = (eE (a.take i) (b.take i) && x.same y) := by
 have h1 := (List.getElem?_eq_some_iff.1 hx).1
 have h2 := (List.getElem?_eq_some_iff.1 hy).1
 rw [List.take_add_one, List.take_add_one, hx, hy]
 exact wA (by simp; omega)
theorem n6 : ∀ {a b : List aJ} {i : Nat} {x y : aJ}, a[i]? = some x → b[i]? = some y → x.same y = false → eE a b = false
 | [], _, i, _, _, h, _, _ => by simp at h
 | _ :: _, [], i, _, _, _, h, _ => by simp at h
 | l :: r, l2 :: r2, 0, x, y, h1, h2, h3 => by simp at h1 h2; subst h1 h2; simp [eE, h3]
 | l :: r, l2 :: r2, i + 1, x, y, h1, h2, h3 => by simp [eE]; intro _; exact n6 (i := i) (by simpa using h1) (by simpa using h2) h3
mutual
def aJ.eg : aJ → Nat
 | .mk k _ args => (if k = 1 then 1 else 0) + dV args
def dV : List aJ → Nat
 | [] => 0
 | l :: r => l.eg + dV r
end
mutual
theorem aJ.gB : ∀ l : aJ, l.eg ≤ l.size
 | .mk k s args => by simp only [aJ.eg, aJ.size]; have := q0 args; split <;> omega
theorem q0 : ∀ ls : List aJ, dV ls ≤ aS ls
 | [] => by simp [dV]
 | l :: r => by simp only [dV, aS]; have := l.gB; have := q0 r; omega
end
theorem pt (l m : List aJ) : dV (l ++ m) = dV l + dV m := by
 induction l with
 | nil => simp [dV]
 | cons a r ih => simp [dV, ih]; omega
variable {a : aJ}
theorem rU {l : List aJ} (h : l[i]? = some a) : dV (l.take (i + 1)) = dV (l.take i) + a.eg := by
 rw [List.take_add_one, h]; simp [pt, dV]
theorem tU (l : List aJ) (i : Nat) : dV (l.take i) ≤ dV l := by
 have : dV l = dV (l.take i) + dV (l.drop i) := by rw [← pt, List.take_append_drop]
 omega
mutual
def aJ.params : aJ → List ByteArray → List ByteArray
 | .mk k s args, ah => if k = 4 then (if tl s ah then ah else ah ++ [s]) else cF args ah
def cF : List aJ → List ByteArray → List ByteArray
 | [], ah => ah
 | l :: r, ah => cF r (l.params ah)
end
mutual
theorem aJ.pU : ∀ (l : aJ) (ah : List ByteArray), (l.params ah).length ≤ ah.length + l.size
 | .mk k s args, ah => by
  have h := om args ah
  simp only [aJ.params, aJ.size]
  split
  ·split
   ·omega
   ·simp
  ·omega
theorem om : ∀ (ls : List aJ) (ah : List ByteArray), (cF ls ah).length ≤ ah.length + aS ls
 | [], ah => by simp [cF]
 | l :: r, ah => by
  have h1 := l.pU ah
  have h2 := om r (l.params ah)
  simp only [cF, aS]; omega
end
theorem oq (l m : List aJ) (ah : List ByteArray) : cF (l ++ m) ah = cF m (cF l ah) := by
 induction l generalizing ah with
 | nil => rfl
 | cons a r ih => simp [cF, ih]
theorem np {l : List aJ} (h : l[i]? = some a) (ah : List ByteArray) : cF (l.take (i + 1)) ah = a.params (cF (l.take i) ah) := by
 rw [List.take_add_one, h]; simp [oq, cF]
theorem qg (l m : List aJ) : aS (l ++ m) = aS l + aS m := by
 induction l with
 | nil => simp [aS]
 | cons a r ih => simp [aS, ih]; omega
theorem AI {l : List aJ} (h : l[i]? = some a) : aS (l.take (i + 1)) = aS (l.take i) + a.size := by
 rw [List.take_add_one, h]; simp [qg, aS]
theorem vD (l : List aJ) (i : Nat) : aS (l.take i) ≤ aS l := by
 have : aS l = aS (l.take i) + aS (l.drop i) := by rw [← qg, List.take_append_drop]
 omega
end Go.Vd
namespace Go.Vd
open Go Go.RowKit
inductive cB where
 | zero
 | succ (a : cB)
 | max (a b : cB)
 | imax (a b : cB)
 | param (s : ByteArray)
def cB.bG : cB → aJ
 | .zero => .mk 0 .empty []
 | .succ a => .mk 1 .empty [a.bG]
 | .max a b => .mk 2 .empty [a.bG, b.bG]
 | .imax a b => .mk 3 .empty [a.bG, b.bG]
 | .param s => .mk 4 s []
def cB.size : cB → Nat
 | .zero => 1
 | .succ a => 1 + a.size
 | .max a b => 1 + a.size + b.size
 | .imax a b => 1 + a.size + b.size
 | .param _ => 1
theorem cB.dq : ∀ l : cB, l.bG.size = l.size
 | .zero => rfl
 | .succ a => by simp [cB.bG, aJ.size, aS, cB.size, a.dq]
 | .max a b => by simp [cB.bG, aJ.size, aS, cB.size, a.dq, b.dq]; omega
 | .imax a b => by simp [cB.bG, aJ.size, aS, cB.size, a.dq, b.dq]; omega
 | .param _ => rfl
def cB.eg : cB → Nat
 | .zero => 0
 | .succ a => 1 + a.eg
 | .max a b => a.eg + b.eg
 | .imax a b => a.eg + b.eg
 | .param _ => 0
theorem cB.fw : ∀ l : cB, l.bG.eg = l.eg
 | .zero => rfl
 | .succ a => by simp [cB.bG, aJ.eg, dV, cB.eg, a.fw]
 | .max a b => by simp [cB.bG, aJ.eg, dV, cB.eg, a.fw, b.fw]
 | .imax a b => by simp [cB.bG, aJ.eg, dV, cB.eg, a.fw, b.fw]
 | .param _ => rfl
theorem cB.gB : ∀ l : cB, l.eg ≤ l.size
 | .zero => by simp [cB.eg]
 | .succ a => by have := a.gB; simp only [cB.eg, cB.size]; omega
 | .max a b => by have := a.gB; have := b.gB; simp only [cB.eg, cB.size]; omega
 | .imax a b => by have := a.gB; have := b.gB; simp only [cB.eg, cB.size]; omega
 | .param _ => by simp [cB.eg]
def cB.params : cB → List ByteArray → List ByteArray
 | .zero, ah => ah
 | .succ a, ah => a.params ah
 | .max a b, ah => b.params (a.params ah)
 | .imax a b, ah => b.params (a.params ah)
 | .param s, ah => if tl s ah then ah else ah ++ [s]
theorem cB.dz : ∀ (l : cB) (ah : List ByteArray), l.bG.params ah = l.params ah
 | .zero, ah => by simp [cB.bG, aJ.params, cF, cB.params]
 | .succ a, ah => by simp [cB.bG, aJ.params, cF, cB.params, a.dz]
 | .max a b, ah => by simp [cB.bG, aJ.params, cF, cB.params, a.dz, b.dz]
 | .imax a b, ah => by simp [cB.bG, aJ.params, cF, cB.params, a.dz, b.dz]
 | .param s, ah => by simp [cB.bG, aJ.params, cB.params]
def hZ : List ByteArray → List Int → ByteArray → Int
 | p :: ps, n :: ns, s => if p = s then n else hZ ps ns s
 | _, _, _ => 0
theorem Ct : ∀ {ps : List ByteArray} {ns : List Int} {s : ByteArray} {i : Nat}, ps.length ≤ ns.length → s ∉ ps.take i → ps[i]? = some s → ∃ n, ns[i]? = some n ∧ hZ ps ns s = n
 | [], _, _, i, _, _, h => by simp at h
 | p :: ps, [], s, i, h, _, _ => by simp at h
 | p :: ps, n :: ns, s, 0, h, _, h2 => by simp at h2; subst h2; exact ⟨n, by simp, by simp [hZ]⟩
 | p :: ps, n :: ns, s, i + 1, h, h1, h2 => by
  simp only [List.take_succ_cons, List.mem_cons, not_or] at h1
  obtain ⟨m, hm, he⟩ := Ct (ps := ps) (ns := ns) (s := s) (i := i) (by simpa using h) h1.2 (by simpa using h2)
  exact ⟨m, by simpa using hm, by simp only [hZ]; rw [if_neg (fun e => h1.1 e.symm), he]⟩
theorem wG : ∀ {ps : List ByteArray} {ns : List Int} {s : ByteArray}, s ∉ ps → hZ ps ns s = 0
 | [], _, _, _ => by simp [hZ]
 | p :: ps, [], s, _ => by simp [hZ]
 | p :: ps, n :: ns, s, h => by
  simp only [List.mem_cons, not_or] at h
  simp only [hZ]; rw [if_neg (fun e => h.1 e.symm), wG h.2]
theorem pT {B : Int} (hB : 0 ≤ B) : ∀ {ps : List ByteArray} {ns : List Int} {s : ByteArray}, (∀ n ∈ ns, -B ≤ n ∧ n ≤ B) → -B ≤ hZ ps ns s ∧ hZ ps ns s ≤ B
 | [], _, _, _ => by simp only [hZ]; omega
 | p :: ps, [], s, _ => by simp only [hZ]; omega
 | p :: ps, n :: ns, s, h => by
  simp only [hZ]
  split
  ·exact h n List.mem_cons_self
  ·exact pT hB fun m hm => h m (List.mem_cons_of_mem _ hm)
def cB.dw (σ : ByteArray → Int) : cB → Int
 | .zero => 0
 | .succ a => a.dw σ + 1
 | .max a b => Max.max (a.dw σ) (b.dw σ)
 | .imax a b => if b.dw σ = 0 then 0 else Max.max (a.dw σ) (b.dw σ)
 | .param s => σ s
theorem cB.fu {σ : ByteArray → Int} {B : Int} (hB : 0 ≤ B) (hσ : ∀ s, -B ≤ σ s ∧ σ s ≤ B) : ∀ l : cB, -B ≤ l.dw σ ∧ l.dw σ ≤ B + l.size
 | .zero => by simp only [cB.dw, cB.size]; omega
 | .succ a => by have := a.fu hB hσ; simp only [cB.dw, cB.size]; omega
 | .max a b => by have := a.fu hB hσ; have := b.fu hB hσ; simp only [cB.dw, cB.size]; omega
 | .imax a b => by have := a.fu hB hσ; have := b.fu hB hσ; simp only [cB.dw, cB.size]; split <;> omega
 | .param s => by have := hσ s; simp only [cB.dw, cB.size]; omega
def tQ (oO : Int) (r : Nat) : Int := if r % 3 = 0 then 0 else if r % 3 = 1 then 1 else oO
def oK (oO : Int) (k n : Nat) : List Int := (List.range n).map fun j => tQ oO (k / 3 ^ j)
theorem w0 (oO : Int) (k n : Nat) : oK oO k (n + 1) = oK oO k n ++ [tQ oO (k / 3 ^ n)] := by simp [oK, List.range_succ]
theorem oJ (oO : Int) (k n : Nat) : (oK oO k n).length = n := by simp [oK]
theorem yA {oO : Int} (h0 : 0 ≤ oO) (h1 : oO ≤ 4398046511104) (r : Nat) : -4398046511104 ≤ tQ oO r ∧ tQ oO r ≤ 4398046511104 := by
 unfold tQ; split
 ·omega
 ·split <;> omega
def cB.ps (a b : cB) : List ByteArray := b.params (a.params [])
def cB.oO (a b : cB) : Int := 2 + a.eg + b.eg
def yV (a b : cB) (k : Nat) : Prop := a.dw (hZ (a.ps b) (oK (a.oO b) k (a.ps b).length)) ≤ b.dw (hZ (a.ps b) (oK (a.oO b) k (a.ps b).length))
instance (a b : cB) (k : Nat) : Decidable (yV a b k) := by unfold yV; infer_instance
def nk (a b : cB) : Bool := decide (∀ k, k < 3 ^ (a.ps b).length → yV a b k)
def ff (c : Int) (first : Bool) : Bool := decide ((97 ≤ c ∧ c ≤ 122) ∨ (65 ≤ c ∧ c ≤ 90) ∨ c = 95 ∨ (first = false ∧ ((48 ≤ c ∧ c ≤ 57) ∨ c = 46 ∨ c = 39)))
def db (t : ByteArray) : Bool := decide (t ≠ .empty) && ff (aZ t 0) true
theorem n5 {t : ByteArray} (h : t ≠ .empty) : 0 < t.size := by
 rcases Nat.eq_zero_or_pos t.size with h0 | h0
 ·refine absurd ?_ h
  apply ByteArray.ext
  exact Array.eq_empty_of_size_eq_zero h0
 ·exact h0
def cr (f : Int → Bool) (s : ByteArray) (p : Nat) : Nat := if h : p < s.size ∧ f (aZ s p) = true then cr f s (p + 1) else p
termination_by s.size - p
decreasing_by omega
def pe (c : Int) : Bool := decide (c = 32 ∨ c = 9 ∨ c = 10)
def jc (c : Int) : Bool := decide (48 ≤ c ∧ c ≤ 57)
def aO (s : ByteArray) (p0 : Nat) : ByteArray × Nat × Bool :=
 let p := cr pe s p0
 if p = s.size then (.empty, p, true) else
 let c := aZ s p
 if c = 40 ∨ c = 41 then (s.extract p (p + 1), p, true) else
 if ff c true then
  let q := cr (ff · false) s (p + 1)
  if q - p > 40 then (.empty, p, false) else (s.extract p q, p, true)
 else if c = 35 ∨ jc c then
  let q := cr jc s (p + 1)
  let d := if c = 35 then p + 1 else p
  if q = d ∨ q - d > 5 ∨ (q - d > 1 ∧ aZ s d = 48) then (.empty, p, false) else (s.extract p q, p, true)
 else (.empty, p, false)
theorem eJ (f : Int → Bool) (s : ByteArray) (p : Nat) (h : p ≤ s.size) : p ≤ cr f s p ∧ cr f s p ≤ s.size := by
 rw [cr]
 split
 ·rename_i h1
  have := eJ f s (p + 1) (by omega)
  omega
 ·omega
termination_by s.size - p
variable {f : Int → Bool} {s : ByteArray} {p : Nat}
theorem mZ (h : p < s.size) (hf : f (aZ s p) = true) : cr f s p = cr f s (p + 1) := by
 rw [cr]; simp [h, hf]
theorem js (h : ¬ (p < s.size ∧ f (aZ s p) = true)) : cr f s p = p := by
 rw [cr]; simp only [h]; rfl
mutual
def aJ.subst (ps : List ByteArray) (ls : List aJ) : aJ → aJ
 | .mk k s args => if k = 4 then (match ps.findIdx? (· = s) with | some i => ls.getD i (.mk k s args) | none => .mk k s args) else .mk k s (eI ps ls args)
def eI (ps : List ByteArray) (ls : List aJ) : List aJ → List aJ
 | [] => []
 | l :: r => l.subst ps ls :: eI ps ls r
end
theorem tV (ps : List ByteArray) (ls : List aJ) : ∀ a : List aJ, (eI ps ls a).length = a.length
 | [] => rfl
 | l :: r => by simp [eI, tV ps ls r]
theorem tW (ps : List ByteArray) (ls : List aJ) : ∀ a b : List aJ, eI ps ls (a ++ b) = eI ps ls a ++ eI ps ls b
 | [], b => rfl
 | l :: r, b => by simp [eI, tW ps ls r b]
variable {ps : List ByteArray} {i : Nat}
theorem yD {ls a : List aJ} {x : aJ} (h : a[i]? = some x) : eI ps ls (a.take (i + 1)) = eI ps ls (a.take i) ++ [x.subst ps ls] := by
 rw [List.take_add_one, h, tW]; rfl
theorem yf (h : i < ps.length) (h1 : s ∉ ps.take i) (h2 : ps[i] = s) : ps.findIdx? (· = s) = some i := by
 rw [List.findIdx?_eq_some_iff_getElem]
 refine ⟨h, by simpa using h2, fun j hj => ?_⟩
 simp only [decide_eq_true_eq]
 intro e
 exact h1 (List.mem_iff_getElem.2 ⟨j, by simp; omega, by simpa using e⟩)
theorem yg (h : s ∉ ps) : ps.findIdx? (· = s) = none := by
 rw [List.findIdx?_eq_none_iff]
 intro x hx
 simp only [decide_eq_false_iff_not]
 intro e; subst e; exact h hx
theorem ni (a : Array UInt8) : (ByteArray.mk a).size = a.size := rfl
def cB.weight : cB → Nat
 | .zero => 10
 | .succ a => 10 + a.weight
 | .max a b => 10 + a.weight + b.weight
 | .imax a b => 10 + a.weight + b.weight
 | .param s => 10 + s.size
mutual
def tq : aJ → Prop
 | .mk k s args => 0 ≤ k ∧ k ≤ 4 ∧ (k = 4 → s ≠ .empty) ∧ BA args
def BA : List aJ → Prop
 | [] => True
 | l :: r => tq l ∧ BA r
end
end Go.Vd
namespace Go.Vd
open Go Go.RowKit
structure RS where
 p : Nat
 f : Option Nat
def bg : Option Nat → Int
 | none => 0
 | some _ => 1
def dJ : Option Nat → Int
 | none => 0
 | some a => a
def RS.fail (at' : Nat) (r : RS) : RS := match r.f with
 | none => ⟨r.p, some at'⟩
 | some a => ⟨r.p, some a⟩
def aF (s : ByteArray) (r : RS) : ByteArray × RS :=
 let t := aO s r.p
 if t.2.2 = false ∨ t.1 = .empty then (.empty, r.fail t.2.1)
 else match r.f with
  | none => (t.1, ⟨t.2.1 + t.1.size, none⟩)
  | some a => (.empty, ⟨r.p, some a⟩)
def bT (s w : ByteArray) (r : RS) : RS :=
 let t := aO s r.p
 if t.2.2 = false ∨ t.1 ≠ w then r.fail t.2.1
 else match r.f with
  | none => ⟨t.2.1 + t.1.size, none⟩
  | some a => ⟨r.p, some a⟩
def fU (w : ByteArray) : Int :=
 if w = ⟨#[115]⟩ then 1 else if w = ⟨#[109, 97, 120]⟩ then 2 else if w = ⟨#[105, 109, 97, 120]⟩ then 3 else 0
def jB : aJ := .mk 0 .empty []
def bw : Nat → ByteArray → RS → aJ × RS
 | 0, _, r => (jB, r)
 | n + 1, s, r =>
  match r.f with
  | some _ => (jB, r)
  | none =>
   let t := aO s r.p
   if t.1 = ⟨#[48]⟩ then (jB, (aF s r).2)
   else if db t.1 then (.mk 4 t.1 [], (aF s r).2)
   else if t.1 = ⟨#[40]⟩ then
    let r1 := (aF s r).2
    let w := aO s r1.p
    if fU w.1 = 0 then (jB, r1.fail w.2.1)
    else
     let r2 := (aF s r1).2
     let a := bw n s r2
     if fU w.1 = 1 then (.mk 1 .empty [a.1], bT s ⟨#[41]⟩ a.2)
     else
      let b := bw n s a.2
      (.mk (fU w.1) .empty [a.1, b.1], bT s ⟨#[41]⟩ b.2)
   else (jB, r.fail t.2.1)
def ik (s : ByteArray) (r : RS) : RS :=
 let t := aO s r.p
 if t.2.2 = false ∨ t.1 ≠ .empty then r.fail t.2.1 else r
section
variable {s : ByteArray} {p i : Nat}
theorem GF (h : cr pe s p = cr pe s i) (hi : i = s.size) : aO s p = (.empty, i, true) := by
 have h1 : cr pe s p = i := h.trans (js (by omega))
 unfold aO; simp only [h1, hi]; rfl
theorem GD (h : cr pe s p = i) (hi : i < s.size) (hc : aZ s i = 40 ∨ aZ s i = 41) : aO s p = (s.extract i (i + 1), i, true) := by
 unfold aO; simp only [h]; rw [if_neg (by omega), if_pos hc]
variable {q : Nat}
theorem wk {f : Int → Bool} {s : ByteArray} {p : Nat} (h : cr f s p = cr f s q) (hn : (s.size : Int) ≤ q ∨ f (aZ s q) = false) : cr f s p = q := h.trans (js (by
 rintro ⟨h1, h2⟩
 rcases hn with h3 | h3
 ·omega
 ·rw [h3] at h2; cases h2))
theorem m0 {s : ByteArray} {p : Nat} (h : cr jc s p = cr jc s q) (hn : ¬ ((q : Int) < s.size ∧ 48 ≤ aZ s q ∧ aZ s q ≤ 57)) : cr jc s p = q := h.trans (js (by
 rintro ⟨h1, h2⟩
 simp only [jc, decide_eq_true_eq] at h2
 omega))
theorem AA (h : cr pe s p = i) (hi : i < s.size) (hc : ¬ (aZ s i = 40 ∨ aZ s i = 41)) (hn : ff (aZ s i) true = true) (hq : cr (ff · false) s (i + 1) = q) (hl : 40 < q - i) : aO s p = (.empty, i, false) := by
 unfold aO; simp only [h]; rw [if_neg (by omega), if_neg hc, if_pos hn, hq, if_pos hl]
theorem EA (h : cr pe s p = i) (hi : i < s.size) (hc : ¬ (aZ s i = 40 ∨ aZ s i = 41)) (hn : ff (aZ s i) true = true) (hq : cr (ff · false) s (i + 1) = q) (hl : ¬ 40 < q - i) : aO s p = (s.extract i q, i, true) := by
 unfold aO; simp only [h]; rw [if_neg (by omega), if_neg hc, if_pos hn, hq, if_neg hl]
variable {d : Nat}
theorem we (h : cr pe s p = i) (hi : i < s.size) (hc : ¬ (aZ s i = 40 ∨ aZ s i = 41)) (hn : ff (aZ s i) true = false) (hd : aZ s i = 35 ∨ (48 ≤ aZ s i ∧ aZ s i ≤ 57)) (hq : cr jc s (i + 1) = q) (hdd : (if aZ s i = 35 then i + 1 else i) = d) (hl : q = d ∨ 5 < q - d ∨ (1 < q - d ∧ aZ s d = 48)) : aO s p = (.empty, i, false) := by
 have h2 : aZ s i = 35 ∨ jc (aZ s i) = true := by simpa [jc] using hd
 unfold aO; simp only [h]; rw [if_neg (by omega), if_neg hc, if_neg (by simp [hn]), if_pos h2, hq, hdd, if_pos hl]
theorem Ck (h : cr pe s p = i) (hi : i < s.size) (hc : ¬ (aZ s i = 40 ∨ aZ s i = 41)) (hn : ff (aZ s i) true = false) (hd : aZ s i = 35 ∨ (48 ≤ aZ s i ∧ aZ s i ≤ 57)) (hq : cr jc s (i + 1) = q) (hdd : (if aZ s i = 35 then i + 1 else i) = d) (hl : ¬ (q = d ∨ 5 < q - d ∨ (1 < q - d ∧ aZ s d = 48))) : aO s p = (s.extract i q, i, true) := by
 have h2 : aZ s i = 35 ∨ jc (aZ s i) = true := by simpa [jc] using hd
 unfold aO; simp only [h]; rw [if_neg (by omega), if_neg hc, if_neg (by simp [hn]), if_pos h2, hq, hdd, if_neg hl]
theorem Ez (h : cr pe s p = i) (hi : i < s.size) (hc : ¬ (aZ s i = 40 ∨ aZ s i = 41)) (hn : ff (aZ s i) true = false) (hd : ¬ (aZ s i = 35 ∨ (48 ≤ aZ s i ∧ aZ s i ≤ 57))) : aO s p = (.empty, i, false) := by
 have h2 : ¬ (aZ s i = 35 ∨ jc (aZ s i) = true) := by simpa [jc] using hd
 unfold aO; simp only [h]; rw [if_neg (by omega), if_neg hc, if_neg (by simp [hn]), if_neg h2]
end
theorem eG {s : ByteArray} {p : Nat} (hp : p ≤ s.size) : p ≤ (aO s p).2.1 ∧ (aO s p).2.1 + (aO s p).1.size ≤ s.size := by
 have h1 := eJ pe s p hp
 unfold aO
 simp only
 split
 ·rename_i h; exact ⟨h1.1, by simp; omega⟩
 ·rename_i h
  have h2 : cr pe s p + 1 ≤ s.size := by omega
  split
  ·exact ⟨h1.1, by simp [ByteArray.size_extract]; omega⟩
  ·split
   ·have h3 := eJ (ff · false) s _ h2
    split
    ·exact ⟨h1.1, by simp; omega⟩
    ·exact ⟨h1.1, by simp [ByteArray.size_extract]; omega⟩
   ·have h3 := eJ jc s _ h2
    repeat' split
    all_goals first
     | exact ⟨h1.1, by simp; omega⟩
     | exact ⟨h1.1, by simp [ByteArray.size_extract]; omega⟩
theorem pH {s : ByteArray} {p : Nat} : (aO s p).2.2 = false → (aO s p).1 = .empty := by
 unfold aO
 dsimp only
 repeat' split
 all_goals first
  | (intro _; rfl)
  | (intro h; cases h)
theorem gO {s : ByteArray} {p : Nat} (ht : (aO s p).1 ≠ .empty) : aF s ⟨p, none⟩ = ((aO s p).1, ⟨(aO s p).2.1 + (aO s p).1.size, none⟩) := by
 unfold aF
 dsimp only
 rw [if_neg]
 rintro (h | h)
 ·exact ht (pH h)
 ·exact ht h
theorem RS.gm (at' : Nat) (r : RS) : (r.fail at').p = r.p := by obtain ⟨p, f⟩ := r; cases f <;> rfl
variable {r : RS}
theorem cy {s : ByteArray} (hp : r.p ≤ s.size) : r.p ≤ (aF s r).2.p ∧ (aF s r).2.p ≤ s.size := by
 have hat := eG (s := s) hp
 obtain ⟨p, f⟩ := r
 simp only at hp hat
 unfold aF
 dsimp only
 split
 ·rw [RS.gm]; exact ⟨Nat.le_refl _, hp⟩
 ·cases f with
  | none => dsimp only; exact ⟨by omega, hat.2⟩
  | some a => exact ⟨Nat.le_refl _, hp⟩
theorem bO {s w : ByteArray} (hp : r.p ≤ s.size) : r.p ≤ (bT s w r).p ∧ (bT s w r).p ≤ s.size := by
 have hat := eG (s := s) hp
 obtain ⟨p, f⟩ := r
 simp only at hp hat
 unfold bT
 dsimp only
 split
 ·rw [RS.gm]; exact ⟨Nat.le_refl _, hp⟩
 ·cases f with
  | none => dsimp only; exact ⟨by omega, hat.2⟩
  | some a => exact ⟨Nat.le_refl _, hp⟩
theorem dP {s : ByteArray} : ∀ (n : Nat) {r : RS}, r.p ≤ s.size → r.p ≤ (bw n s r).2.p ∧ (bw n s r).2.p ≤ s.size := by
 intro n
 induction n with
 | zero => intro r hp; exact ⟨Nat.le_refl _, hp⟩
 | succ n ih =>
  intro r hp
  obtain ⟨p, f⟩ := r
  simp only at hp
  cases f with
  | some a => exact ⟨Nat.le_refl _, hp⟩
  | none =>
   have h1 := cy (s := s) (r := ⟨p, none⟩) hp
   have h2 := cy (s := s) (r := (aF s ⟨p, none⟩).2) h1.2
   have h3 := ih h2.2
   have h4 := ih h3.2
   simp only at h1
   simp only [bw]
   split
   ·exact h1
   ·split
    ·exact h1
    ·split
     ·split
      ·rw [RS.gm]; exact h1
      ·split
       ·have h5 := bO (s := s) (w := ⟨#[41]⟩) h3.2
        exact ⟨Nat.le_trans (m := (bw n s (aF s (aF s ⟨p, none⟩).2).2).2.p) (by omega) h5.1, h5.2⟩
       ·have h5 := bO (s := s) (w := ⟨#[41]⟩) h4.2
        exact ⟨Nat.le_trans (m := (bw n s (bw n s (aF s (aF s ⟨p, none⟩).2).2).2).2.p) (by omega) h5.1, h5.2⟩
     ·rw [RS.gm]; exact ⟨Nat.le_refl _, hp⟩
section
variable {s : ByteArray} {p n : Nat}
theorem j3 (h5 : (aO s p).1 = ⟨#[48]⟩) : bw (n + 1) s ⟨p, none⟩ = (jB, (aF s ⟨p, none⟩).2) := by simp only [bw]; rw [if_pos h5]
theorem j4 (h5 : ¬ (aO s p).1 = ⟨#[48]⟩) (h7 : db (aO s p).1 = true) : bw (n + 1) s ⟨p, none⟩ = (.mk 4 (aO s p).1 [], (aF s ⟨p, none⟩).2) := by simp only [bw]; rw [if_neg h5, if_pos h7]
theorem j5 (h5 : ¬ (aO s p).1 = ⟨#[48]⟩) (h7 : db (aO s p).1 = false) (h10 : (aO s p).1 = ⟨#[40]⟩) (h21 : fU (aO s (aF s ⟨p, none⟩).2.p).1 = 0) :
 bw (n + 1) s ⟨p, none⟩ = (jB, (aF s ⟨p, none⟩).2.fail (aO s (aF s ⟨p, none⟩).2.p).2.1) := by simp only [bw]; rw [if_neg h5, if_neg (by simp [h7]), if_pos h10, if_pos h21]
theorem nB (h5 : ¬ (aO s p).1 = ⟨#[48]⟩) (h7 : db (aO s p).1 = false) (h10 : (aO s p).1 = ⟨#[40]⟩) (h27 : fU (aO s (aF s ⟨p, none⟩).2.p).1 = 1) :
 bw (n + 1) s ⟨p, none⟩ = (.mk 1 .empty [(bw n s (aF s (aF s ⟨p, none⟩).2).2).1], bT s ⟨#[41]⟩ (bw n s (aF s (aF s ⟨p, none⟩).2).2).2) := by
 simp only [bw]; rw [if_neg h5, if_neg (by simp [h7]), if_pos h10, if_neg (by omega), if_pos h27]
theorem iC (h5 : ¬ (aO s p).1 = ⟨#[48]⟩) (h7 : db (aO s p).1 = false) (h10 : (aO s p).1 = ⟨#[40]⟩) (h21 : ¬ fU (aO s (aF s ⟨p, none⟩).2.p).1 = 0) (h27 : ¬ fU (aO s (aF s ⟨p, none⟩).2.p).1 = 1) :
 bw (n + 1) s ⟨p, none⟩ = (.mk (fU (aO s (aF s ⟨p, none⟩).2.p).1) .empty [(bw n s (aF s (aF s ⟨p, none⟩).2).2).1, (bw n s (bw n s (aF s (aF s ⟨p, none⟩).2).2).2).1], bT s ⟨#[41]⟩ (bw n s (bw n s (aF s (aF s ⟨p, none⟩).2).2).2).2) := by
 simp only [bw]; rw [if_neg h5, if_neg (by simp [h7]), if_pos h10, if_neg h21, if_neg h27]
theorem j6 (h5 : ¬ (aO s p).1 = ⟨#[48]⟩) (h7 : db (aO s p).1 = false) (h10 : ¬ (aO s p).1 = ⟨#[40]⟩) : bw (n + 1) s ⟨p, none⟩ = (jB, (RS.mk p none).fail (aO s p).2.1) := by
 simp only [bw]; rw [if_neg h5, if_neg (by simp [h7]), if_neg h10]
end
end Go.Vd
namespace Go.Proofs.YtndbnldjidciiaaGreatDoor
open Go Go.Vd Go.RowKit
attribute [local irreducible] bl br de aj bI
variable {gl : Nat → List D}
theorem iJ (name : ByteArray) (l : List ByteArray) (hl : l.length ≤ 281474976710656) : cD Tryz.prog gl 101 [.v (.string name), c6 l] (· = .v (.bool (tl name l))) := by
 refine bD Tryz.func101 Tryz.ntmps101 ?_
 have hlen := bU l
 refine kc 12 [5, 0, 1] 0 ?_;refine lP (ι := Nat) (fun i => [(5, int i)]) [0, 1] (fun i => i ≤ l.length ∧ name ∉ l.take i) (fun i => l.length - i) (0) rfl ?I1 ?M1 ?H1
 case I1 =>
  exact ⟨by omega, by simp⟩
 case M1 =>
  exact mz
 case H1 =>
  rintro i hinv
  try dsimp only at hinv
  refine kc 0 [5, 0, 1] 9 ?_;refine cJ (fun h2 => ?_) (fun h2 => ?_)
  ·refine kc 5 [] 6 ?_;refine ez ?_
   rw [Bg]
   have : l.take i = l := List.take_of_length_le (by omega)
   rw [← this]; exact hinv.2
  refine kc 4 [5, 0, 1] 4 ?_;refine o1 (bV jW lF ?_ (he := by exact (fX (by omega))));refine go 5 ?_;refine cj (fun h4 => ?_) (fun h4 => ?_)
  ·refine kc 0 [] 11 ?_;refine ez ?_
   rw [Dx (by omega) h4]
  refine kc 3 [5, 0, 1] 2 ?_;refine o1 (cw ?_);refine go 2 ?_;refine bi (i + 1) rfl ?_ ?_
  ·exact ⟨⟨by omega, gN (by omega) hinv.2 h4⟩, by omega⟩
  ·exact mz
theorem oh : ∀ (n : Nat) (k : Int) (s : ByteArray) (args : List aJ) (ah : List ByteArray), (aJ.mk k s args).size ≤ n → ah.length + (aJ.mk k s args).size ≤ 1099511627776 →
 ey Tryz.prog gl 100 [.row 9 1] [.d (aJ.mk k s args).d, .own 0 1 (strs ah)] fun out ob' => out = .ret (.own 0 1 (strs ((aJ.mk k s args).params ah))) ∧ ob' = [.row 9 1] := by
 intro n
 induction n with
 | zero => intro k s args ah h; simp [aJ.size] at h
 | succ n ih =>
  intro k s args ah hn hb
  have hsz : aS args ≤ n := by simp [aJ.size] at hn; omega
  have hlen := bR args
  have hlen2 := bU ah
  have hlb := iA args
  simp only [aJ.size] at hb
  refine bS Tryz.func100 Tryz.ntmps100 1 ?_;refine gc 14 ?_;refine cj (fun h1 => ?_) (fun h1 => ?_)
  ·refine kc 0 [2, 1] 5 ?_;refine oc (cv xm rfl rfl (iJ s ah (by omega)) (an (bd .nil)) ?_);refine ko 4 [5, 2, 1] 6 ?_;refine cJ (fun h3 => ?_) (fun h3 => ?_)
   ·refine kc 2 [1] 8 ?_;refine fR ?_;refine jS ⟨_, _, rfl, rfl, rfl⟩ [0] (.own 0 1 (strs ah)) ([.row 9 1]) rfl rfl rfl ?_ rfl ?_ ?_
    ·repeat (first | exact cW | refine cu ?_)
    ·exact .refl _
    ·refine ⟨?_, rfl⟩; simp only [aJ.params, if_pos (show k = 4 by omega), h3]; rfl
   refine gc 4 ?_;refine oc (gR ng [.tmp 18] AB ?_);refine oc (nU ng ?_);refine ko 3 [1] 8 ?_;refine fR ?_;refine jS ⟨_, _, rfl, rfl, rfl⟩ [0] (.own 0 1 (strs (ah ++ [s]))) ([.row 9 1]) rfl rfl rfl ?_ rfl ?_ ?_
   ·repeat (first | exact cW | refine cu ?_)
   ·exact Fit.of_eq (by rw [← gC]; rfl)
   ·refine ⟨?_, rfl⟩; simp only [aJ.params, if_pos (show k = 4 by omega), h3]; rfl
  refine kc 3 [2, 1] 6 ?_;refine lP (ι := Nat) (fun i => [(6, int i), (1, .own 0 1 (strs (cF (args.take i) ah)))]) [2] (fun i => i ≤ args.length) (fun i => args.length - i) (0) rfl ?I2 ?M2 ?H2
  case I2 =>
   exact Nat.zero_le _
  case M2 =>
   exact mz
  case H2 =>
   rintro i hinv
   try dsimp only at hinv
   refine kc 0 [6, 1, 2] 10 ?_;refine cJ (fun h7 => ?_) (fun h7 => ?_)
   ·refine kc 5 [1] 7 ?_;refine fR ?_;refine jS ⟨_, _, rfl, rfl, rfl⟩ [0] (.own 0 1 (strs (cF (args.take i) ah))) ([.row 9 1]) rfl rfl rfl ?_ rfl ?_ ?_
    ·repeat (first | exact cW | refine cu ?_)
    ·exact .refl _
    ·refine ⟨?_, rfl⟩; simp only [aJ.params, if_neg (show ¬ k = 4 by omega)]; rw [List.take_of_length_le (by omega)]
   refine kc 4 [6, 1, 2] 4 ?_; obtain ⟨k', s', a', hget⟩ := cU (show i < args.length by omega)
   have hsz' := iT hget
   have hlt := om (args.take i) ah
   have hst := AI hget
   have hsl := vD args (i + 1)
   refine o1 (bV ee ei ?_ (he := by exact (cZ hget)));refine go 2 ?_;refine oc (ay vm rfl rfl rfl rfl (ih k' s' a' (cF (args.take i) ah) (by omega) (by omega)) [0] (cu .nil) rfl rfl rfl rfl (bd (an .nil)) (fun s ob' hq => ?_) (fun s ob' hq => ?_))
   rotate_left
   ·first | exact hq.elim | cases hq.1
   obtain ⟨hq1, rfl⟩ := hq; cases hq1
   rw [← np hget]; refine ⟨_, _, _, _, _, rfl, rfl, rfl, rfl, rfl, ?_⟩;refine ko 4 [1, 6, 2] 2 ?_;refine o1 (cw ?_);refine go 2 ?_;refine bi (i + 1) rfl ?_ ?_
   ·exact ⟨by omega, by omega⟩
   ·exact mz
end Go.Proofs.YtndbnldjidciiaaGreatDoor
namespace Go.Proofs.YtndbnldjidciiaaGreatDoor
open Go Go.Vd Go.RowKit
attribute [local irreducible] bl br de aj bI
variable {gl : Nat → List D}
theorem lk (c : Int) (first : Bool) : cD Tryz.prog gl 125 [.v (.int .u8 c), .v (.bool first)] (· = .v (.bool (ff c first))) := by
 refine bD Tryz.func125 Tryz.ntmps125 ?_;refine gc 10 ?_
 refine' oa (yt := 10) (d := 8) 2 ?a1 ?b1 ?_
 case a1 =>
  intro hc hK
  refine go 2 ?_; exact hK [_, _] rfl rfl
 case b1 =>
  intro _ hK; refine go 2 ?_; exact hK [_, _] rfl
 refine go 1 ?_
 refine' oo (yt := 18) (d := 12) 6 ?a2 ?b2 ?_
 case a2 =>
  intro hc hK
  refine go 3 ?_
  refine' oa (yt := 17) (d := 15) 2 ?a3 ?b3 ?_ (hg := .yes rfl rfl rfl rfl)
  case a3 =>
   intro hc hK
   refine go 2 ?_; exact hK [_, _] rfl rfl
  case b3 =>
   intro _ hK; refine go 2 ?_; exact hK [_, _] rfl
  exact hK [_, _, _, _] rfl rfl
 case b2 =>
  intro _ hK; refine go 6 ?_; exact hK [_, _, _, _, _, _] rfl
 refine go 1 ?_
 refine' oo (yt := 22) (d := 20) 2 ?a4 ?b4 ?_
 case a4 =>
  intro hc hK
  refine go 2 ?_; exact hK [_, _] rfl rfl
 case b4 =>
  intro _ hK; refine go 2 ?_; exact hK [_, _] rfl
 refine ko 3 [5, 0, 1] 4 ?_
 refine' oo (yt := 43) (d := 25) 18 ?a5 ?b5 ?_
 case a5 =>
  intro hc hK
  refine go 3 ?_
  refine' oa (yt := 42) (d := 28) 14 ?a6 ?b6 ?_ (hg := .yes rfl rfl rfl rfl)
  case a6 =>
   intro hc hK
   refine go 3 ?_
   refine' oa (yt := 33) (d := 31) 2 ?a7 ?b7 ?_ (hg := .yes rfl rfl rfl rfl)
   case a7 =>
    intro hc hK
    refine go 2 ?_; exact hK [_, _] rfl rfl
   case b7 =>
    intro _ hK; refine go 2 ?_; exact hK [_, _] rfl
   refine go 1 ?_
   refine' oo (yt := 37) (d := 35) 2 ?a8 ?b8 ?_ (hg := .yes rfl rfl rfl rfl)
   case a8 =>
    intro hc hK
    refine go 2 ?_; exact hK [_, _] rfl rfl
   case b8 =>
    intro _ hK; refine go 2 ?_; exact hK [_, _] rfl
   refine go 1 ?_
   refine' oo (yt := 41) (d := 39) 2 ?a9 ?b9 ?_ (hg := .yes rfl rfl rfl rfl)
   case a9 =>
    intro hc hK
    refine go 2 ?_; exact hK [_, _] rfl rfl
   case b9 =>
    intro _ hK; refine go 2 ?_; exact hK [_, _] rfl
   exact hK [_, _, _, _, _, _, _, _] rfl rfl
  case b6 =>
   intro _ hK; refine go 14 ?_; exact hK [_, _, _, _, _, _, _, _, _, _, _, _, _, _] rfl
  exact hK [_, _, _, _] rfl rfl
 case b5 =>
  intro _ hK; refine go 18 ?_; exact hK [_, _, _, _, _, _, _, _, _, _, _, _, _, _, _, _, _, _] rfl
 refine go 4 ?_;refine ez ?_
 congr 2
 rw [Bool.eq_iff_iff]
 cases first <;> simp only [ff, Bool.or_eq_true, Bool.and_eq_true, decide_eq_true_eq, Bool.not_eq_true', Bool.not_true, Bool.not_false, Bool.false_eq_true, Bool.true_eq_false, true_and, false_and, or_false, reduceCtorEq] <;> constructor <;> intro h <;> omega
theorem j8 (t : ByteArray) : cD Tryz.prog gl 126 [.v (.string t)] (· = .v (.bool (db t))) := by
 refine bD Tryz.func126 Tryz.ntmps126 ?_;refine gc 10 ?_
 refine' oa (yt := 8) (d := 5) 3 ?a10 ?b10 ?_
 case a10 =>
  intro hc hK
  refine go 1 ?_
  have hpos := n5 hc
  refine gy ?_;refine o1 (BT rO ?_);refine gy ?_;refine oc (cv F8 rfl rfl (lk (aZ t (0 : Int).toNat) true) (an (an .nil)) ?_); exact hK [_, _, _] rfl rfl
 case b10 =>
  intro _ hK; refine go 3 ?_; exact hK [_, _, _] rfl
 refine go 4 ?_;refine ez ?_
 congr 2
 unfold db
 rw [show (0 : Int).toNat = 0 from rfl]
 have e : (⟨#[]⟩ : ByteArray) = .empty := rfl
 rw [e]
 simp
theorem Is {s : ByteArray} {i : Nat} (h : aZ s i = 32 ∨ aZ s i = 9 ∨ aZ s i = 10) : pe (aZ s i) = true := by simpa [pe] using h
theorem cE (s : ByteArray) (p : Nat) (c a : Int) (hs : s.size ≤ 1099511627776) (hp : p ≤ s.size) :
 ey Tryz.prog gl 87 [.cells [.d (.v (.string s)), .d (.v (.int .i64 p)), .d (.v (.int .i64 c)), .d (.v (.int .i64 a))] 112] [.bZ 0 0]
  fun out ob' => out = .ret (.d (.cb [.v (.string (aO s p).1), .v (.int .i64 (aO s p).2.1), .v (.bool (aO s p).2.2)])) ∧ ob' = [.cells [.d (.v (.string s)), .d (.v (.int .i64 p)), .d (.v (.int .i64 c)), .d (.v (.int .i64 a))] 112] := by
 refine bS Tryz.func87 Tryz.ntmps87 1 ?_;refine kc 18 [5, 0] 0 ?_;refine lP (ι := Nat) (fun i => [(5, int i)]) [0] (fun i => i ≤ s.size ∧ cr pe s p = cr pe s i) (fun i => s.size - i) (p) rfl ?I26 ?M26 ?H26
 case I26 =>
  exact ⟨hp, rfl⟩
 case M26 =>
  exact mz
 case H26 =>
  rintro i hinv
  try dsimp only at hinv
  refine kc 0 [5, 0] 11 ?_
  refine' oa (yt := 46) (d := 21) 25 ?a11 ?b11 ?_
  case a11 =>
   intro hc hK
   refine go 5 ?_;refine gy ?_;refine o1 (BT rO ?_);refine go 2 ?_
   refine' oo (yt := 36) (d := 29) 7 ?a12 ?b12 ?_ (hg := .yes rfl rfl rfl rfl)
   case a12 =>
    intro hc hK
    refine go 5 ?_;refine gy ?_;refine o1 (BT rO ?_);refine go 1 ?_; exact hK [_, _, _, _, _, _, _] rfl rfl
   case b12 =>
    intro _ hK; refine go 7 ?_; exact hK [_, _, _, _, _, _, _] rfl
   refine go 1 ?_
   refine' oo (yt := 45) (d := 38) 7 ?a13 ?b13 ?_ (hg := .yes rfl rfl rfl rfl)
   case a13 =>
    intro hc hK
    refine go 5 ?_;refine gy ?_;refine o1 (BT rO ?_);refine go 1 ?_; exact hK [_, _, _, _, _, _, _] rfl rfl
   case b13 =>
    intro _ hK; refine go 7 ?_; exact hK [_, _, _, _, _, _, _] rfl
   exact hK [_, _, _, _, _, _, _, _, _, _, _] rfl rfl
  case b11 =>
   intro _ hK; refine go 25 ?_
   exact hK [_, _, _, _, _, _, _, _, _, _, _, _, _, _, _, _, _, _, _, _, _, _, _, _, _] rfl
  refine go 2 ?_;refine cj (fun h2 => ?_) (fun h2 => ?_)
  ·refine kc 3 [5, 0] 2 ?_;refine o1 (cw ?_);refine go 3 ?_;refine bi (i + 1) rfl ?_ mz
   exact ⟨⟨by omega, hinv.2.trans (mZ (by omega) (Is (by omega)))⟩, by omega⟩
  refine kc 6 [5, 0] 11 ?_;refine cj (fun h4 => ?_) (fun h4 => ?_)
  ·refine kc 0 [5] 10 ?_;refine qI [0] [.cells [.d (.v (.string s)), .d (.v (.int .i64 p)), .d (.v (.int .i64 c)), .d (.v (.int .i64 a))] 112] ?_
   ·rw [GF hinv.2 (by omega)]; exact ⟨rfl, rfl⟩
  refine kc 3 [5, 0] 0 ?_
  have hsp := hinv.2.trans (js (by rintro ⟨h8, h9⟩; have h10 : aZ s i = 32 ∨ aZ s i = 9 ∨ aZ s i = 10 := (by simpa [pe] using h9); omega))
  refine gc 2 ?_;refine o1 (cw ?_);refine go 10 ?_;refine o1 (BT rO ?_);refine ko 3 [7, 6, 5, 0] 3 ?_;refine oc (cv F8 rfl rfl (lk (aZ s i) true) (an (an .nil)) ?_);refine go 10 ?_
  refine' oo (yt := 74) (d := 72) 2 ?a14 ?b14 ?_
  case a14 =>
   intro hc hK
   refine go 2 ?_; exact hK [_, _] rfl rfl
  case b14 =>
   intro _ hK; refine go 2 ?_; exact hK [_, _] rfl
  refine go 3 ?_;refine cj (fun h10 => ?_) (fun h10 => ?_)
  ·refine kc 3 [6, 5, 0] 8 ?_;refine o1 (oG rO ?_);refine go 7 ?_;refine qI [0] [.cells [.d (.v (.string s)), .d (.v (.int .i64 p)), .d (.v (.int .i64 c)), .d (.v (.int .i64 a))] 112] ?_
   ·rw [GD hsp (by omega) (by omega)]; exact ⟨rfl, rfl⟩
  refine kc 0 [8, 7, 6, 5, 0] 6 ?_;refine cj (fun h11 => ?_) (fun h11 => ?_)
  ·refine kc 2 [6, 5, 0] 0 ?_;refine lP (ι := Nat) (fun q => [(6, int q)]) [5, 0] (fun q => i < q ∧ q ≤ s.size ∧ cr (ff · false) s (i + 1) = cr (ff · false) s q) (fun q => s.size - q) (i + 1) rfl ?I27 ?M27 ?H27
   case I27 =>
    exact ⟨by omega, by omega, rfl⟩
   case M27 =>
    exact mz
   case H27 =>
    rintro q hinv
    try dsimp only at hinv
    refine kc 0 [6, 5, 0] 11 ?_
    refine' oa (yt := 92) (d := 85) 7 ?a15 ?b15 ?_
    case a15 =>
     intro hc hK
     refine go 5 ?_;refine gy ?_;refine o1 (BT rO ?_);refine gy ?_;refine oc (cv F8 rfl rfl (lk (aZ s q) false) (an (an .nil)) ?_)
     exact hK [_, _, _, _, _, _, _] rfl rfl
    case b15 =>
     intro _ hK; refine go 7 ?_; exact hK [_, _, _, _, _, _, _] rfl
    refine go 2 ?_;refine cj (fun h12 => ?_) (fun h12 => ?_)
    ·refine kc 3 [6, 5, 0] 2 ?_;refine o1 (cw ?_);refine go 3 ?_;refine bi (q + 1) rfl ?_ mz
     exact ⟨⟨by omega, by omega, hinv.2.2.trans (mZ (by omega) (by simpa using h12.2))⟩, by omega⟩
    refine kc 5 [6, 5, 0] 4 ?_;refine o1 (nT ?_);refine go 3 ?_;refine cj (fun h14 => ?_) (fun h14 => ?_)
    ·refine kc 0 [5] 11 ?_;refine qI [0] [.cells [.d (.v (.string s)), .d (.v (.int .i64 p)), .d (.v (.int .i64 c)), .d (.v (.int .i64 a))] 112] ?_
     ·rw [AA hsp (by omega) (by omega) h11 (wk hinv.2.2 h12) (by omega)]; exact ⟨rfl, rfl⟩
    refine kc 3 [6, 5, 0] 8 ?_;refine o1 (oG rO ?_);refine go 7 ?_;refine qI [0] [.cells [.d (.v (.string s)), .d (.v (.int .i64 p)), .d (.v (.int .i64 c)), .d (.v (.int .i64 a))] 112] ?_
    ·rw [EA hsp (by omega) (by omega) h11 (wk hinv.2.2 h12) (by omega)]; exact ⟨rfl, rfl⟩
  refine gc 5 ?_
  refine' oo (yt := 110) (d := 104) 6 ?a16 ?b16 ?_
  case a16 =>
   intro hc hK
   refine go 3 ?_
   refine' oa (yt := 109) (d := 107) 2 ?a17 ?b17 ?_ (hg := .yes rfl rfl rfl rfl)
   case a17 =>
    intro hc hK
    refine go 2 ?_; exact hK [_, _] rfl rfl
   case b17 =>
    intro _ hK; refine go 2 ?_; exact hK [_, _] rfl
   exact hK [_, _, _, _] rfl rfl
  case b16 =>
   intro _ hK; refine go 6 ?_; exact hK [_, _, _, _, _, _] rfl
  refine go 3 ?_;refine cJ (fun h16 => ?_) (fun h16 => ?_)
  ·refine kc 0 [5] 11 ?_;refine qI [0] [.cells [.d (.v (.string s)), .d (.v (.int .i64 p)), .d (.v (.int .i64 c)), .d (.v (.int .i64 a))] 112] ?_
   ·rw [Ez hsp (by omega) (by omega) h11 (by omega)]; exact ⟨rfl, rfl⟩
  refine kc 2 [7, 6, 5, 0] 0 ?_;refine lP (ι := Nat) (fun q => [(6, int q)]) [7, 5, 0] (fun q => i < q ∧ q ≤ s.size ∧ cr jc s (i + 1) = cr jc s q) (fun q => s.size - q) (i + 1) rfl ?I28 ?M28 ?H28
  case I28 =>
   exact ⟨by omega, by omega, rfl⟩
  case M28 =>
   exact mz
  case H28 =>
   rintro q hinv
   try dsimp only at hinv
   refine kc 0 [6, 7, 5, 0] 11 ?_
   refine' oa (yt := 126) (d := 119) 7 ?a18 ?b18 ?_
   case a18 =>
    intro hc hK
    refine go 5 ?_;refine gy ?_;refine o1 (BT rO ?_);refine go 1 ?_; exact hK [_, _, _, _, _, _, _] rfl rfl
   case b18 =>
    intro _ hK; refine go 7 ?_; exact hK [_, _, _, _, _, _, _] rfl
   refine go 1 ?_
   refine' oa (yt := 135) (d := 128) 7 ?a19 ?b19 ?_
   case a19 =>
    intro hc hK
    refine go 5 ?_;refine gy ?_;refine o1 (BT rO ?_);refine go 1 ?_; exact hK [_, _, _, _, _, _, _] rfl rfl
   case b19 =>
    intro _ hK; refine go 7 ?_; exact hK [_, _, _, _, _, _, _] rfl
   refine go 2 ?_;refine cj (fun h17 => ?_) (fun h17 => ?_)
   ·refine kc 3 [6, 7, 5, 0] 2 ?_;refine o1 (cw ?_);refine go 3 ?_;refine bi (q + 1) rfl ?_ mz
    exact ⟨⟨by omega, by omega, hinv.2.2.trans (mZ (by omega) (by simp only [jc, decide_eq_true_eq]; omega))⟩, by omega⟩
   refine kc 5 [6, 7, 5, 0] 13 ?_;refine cJ (fun h20 => ?_) (fun h20 => ?_)
   ·refine kc 2 [9, 6, 5, 0] 6 ?_
    refine' oo (yt := 151) (d := 147) 4 ?a20 ?b20 ?_
    case a20 =>
     intro hc hK
     refine go 2 ?_;refine gy ?_;refine o1 (nT ?_);refine go 1 ?_
     exact hK [_, _, _, _] rfl rfl
    case b20 =>
     intro _ hK; refine go 4 ?_; exact hK [_, _, _, _] rfl
    refine go 1 ?_
    refine' oo (yt := 166) (d := 153) 13 ?a21 ?b21 ?_
    case a21 =>
     intro hc hK
     refine go 2 ?_;refine gy ?_;refine o1 (nT ?_);refine go 2 ?_
     refine' oa (yt := 165) (d := 158) 7 ?a22 ?b22 ?_ (hg := .yes rfl rfl rfl rfl)
     case a22 =>
      intro hc hK
      refine go 5 ?_;refine gy ?_;refine o1 (BT rO ?_);refine go 1 ?_; exact hK [_, _, _, _, _, _, _] rfl rfl
     case b22 =>
      intro _ hK; refine go 7 ?_; exact hK [_, _, _, _, _, _, _] rfl
     exact hK [_, _, _, _, _, _] rfl rfl
    case b21 =>
     intro _ hK; refine go 13 ?_; exact hK [_, _, _, _, _, _, _, _, _, _, _, _, _] rfl
    refine go 2 ?_;refine cj (fun h22 => ?_) (fun h22 => ?_)
    ·refine kc 0 [5] 11 ?_;refine qI [0] [.cells [.d (.v (.string s)), .d (.v (.int .i64 p)), .d (.v (.int .i64 c)), .d (.v (.int .i64 a))] 112] ?_
     ·rw [we hsp (by omega) (by omega) h11 (by omega) (m0 hinv.2.2 (by omega)) (d := i) (by rw [if_neg (by omega)]) (by omega)]; exact ⟨rfl, rfl⟩
    refine kc 3 [6, 5, 0] 8 ?_;refine o1 (oG rO ?_);refine go 7 ?_;refine qI [0] [.cells [.d (.v (.string s)), .d (.v (.int .i64 p)), .d (.v (.int .i64 c)), .d (.v (.int .i64 a))] 112] ?_
    ·rw [Ck hsp (by omega) (by omega) h11 (by omega) (m0 hinv.2.2 (by omega)) (d := i) (by rw [if_neg (by omega)]) (by omega)]; exact ⟨rfl, rfl⟩
   refine kc 0 [6, 5, 0] 2 ?_;refine o1 (cw ?_);refine go 9 ?_
   refine' oo (yt := 151) (d := 147) 4 ?a23 ?b23 ?_
   case a23 =>
    intro hc hK
    refine go 2 ?_;refine gy ?_;refine o1 (nT ?_);refine go 1 ?_
    exact hK [_, _, _, _] rfl rfl
   case b23 =>
    intro _ hK; refine go 4 ?_; exact hK [_, _, _, _] rfl
   refine go 1 ?_
   refine' oo (yt := 166) (d := 153) 13 ?a24 ?b24 ?_
   case a24 =>
    intro hc hK
    refine go 2 ?_;refine gy ?_;refine o1 (nT ?_);refine go 2 ?_
    refine' oa (yt := 165) (d := 158) 7 ?a25 ?b25 ?_ (hg := .yes rfl rfl rfl rfl)
    case a25 =>
     intro hc hK
     refine go 5 ?_;refine gy ?_;refine o1 (BT rO ?_);refine go 1 ?_; exact hK [_, _, _, _, _, _, _] rfl rfl
    case b25 =>
     intro _ hK; refine go 7 ?_; exact hK [_, _, _, _, _, _, _] rfl
    exact hK [_, _, _, _, _, _] rfl rfl
   case b24 =>
    intro _ hK; refine go 13 ?_; exact hK [_, _, _, _, _, _, _, _, _, _, _, _, _] rfl
   refine go 2 ?_;refine cj (fun h22 => ?_) (fun h22 => ?_)
   ·refine kc 0 [5] 11 ?_;refine qI [0] [.cells [.d (.v (.string s)), .d (.v (.int .i64 p)), .d (.v (.int .i64 c)), .d (.v (.int .i64 a))] 112] ?_
    ·rw [we hsp (by omega) (by omega) h11 (by omega) (m0 hinv.2.2 (by omega)) (d := i + 1) (by rw [if_pos (by omega)]) (by omega)]; exact ⟨rfl, rfl⟩
   refine kc 3 [6, 5, 0] 8 ?_;refine o1 (oG rO ?_);refine go 7 ?_;refine qI [0] [.cells [.d (.v (.string s)), .d (.v (.int .i64 p)), .d (.v (.int .i64 c)), .d (.v (.int .i64 a))] 112] ?_
   ·rw [Ck hsp (by omega) (by omega) h11 (by omega) (m0 hinv.2.2 (by omega)) (d := i + 1) (by rw [if_pos (by omega)]) (by omega)]; exact ⟨rfl, rfl⟩
end Go.Proofs.YtndbnldjidciiaaGreatDoor
namespace Go.Proofs.YtndbnldjidciiaaGreatDoor
open Go Go.Vd Go.RowKit
attribute [local irreducible] bl br de aj bI
variable {gl : Nat → List D}
def gx (s : ByteArray) (r : RS) : Ob := .cells [.d (.v (.string s)), .d (.v (.int .i64 r.p)), .d (.v (.int .i64 (bg r.f))), .d (.v (.int .i64 (dJ r.f)))] 112
theorem dS (s : ByteArray) (at' : Nat) (r : RS) :
 ey Tryz.prog gl 88 [gx s r] [.bZ 0 0, .d (.v (.int .i64 at'))] fun out ob' => out = .ret (.d (.cb [])) ∧ ob' = [gx s (r.fail at')] := by
 obtain ⟨p, f⟩ := r
 cases f with
 | none =>
  refine bS Tryz.func88 Tryz.ntmps88 1 ?_;refine gc 10 ?_;refine vy (fun h0 => ?_) (fun h0 => ?_)
  ·simp only [dh, Int.reduceEq, Int.reduceNe, Int.reduceLT, Int.reduceLE, bg, dJ] at h0
  (try simp only [dh, Int.reduceEq, Int.reduceNe, Int.reduceLT, Int.reduceLE, bg, dJ] at h0); refine kc 0 [0, 1] 8 ?_;refine fM ?_;refine nG (l := []) rfl rfl ([0]) ([gx s (RS.fail at' ⟨p, none⟩)]) rfl rfl rfl ?_ ?_
  ·repeat (first | exact cW | refine bh ?_)
  ·exact ⟨rfl, rfl⟩
 | some a =>
  refine bS Tryz.func88 Tryz.ntmps88 1 ?_;refine gc 10 ?_;refine cd (fun h0 => ?_) (fun h0 => ?_)
  ·simp only [dh, Int.reduceEq, Int.reduceNe, Int.reduceLT, Int.reduceLE, bg, dJ] at h0
  (try simp only [dh, Int.reduceEq, Int.reduceNe, Int.reduceLT, Int.reduceLE, bg, dJ] at h0); refine gc 1 ?_;refine fM ?_;refine nG (l := []) rfl rfl ([0]) ([gx s (RS.fail at' ⟨p, some a⟩)]) rfl rfl rfl ?_ ?_
  ·repeat (first | exact cW | refine bh ?_)
  ·exact ⟨rfl, rfl⟩
theorem gr (s : ByteArray) (r : RS) (hs : s.size ≤ 1099511627776) (hp : r.p ≤ s.size) :
 ey Tryz.prog gl 89 [gx s r] [.bZ 0 0] fun out ob' => out = .ret (.d (.v (.string (aF s r).1))) ∧ ob' = [gx s (aF s r).2] := by
 have hat := eG (s := s) hp
 obtain ⟨p, f⟩ := r
 simp only at hat hp
 cases f with
 | none =>
  refine bS Tryz.func89 Tryz.ntmps89 1 ?_;refine gc 8 ?_;refine oc (ck nS rfl rfl (cE s p (bg none) (dJ none) hs hp) [0] rfl (bh .nil) (an .nil) ?_);refine ko 10 [5, 4, 3, 0] 5 ?_
  apply kS (yt := 16) (d := 14) 2 rfl rfl rfl (.none rfl) rfl rfl
  case h1 =>
   intro hb4 hK
   have hc := hb4; (try simp only [dh, Int.reduceEq, Int.reduceNe, Int.reduceLT, Int.reduceLE, bg, dJ, RS.fail] at hc)
   refine ml ?_ (hbw := by exact hb4);refine go 1 ?_;refine ml ?_ (hbw := by exact hb4);refine go 1 ?_; exact hK [_, _] rfl rfl
  case h2 =>
   intro hb4 hK; refine ln ?_ (hbw := by exact hb4);refine ln ?_ (hbw := by exact hb4); exact hK [_, _] rfl
  refine go 2 ?_;refine cd (fun h2 => ?_) (fun h2 => ?_)
  ·(try simp only [dh, Int.reduceEq, Int.reduceNe, Int.reduceLT, Int.reduceLE, bg, dJ, RS.fail] at h2)
   refine kc 0 [4, 3, 0] 3 ?_;refine oc (ck rJ rfl rfl (dS s (aO s p).2.1 ⟨p, none⟩) [0] rfl (bh .nil) (an (an .nil)) ?_);refine go 13 ?_;refine vy (fun h4 => ?_) (fun h4 => ?_)
   ·simp only [dh, Int.reduceEq, Int.reduceNe, Int.reduceLT, Int.reduceLE, bg, dJ, RS.fail] at h4
   (try simp only [dh, Int.reduceEq, Int.reduceNe, Int.reduceLT, Int.reduceLE, bg, dJ, RS.fail] at h4); refine kc 0 [] 7 ?_;refine qI [0] [gx s (RS.fail (aO s p).2.1 ⟨p, none⟩)] ?_
   ·unfold aF; simp only; rw [if_pos (by exact h2)]; exact ⟨rfl, rfl⟩
  (try simp only [dh, Int.reduceEq, Int.reduceNe, Int.reduceLT, Int.reduceLE, bg, dJ, RS.fail] at h2); refine kc 3 [4, 3, 0] 10 ?_;refine cd (fun h4 => ?_) (fun h4 => ?_)
  ·simp only [dh, Int.reduceEq, Int.reduceNe, Int.reduceLT, Int.reduceLE, bg, dJ, RS.fail] at h4
  (try simp only [dh, Int.reduceEq, Int.reduceNe, Int.reduceLT, Int.reduceLE, bg, dJ, RS.fail] at h4); refine kc 2 [4, 3, 0] 6 ?_;refine o1 (cw ?_);refine ko 5 [3] 7 ?_;refine qI [0] [gx s ⟨(aO s p).2.1 + (aO s p).1.size, none⟩] ?_
  ·unfold aF; simp only; rw [if_neg (by rintro (h | h); exact absurd h (by simpa using h2.1); exact h2.2 h)]; exact ⟨rfl, rfl⟩
 | some a =>
  refine bS Tryz.func89 Tryz.ntmps89 1 ?_;refine gc 8 ?_;refine oc (ck nS rfl rfl (cE s p (bg (some a)) (dJ (some a)) hs hp) [0] rfl (bh .nil) (an .nil) ?_);refine ko 10 [5, 4, 3, 0] 5 ?_
  apply kS (yt := 16) (d := 14) 2 rfl rfl rfl (.none rfl) rfl rfl
  case h1 =>
   intro hb4 hK
   have hc := hb4; (try simp only [dh, Int.reduceEq, Int.reduceNe, Int.reduceLT, Int.reduceLE, bg, dJ, RS.fail] at hc)
   refine ml ?_ (hbw := by exact hb4);refine go 1 ?_;refine ml ?_ (hbw := by exact hb4);refine go 1 ?_; exact hK [_, _] rfl rfl
  case h2 =>
   intro hb4 hK; refine ln ?_ (hbw := by exact hb4);refine ln ?_ (hbw := by exact hb4); exact hK [_, _] rfl
  refine go 2 ?_;refine vy (fun h2 => ?_) (fun h2 => ?_)
  ·(try simp only [dh, Int.reduceEq, Int.reduceNe, Int.reduceLT, Int.reduceLE, bg, dJ, RS.fail] at h2)
   refine kc 3 [4, 3, 0] 10 ?_;refine vy (fun h4 => ?_) (fun h4 => ?_)
   ·simp only [dh, Int.reduceEq, Int.reduceNe, Int.reduceLT, Int.reduceLE, bg, dJ, RS.fail] at h4
   (try simp only [dh, Int.reduceEq, Int.reduceNe, Int.reduceLT, Int.reduceLE, bg, dJ, RS.fail] at h4); refine kc 0 [] 7 ?_;refine qI [0] [gx s ⟨p, some a⟩] ?_
   ·unfold aF; simp only; rw [if_neg (by rintro (h | h); exact absurd h (by simpa using h2.1); exact h2.2 h)]; exact ⟨rfl, rfl⟩
  (try simp only [dh, Int.reduceEq, Int.reduceNe, Int.reduceLT, Int.reduceLE, bg, dJ, RS.fail] at h2); refine kc 0 [4, 3, 0] 3 ?_;refine oc (ck rJ rfl rfl (dS s (aO s p).2.1 ⟨p, some a⟩) [0] rfl (bh .nil) (an (an .nil)) ?_);refine go 13 ?_;refine vy (fun h4 => ?_) (fun h4 => ?_)
  ·simp only [dh, Int.reduceEq, Int.reduceNe, Int.reduceLT, Int.reduceLE, bg, dJ, RS.fail] at h4
  (try simp only [dh, Int.reduceEq, Int.reduceNe, Int.reduceLT, Int.reduceLE, bg, dJ, RS.fail] at h4); refine kc 0 [] 7 ?_;refine qI [0] [gx s (RS.fail (aO s p).2.1 ⟨p, some a⟩)] ?_
  ·unfold aF; simp only; rw [if_pos (by exact h2)]; exact ⟨rfl, rfl⟩
theorem fj (s t : ByteArray) (r : RS) (hs : s.size ≤ 1099511627776) (hp : r.p ≤ s.size) :
 ey Tryz.prog gl 94 [gx s r] [.bZ 0 0, .d (.v (.string t))] fun out ob' => out = .ret (.d (.cb [])) ∧ ob' = [gx s (bT s t r)] := by
 have hat := eG (s := s) hp
 obtain ⟨p, f⟩ := r
 simp only at hat hp
 cases f with
 | none =>
  refine bS Tryz.func94 Tryz.ntmps94 1 ?_;refine gc 3 ?_;refine oc (ck nS rfl rfl (cE s p (bg none) (dJ none) hs hp) [0] rfl (bh .nil) (an .nil) ?_);refine ko 10 [6, 5, 4, 0, 1] 5 ?_
  apply kS (yt := 18) (d := 15) 3 rfl rfl rfl (.none rfl) rfl rfl
  case h1 =>
   intro hb4 hK
   have hc := hb4; (try simp only [dh, Int.reduceEq, Int.reduceNe, Int.reduceLT, Int.reduceLE, bg, dJ, RS.fail] at hc)
   refine ml ?_ (hbw := by exact hb4);refine go 1 ?_;refine ml ?_ (hbw := by exact hb4);refine go 1 ?_;refine ml ?_ (hbw := by exact hb4);refine go 1 ?_; exact hK [_, _, _] rfl rfl
  case h2 =>
   intro hb4 hK; refine ln ?_ (hbw := by exact hb4);refine ln ?_ (hbw := by exact hb4);refine ln ?_ (hbw := by exact hb4); exact hK [_, _, _] rfl
  refine go 2 ?_;refine cd (fun h1 => ?_) (fun h1 => ?_)
  ·(try simp only [dh, Int.reduceEq, Int.reduceNe, Int.reduceLT, Int.reduceLE, bg, dJ, RS.fail] at h1)
   refine kc 0 [5, 4, 0] 3 ?_;refine oc (ck rJ rfl rfl (dS s (aO s p).2.1 ⟨p, none⟩) [0] rfl (bh .nil) (an (an .nil)) ?_);refine go 12 ?_;refine cd (fun h3 => ?_) (fun h3 => ?_)
   ·simp only [dh, Int.reduceEq, Int.reduceNe, Int.reduceLT, Int.reduceLE, bg, dJ, RS.fail] at h3
   (try simp only [dh, Int.reduceEq, Int.reduceNe, Int.reduceLT, Int.reduceLE, bg, dJ, RS.fail] at h3); refine gc 1 ?_;refine fM ?_;refine nG (l := []) rfl rfl ([0]) ([gx s (RS.fail (aO s p).2.1 ⟨p, none⟩)]) rfl rfl rfl ?_ ?_
   ·repeat (first | exact cW | refine bh ?_)
   ·refine ⟨rfl, ?_⟩; unfold bT; dsimp only; rw [if_pos (by exact h1)]
  (try simp only [dh, Int.reduceEq, Int.reduceNe, Int.reduceLT, Int.reduceLE, bg, dJ, RS.fail] at h1); refine kc 2 [5, 4, 0] 10 ?_;refine vy (fun h3 => ?_) (fun h3 => ?_)
  ·simp only [dh, Int.reduceEq, Int.reduceNe, Int.reduceLT, Int.reduceLE, bg, dJ, RS.fail] at h3
  (try simp only [dh, Int.reduceEq, Int.reduceNe, Int.reduceLT, Int.reduceLE, bg, dJ, RS.fail] at h3); refine kc 0 [5, 4, 0] 5 ?_;refine o1 (cw ?_);refine go 4 ?_;refine fM ?_;refine nG (l := []) rfl rfl ([0]) ([gx s ⟨(aO s p).2.1 + (aO s p).1.size, none⟩]) rfl rfl rfl ?_ ?_
  ·repeat (first | exact cW | refine bh ?_)
  ·refine ⟨rfl, ?_⟩; unfold bT; dsimp only; rw [if_neg (by rintro (h | h); exact absurd h (by simpa using h1.1); exact h h1.2)]
 | some a =>
  refine bS Tryz.func94 Tryz.ntmps94 1 ?_;refine gc 3 ?_;refine oc (ck nS rfl rfl (cE s p (bg (some a)) (dJ (some a)) hs hp) [0] rfl (bh .nil) (an .nil) ?_);refine ko 10 [6, 5, 4, 0, 1] 5 ?_
  apply kS (yt := 18) (d := 15) 3 rfl rfl rfl (.none rfl) rfl rfl
  case h1 =>
   intro hb4 hK
   have hc := hb4; (try simp only [dh, Int.reduceEq, Int.reduceNe, Int.reduceLT, Int.reduceLE, bg, dJ, RS.fail] at hc)
   refine ml ?_ (hbw := by exact hb4);refine go 1 ?_;refine ml ?_ (hbw := by exact hb4);refine go 1 ?_;refine ml ?_ (hbw := by exact hb4);refine go 1 ?_; exact hK [_, _, _] rfl rfl
  case h2 =>
   intro hb4 hK; refine ln ?_ (hbw := by exact hb4);refine ln ?_ (hbw := by exact hb4);refine ln ?_ (hbw := by exact hb4); exact hK [_, _, _] rfl
  refine go 2 ?_;refine vy (fun h1 => ?_) (fun h1 => ?_)
  ·(try simp only [dh, Int.reduceEq, Int.reduceNe, Int.reduceLT, Int.reduceLE, bg, dJ, RS.fail] at h1)
   refine kc 2 [5, 4, 0] 10 ?_;refine cd (fun h3 => ?_) (fun h3 => ?_)
   ·simp only [dh, Int.reduceEq, Int.reduceNe, Int.reduceLT, Int.reduceLE, bg, dJ, RS.fail] at h3
   (try simp only [dh, Int.reduceEq, Int.reduceNe, Int.reduceLT, Int.reduceLE, bg, dJ, RS.fail] at h3); refine gc 1 ?_;refine fM ?_;refine nG (l := []) rfl rfl ([0]) ([gx s ⟨p, some a⟩]) rfl rfl rfl ?_ ?_
   ·repeat (first | exact cW | refine bh ?_)
   ·refine ⟨rfl, ?_⟩; unfold bT; dsimp only; rw [if_neg (by rintro (h | h); exact absurd h (by simpa using h1.1); exact h h1.2)]
  (try simp only [dh, Int.reduceEq, Int.reduceNe, Int.reduceLT, Int.reduceLE, bg, dJ, RS.fail] at h1); refine kc 0 [5, 4, 0] 3 ?_;refine oc (ck rJ rfl rfl (dS s (aO s p).2.1 ⟨p, some a⟩) [0] rfl (bh .nil) (an (an .nil)) ?_);refine go 12 ?_;refine cd (fun h3 => ?_) (fun h3 => ?_)
  ·simp only [dh, Int.reduceEq, Int.reduceNe, Int.reduceLT, Int.reduceLE, bg, dJ, RS.fail] at h3
  (try simp only [dh, Int.reduceEq, Int.reduceNe, Int.reduceLT, Int.reduceLE, bg, dJ, RS.fail] at h3); refine gc 1 ?_;refine fM ?_;refine nG (l := []) rfl rfl ([0]) ([gx s (RS.fail (aO s p).2.1 ⟨p, some a⟩)]) rfl rfl rfl ?_ ?_
  ·repeat (first | exact cW | refine bh ?_)
  ·refine ⟨rfl, ?_⟩; unfold bT; dsimp only; rw [if_pos (by exact h1)]
theorem DW (s : ByteArray) (r : RS) (hs : s.size ≤ 1099511627776) (hp : r.p ≤ s.size) :
 ey Tryz.prog gl 53 [gx s r] [.bZ 0 0] fun out ob' => out = .ret (.d (.agg [.v (.int .i64 (bg (ik s r).f)), .v (.int .i64 (dJ (ik s r).f))])) ∧ ob' = [gx s (ik s r)] := by
 refine bS Tryz.func53 Tryz.ntmps53 1 ?_;refine gc 8 ?_;refine oc (ck nS rfl rfl (cE s r.p (bg r.f) (dJ r.f) hs hp) [0] rfl (bh .nil) (an .nil) ?_);refine ko 10 [5, 4, 3, 2, 0] 5 ?_
 refine' oo (yt := 16) (d := 14) 2 ?a1 ?b1 ?_
 case a1 =>
  intro hc hK
  refine go 2 ?_; exact hK [_, _] rfl rfl
 case b1 =>
  intro _ hK; refine go 2 ?_; exact hK [_, _] rfl
 refine go 2 ?_;refine cJ (fun h2 => ?_) (fun h2 => ?_)
 ·refine kc 2 [2, 0] 10 ?_;refine qI [0] [gx s r] ?_
  ·unfold ik; simp only; rw [if_neg (by rintro (h | h); exact absurd h (by simpa using h2.1); exact h h2.2)]; exact ⟨rfl, rfl⟩
 refine kc 0 [4, 2, 0] 3 ?_;refine oc (ck rJ rfl rfl (dS s (aO s r.p).2.1 r) [0] rfl (bh .nil) (an (an .nil)) ?_);refine ko 2 [2, 0] 10 ?_;refine qI [0] [gx s (RS.fail (aO s r.p).2.1 r)] ?_
 ·unfold ik; simp only; rw [if_pos (by exact h2)]; exact ⟨rfl, rfl⟩
end Go.Proofs.YtndbnldjidciiaaGreatDoor
namespace Go.Proofs.YtndbnldjidciiaaGreatDoor
open Go Go.Vd Go.RowKit
attribute [local irreducible] bl br de aj bI
variable {gl : Nat → List D}
theorem uH (s : ByteArray) (hs : s.size ≤ 1099511627776) : ∀ (n : Nat) (r : RS), r.p ≤ s.size → s.size - r.p < n →
 ey Tryz.prog gl 91 [gx s r] [.bZ 0 0] fun out ob' => out = .ret (.d (bw n s r).1.d) ∧ ob' = [gx s (bw n s r).2] := by
 intro n
 induction n with
 | zero => intro r _ h; omega
 | succ n ih =>
  intro r hp hn
  have hat := eG (s := s) hp
  obtain ⟨p, f⟩ := r
  simp only at hat hp hn
  cases f with
  | some a =>
   refine bS Tryz.func91 Tryz.ntmps91 1 ?_;refine gc 8 ?_;refine oc (ck nS rfl rfl (cE s p (bg (some a)) (dJ (some a)) hs hp) [0] rfl (bh .nil) (an .nil) ?_);refine ko 9 [4, 3, 2, 0] 3 ?_;refine oc (cv C3 rfl rfl (j8 (aO s p).1) (an .nil) ?_);refine go 16 ?_;refine vy (fun h4 => ?_) (fun h4 => ?_)
   ·simp only [dh, Int.reduceEq, Int.reduceNe, Int.reduceLT, Int.reduceLE, bg, dJ] at h4
   (try simp only [dh, Int.reduceEq, Int.reduceNe, Int.reduceLT, Int.reduceLE, bg, dJ] at h4); refine kc 3 [2] 7 ?_;refine eo (jB.d) [0] [gx s ⟨p, some a⟩] ?_
   ·exact ⟨rfl, rfl⟩
  | none =>
   have hn1 := cy (s := s) (r := ⟨p, none⟩) hp
   have hn2 := cy (s := s) (r := (aF s ⟨p, none⟩).2) hn1.2
   have hl1 := dP (s := s) n (r := (aF s (aF s ⟨p, none⟩).2).2) hn2.2
   have hl2 := dP (s := s) n (r := (bw n s (aF s (aF s ⟨p, none⟩).2).2).2) hl1.2
   refine bS Tryz.func91 Tryz.ntmps91 1 ?_;refine gc 8 ?_;refine oc (ck nS rfl rfl (cE s p (bg none) (dJ none) hs hp) [0] rfl (bh .nil) (an .nil) ?_);refine ko 9 [4, 3, 2, 0] 3 ?_;refine oc (cv C3 rfl rfl (j8 (aO s p).1) (an .nil) ?_);refine go 16 ?_;refine cd (fun h4 => ?_) (fun h4 => ?_)
   ·simp only [dh, Int.reduceEq, Int.reduceNe, Int.reduceLT, Int.reduceLE, bg, dJ] at h4
   (try simp only [dh, Int.reduceEq, Int.reduceNe, Int.reduceLT, Int.reduceLE, bg, dJ] at h4); refine kc 0 [6, 4, 3, 2, 0] 7 ?_;refine cd (fun h5 => ?_) (fun h5 => ?_)
   ·(try simp only [dh, Int.reduceEq, Int.reduceNe, Int.reduceLT, Int.reduceLE, bg, dJ] at h5)
    refine kc 0 [2, 0] 2 ?_;refine oc (ck Al rfl rfl (gr s ⟨p, none⟩ hs hp) [0] rfl (bh .nil) (an .nil) ?_);refine go 10 ?_;refine eo (jB.d) [0] [gx s (aF s ⟨p, none⟩).2] ?_
    ·rw [j3 h5]; exact ⟨rfl, rfl⟩
   (try simp only [dh, Int.reduceEq, Int.reduceNe, Int.reduceLT, Int.reduceLE, bg, dJ] at h5); refine gc 6 ?_;refine cd (fun h7 => ?_) (fun h7 => ?_)
   ·(try simp only [dh, Int.reduceEq, Int.reduceNe, Int.reduceLT, Int.reduceLE, bg, dJ] at h7)
    refine kc 0 [3, 2, 0] 3 ?_;refine oc (ck Al rfl rfl (gr s ⟨p, none⟩ hs hp) [0] rfl (bh .nil) (an .nil) ?_);refine go 12 ?_;refine eo ((aJ.mk 4 (aO s p).1 []).d) [0] [gx s (aF s ⟨p, none⟩).2] ?_
    ·rw [j4 h5 h7]; exact ⟨rfl, rfl⟩
   (try simp only [dh, Int.reduceEq, Int.reduceNe, Int.reduceLT, Int.reduceLE, bg, dJ] at h7); refine kc 0 [4, 3, 2, 0] 7 ?_;refine vy (fun h10 => ?_) (fun h10 => ?_)
   ·(try simp only [dh, Int.reduceEq, Int.reduceNe, Int.reduceLT, Int.reduceLE, bg, dJ] at h10)
    refine kc 0 [4, 2, 0] 3 ?_;refine oc (ck rJ rfl rfl (dS s (aO s p).2.1 ⟨p, none⟩) [0] rfl (bh .nil) (an (an .nil)) ?_);refine ko 3 [2] 7 ?_;refine eo (jB.d) [0] [gx s ((RS.mk p none).fail (aO s p).2.1)] ?_
    ·rw [j6 h5 h7 h10]; exact ⟨rfl, rfl⟩
   (try simp only [dh, Int.reduceEq, Int.reduceNe, Int.reduceLT, Int.reduceLE, bg, dJ] at h10); refine kc 0 [2, 0] 3 ?_;refine oc (ck Al rfl rfl (gr s ⟨p, none⟩ hs hp) [0] rfl (bh .nil) (an .nil) ?_);refine go 5 ?_;refine oc (ck nS rfl rfl (cE s (aF s ⟨p, none⟩).2.p (bg (aF s ⟨p, none⟩).2.f) (dJ (aF s ⟨p, none⟩).2.f) hs hn1.2) [0] rfl (bh .nil) (an .nil) ?_);refine ko 20 [52, 10, 8, 2, 0] 0 ?_;refine xc (ι := Unit) (fun _ => [(10, int (fU (aO s (aF s ⟨p, none⟩).2.p).1))]) [8, 2, 0] (fun _ => True) rfl ?A1 ?B1
   case A1 =>
    refine gc 7 ?_;refine cd (fun h15 => ?_) (fun h15 => ?_)
    ·(try simp only [dh, Int.reduceEq, Int.reduceNe, Int.reduceLT, Int.reduceLE, bg, dJ] at h15)
     refine kc 0 [8, 2, 0] 4 ?_;refine bi (()) rfl ?_ ?_
     ·trivial
     ·refine mo ?_ (eh rfl (by exact Fit.of_eq (by simp only [fU]; simp_all <;> rfl)) (aH (aH (aH dF))))
      repeat (first | exact cW | refine bh ?_)
    (try simp only [dh, Int.reduceEq, Int.reduceNe, Int.reduceLT, Int.reduceLE, bg, dJ] at h15); refine gc 6 ?_;refine cd (fun h17 => ?_) (fun h17 => ?_)
    ·(try simp only [dh, Int.reduceEq, Int.reduceNe, Int.reduceLT, Int.reduceLE, bg, dJ] at h17)
     refine kc 0 [8, 2, 0] 4 ?_;refine bi (()) rfl ?_ ?_
     ·trivial
     ·refine mo ?_ (eh rfl (by exact Fit.of_eq (by simp only [fU]; simp_all <;> rfl)) (aH (aH (aH dF))))
      repeat (first | exact cW | refine bh ?_)
    (try simp only [dh, Int.reduceEq, Int.reduceNe, Int.reduceLT, Int.reduceLE, bg, dJ] at h17); refine kc 0 [52, 10, 8, 2, 0] 6 ?_;refine vy (fun h19 => ?_) (fun h19 => ?_)
    ·(try simp only [dh, Int.reduceEq, Int.reduceNe, Int.reduceLT, Int.reduceLE, bg, dJ] at h19)
     refine gc 2 ?_;refine bi (()) rfl ?_ ?_
     ·trivial
     ·refine mo ?_ (eh rfl (by exact Fit.of_eq (by simp only [fU]; simp_all <;> rfl)) (aH (aH (aH dF))))
      repeat (first | exact cW | refine bh ?_)
    (try simp only [dh, Int.reduceEq, Int.reduceNe, Int.reduceLT, Int.reduceLE, bg, dJ] at h19); refine kc 0 [8, 2, 0] 4 ?_;refine bi (()) rfl ?_ ?_
    ·trivial
    ·refine mo ?_ (eh rfl (by exact Fit.of_eq (by simp only [fU]; simp_all <;> rfl)) (aH (aH (aH dF))))
     repeat (first | exact cW | refine bh ?_)
   case B1 =>
    rintro _ hcut
    try dsimp only at hcut
    refine kc 0 [10, 8, 2, 0] 7 ?_;refine cd (fun h21 => ?_) (fun h21 => ?_)
    ·(try simp only [dh, Int.reduceEq, Int.reduceNe, Int.reduceLT, Int.reduceLE, bg, dJ] at h21)
     refine gc 4 ?_;refine oc (ck rJ rfl rfl (dS s (aO s (aF s ⟨p, none⟩).2.p).2.1 (aF s ⟨p, none⟩).2) [0] rfl (bh .nil) (an (an .nil)) ?_);refine ko 2 [2] 10 ?_;refine eo (jB.d) [0] [gx s ((aF s ⟨p, none⟩).2.fail (aO s (aF s ⟨p, none⟩).2.p).2.1)] ?_
     ·rw [j5 h5 h7 h10 h21]; exact ⟨rfl, rfl⟩
    (try simp only [dh, Int.reduceEq, Int.reduceNe, Int.reduceLT, Int.reduceLE, bg, dJ] at h21); refine gc 5 ?_;refine oc (ck Al rfl rfl (gr s (aF s ⟨p, none⟩).2 hs hn1.2) [0] rfl (bh .nil) (an .nil) ?_);refine ko 2 [10, 2, 0] 9 ?_
    have hne : (aO s p).1 ≠ .empty := by rw [h10]; decide
    have hsz1 : (aO s p).1.size = 1 := by rw [h10]; rfl
    have hnx := gO hne
    have hpr : p < (aF s ⟨p, none⟩).2.p := by rw [hnx]; simp only; omega
    have hpr2 := hn2.1
    obtain ⟨k1, s1, a1, hX1⟩ := aJ.case (bw n s (aF s (aF s ⟨p, none⟩).2).2).1; obtain ⟨k2, s2, a2, hX2⟩ := aJ.case (bw n s (bw n s (aF s (aF s ⟨p, none⟩).2).2).2).1; refine gz [0, 1, 2] mixed ?_;refine A2 3 rfl (ay Hs rfl rfl rfl rfl (ih (aF s (aF s ⟨p, none⟩).2).2 hn2.2 (by omega)) [0] (bh .nil) rfl rfl rfl rfl (an .nil) (fun s ob' hq => ?_) (fun s ob' hq => ?_))
    rotate_left
    ·first | exact hq.elim | cases hq.1
    obtain ⟨hq1, rfl⟩ := hq; rw [hX1] at hq1; cases hq1; refine ⟨_, _, _, _, _, rfl, rfl, rfl, rfl, rfl, ?_⟩;refine A2 4 rfl (gR jD [.tmp 72] dB ?_);refine A2 (T := fun _ => False) 5 rfl (py jD rfl rfl rfl rfl rfl rfl (by simp only [List.length_cons, List.length_nil, Nat.reduceAdd]; rfl) rfl rfl (by decide) (by simp) (by first | decide | (simp only [maxLen, List.length_cons, List.length_nil, List.length_append, List.length_map]; omega) | omega) rfl rfl rfl ?_);refine ga [6] ?_;refine A2 7 rfl (eD yz ?_);refine aQ ?_;refine ke 2 [11, 10, 2, 0] 6 ?_;refine vy (fun h27 => ?_) (fun h27 => ?_)
    ·(try simp only [dh, Int.reduceEq, Int.reduceNe, Int.reduceLT, Int.reduceLE, bg, dJ] at h27)
     refine gc 5 ?_;refine oc (ck vW rfl rfl (fj s ⟨#[41]⟩ (bw n s (aF s (aF s ⟨p, none⟩).2).2).2 hs hl1.2) [0] rfl (bh .nil) (an (an .nil)) ?_);refine ko 2 [11, 2] 9 ?_;refine eo ((aJ.mk (fU (aO s (aF s ⟨p, none⟩).2.p).1) .empty [aJ.mk k1 s1 a1]).d) [0] [gx s (bT s ⟨#[41]⟩ (bw n s (aF s (aF s ⟨p, none⟩).2).2).2)] ?_
     ·rw [nB h5 h7 h10 h27, hX1, h27]; exact ⟨rfl, rfl⟩
    (try simp only [dh, Int.reduceEq, Int.reduceNe, Int.reduceLT, Int.reduceLE, bg, dJ] at h27); refine gz [0, 1, 2] mixed ?_;refine A2 3 rfl (ay Hs rfl rfl rfl rfl (ih (bw n s (aF s (aF s ⟨p, none⟩).2).2).2 hl1.2 (by have := hl1.1; omega)) [0] (bh .nil) rfl rfl rfl rfl (an .nil) (fun s ob' hq => ?_) (fun s ob' hq => ?_))
    rotate_left
    ·first | exact hq.elim | cases hq.1
    obtain ⟨hq1, rfl⟩ := hq; rw [hX2] at hq1; cases hq1; refine ⟨_, _, _, _, _, rfl, rfl, rfl, rfl, rfl, ?_⟩;refine A2 4 rfl (gR jD [.tmp 81] dB ?_);refine A2 5 rfl (nU jD ?_);refine ga [6] ?_;refine A2 7 rfl (eD yz ?_);refine aQ ?_;refine ke 1 [11, 2, 0] 3 ?_;refine oc (ck vW rfl rfl (fj s ⟨#[41]⟩ (bw n s (bw n s (aF s (aF s ⟨p, none⟩).2).2).2).2 hs hl2.2) [0] rfl (bh .nil) (an (an .nil)) ?_);refine go 11 ?_;refine eo ((aJ.mk (fU (aO s (aF s ⟨p, none⟩).2.p).1) .empty [aJ.mk k1 s1 a1, aJ.mk k2 s2 a2]).d) [0] [gx s (bT s ⟨#[41]⟩ (bw n s (bw n s (aF s (aF s ⟨p, none⟩).2).2).2).2)] ?_
    ·rw [iC h5 h7 h10 h21 h27, hX1, hX2]; exact ⟨rfl, rfl⟩
end Go.Proofs.YtndbnldjidciiaaGreatDoor
namespace Go.Proofs.YtndbnldjidciiaaGreatDoor
open Go Go.Vd Go.RowKit
attribute [local irreducible] bl br de aj bI
variable {gl : Nat → List D}
theorem uS (w : ByteArray) : fU w = 0 ∨ ((fU w = 1 ∨ fU w = 2 ∨ fU w = 3) ∧ w ≠ .empty) := by
 unfold fU
 split
 ·rename_i h; subst h; exact .inr ⟨.inl rfl, by decide⟩
 ·split
  ·rename_i h; subst h; exact .inr ⟨.inr (.inl rfl), by decide⟩
  ·split
   ·rename_i h; subst h; exact .inr ⟨.inr (.inr rfl), by decide⟩
   ·exact .inl rfl
theorem uK {s : ByteArray} : ∀ (n : Nat) {r : RS}, r.p ≤ s.size → ∃ x : cB, (bw n s r).1 = x.bG ∧ tq x.bG ∧ x.weight + 20 * r.p ≤ 10 + 20 * (bw n s r).2.p := by
 have hz : tq cB.zero.bG := by simp [cB.bG, tq, BA]
 have hzz : jB = cB.zero.bG := rfl
 intro n
 induction n with
 | zero => intro r hp; exact ⟨.zero, rfl, hz, by simp [bw, cB.weight]⟩
 | succ n ih =>
  intro r hp
  obtain ⟨p, f⟩ := r
  simp only at hp
  cases f with
  | some a => exact ⟨.zero, rfl, hz, by simp [bw, cB.weight]⟩
  | none =>
   have hat := eG (s := s) hp
   have h1 := cy (s := s) (r := ⟨p, none⟩) hp
   have h2 := cy (s := s) (r := (aF s ⟨p, none⟩).2) h1.2
   have h3 := dP n h2.2
   have h4 := dP n h3.2
   obtain ⟨xa, ea, fa, wa⟩ := ih h2.2
   obtain ⟨xb, eb, fb, wb⟩ := ih h3.2
   have h5 := bO (s := s) (w := ⟨#[41]⟩) h3.2
   have h6 := bO (s := s) (w := ⟨#[41]⟩) h4.2
   simp only at h1
   by_cases c0 : (aO s p).1 = ⟨#[48]⟩
   ·rw [j3 c0]; exact ⟨.zero, rfl, hz, by simp only [cB.weight]; omega⟩
   cases c1 : db (aO s p).1 with
   | true =>
    have hne : (aO s p).1 ≠ .empty := by
     intro e; rw [e] at c1; simp [db] at c1
    rw [j4 c0 c1, gO hne]
    refine ⟨.param (aO s p).1, rfl, by simp [cB.bG, tq, BA, hne], ?_⟩
    simp only [cB.weight]; omega
   | false =>
    by_cases c2 : (aO s p).1 = ⟨#[40]⟩
    ·have hne : (aO s p).1 ≠ .empty := by rw [c2]; decide
     have hp1 : p + 1 ≤ (aF s ⟨p, none⟩).2.p := by
      rw [gO hne]
      have : (aO s p).1.size = 1 := by rw [c2]; rfl
      simp only; omega
     rcases uS (aO s (aF s ⟨p, none⟩).2.p).1 with hk | ⟨hk, hne2⟩
     ·rw [j5 c0 c1 c2 hk]
      exact ⟨.zero, rfl, hz, by simp only [cB.weight, RS.gm]; omega⟩
     ·have hp2 : (aF s ⟨p, none⟩).2.p + 1 ≤ (aF s (aF s ⟨p, none⟩).2).2.p := by
       have h7 : aF s ⟨p, none⟩ = ((aO s p).1, ⟨(aO s p).2.1 + (aO s p).1.size, none⟩) := gO hne
       rw [h7] at hne2 ⊢
       simp only at hne2 ⊢
       rw [gO hne2]
       have h8 := eG (s := s) (p := (aO s p).2.1 + (aO s p).1.size) hat.2
       have h9 := n5 hne2
       simp only; omega
      rcases hk with hk | hk | hk
      ·rw [nB c0 c1 c2 hk, ea]
       refine ⟨.succ xa, rfl, by simp [cB.bG, tq, BA, fa], ?_⟩
       simp only [cB.weight]; omega
      ·rw [iC c0 c1 c2 (by omega) (by omega), ea, eb, hk]
       refine ⟨.max xa xb, rfl, by simp [cB.bG, tq, BA, fa, fb], ?_⟩
       simp only [cB.weight]; omega
      ·rw [iC c0 c1 c2 (by omega) (by omega), ea, eb, hk]
       refine ⟨.imax xa xb, rfl, by simp [cB.bG, tq, BA, fa, fb], ?_⟩
       simp only [cB.weight]; omega
    ·rw [j6 c0 c1 c2]
     exact ⟨.zero, rfl, hz, by simp only [cB.weight, RS.gm]; omega⟩
end Go.Proofs.YtndbnldjidciiaaGreatDoor
namespace Go.Proofs.YtndbnldjidciiaaGreatDoor
open Go Go.Vd Go.RowKit
def i64 (n : Int) : Prop := -9223372036854775808 ≤ n ∧ n ≤ 9223372036854775807
structure Step where
 k : Int
 s : ByteArray
 t : ByteArray
 u : ByteArray
 a : Int
 b : Int
def Step.cells (o : Step) : List D := [.v (.int .i64 o.k), .v (.string o.s), .v (.string o.t), .v (.string o.u), .v (.int .i64 o.a), .v (.int .i64 o.b)]
def steps (l : List Step) : List (List D) := l.map Step.cells
theorem q8 (l : List Step) : (steps l).length = l.length := by simp [steps]
theorem tv {l : List Step} {i : Nat} (h : i < l.length) : (steps l)[((i : Nat) : Int).toNat]? = some [.v (.int .i64 l[i].k), .v (.string l[i].s), .v (.string l[i].t), .v (.string l[i].u), .v (.int .i64 l[i].a), .v (.int .i64 l[i].b)] := by simp [steps, h, Step.cells]
end Go.Proofs.YtndbnldjidciiaaGreatDoor
namespace Go.Proofs.YtndbnldjidciiaaGreatDoor
open Go Go.Vd Go.RowKit Go.ChangeShapes Go.WideShapes
def qw (w : World) : Mem := fun b o => (w.cell? ⟨b, o, none⟩).bind fun x => if x.oneCell' then some x else none
variable {w : World}
theorem xQ {b o : Nat} {x : Value} (h : w.cell? ⟨b, o, none⟩ = some x) (h1 : x.oneCell' = true) : qw w b o = some x := by simp [qw, h, h1]
variable {gl : Nat → List D}
theorem Ix (hg : ∀ b, ej (qw w) b 0 (gl b)) : cH gl [] ⟨qw w, []⟩ w := by
 refine ⟨rfl, by simp, by simp, by simp, fun b o x h => ?_, hg⟩
 simp only [qw, Option.bind_eq_some_iff] at h
 obtain ⟨y, h1, h2⟩ := h
 split at h2
 ·cases h2; exact ⟨h1, by assumption⟩
 ·cases h2
theorem vV {P : Program} {f : FuncId} {ds : List D} {Q : D → Prop} {vs : List Value} (h : cD P gl f ds Q) (hg : ∀ b, ej (qw w) b 0 (gl b)) (hd : bj ⟨qw w, []⟩ (ds.map .d) vs) :
 Calls P f ⟨vs⟩ w fun e w' => ∃ v d m, e = .returned v ∧ D.Den m d v ∧ Q d ∧ Below w.heap.size w w' := by
 refine (h _ w vs (Ix hg) hd).mono fun e w' he => ?_
 obtain ⟨g', ob', hs, hst, _, _, he⟩ := he
 have hb : Below w.heap.size w w' := ⟨hst.fr.os, hst.fr.tape, hst.fr.output, hst.fr.size, fun k hk => hst.fr.block k hk (fun hx => by
  obtain ⟨i, o, p, h1, _⟩ := hx
  simp at h1)⟩
 cases e with
 | returned v =>
  obtain ⟨s, h1, h2, d, h3, h4⟩ := he
  cases h3
  exact ⟨v, d, _, rfl, h1, h4, hb⟩
 | panicked c => obtain ⟨v, s, _, _, _, d, h3, _⟩ := he; cases h3
 | outgrown => exact he.elim
theorem z9 {α : Type} {n : Nat} {p : Nat → α → Prop} (h : ∀ i, i < n → ∃ x, p i x) : ∃ l : List α, l.length = n ∧ ∀ (i : Nat) x, l[i]? = some x → p i x := by
 induction n with
 | zero => exact ⟨[], rfl, by simp⟩
 | succ n ih =>
  obtain ⟨l, h1, h2⟩ := ih fun i hi => h i (by omega)
  obtain ⟨x, hx⟩ := h n (by omega)
  refine ⟨l ++ [x], by simp [h1], fun i y hy => ?_⟩
  by_cases hi : i < l.length
  ·rw [List.getElem?_append_left hi] at hy; exact h2 i y hy
  ·have hil : i = l.length := by
    have := (List.getElem?_eq_some_iff.1 hy).1
    simp at this; omega
   subst hil
   rw [List.getElem?_append_right (Nat.le_refl _), Nat.sub_self] at hy
   simp at hy; subst hy; rw [h1]; exact hx
theorem yj {α : Type} {m : Mem} {k b : Nat} (c : α → List D) : ∀ {l : List α} {off : Nat}, (∀ (i : Nat) x, l[i]? = some x → (c x).length = k ∧ ej m b (off + i * k) (c x)) → dM m k b off (l.map c)
 | [], _, _ => trivial
 | x :: r, off, h => ⟨by have := h 0 x rfl; simpa using this, yj c fun i y hy => by
  have := h (i + 1) y (by simpa using hy)
  rwa [show off + (i + 1) * k = off + k + i * k by rw [Nat.add_mul]; omega] at this⟩
section
variable {H : Type} {enc : TypeId × Value → H} {W : World} {sp : Nat → Bool} {hd : Bool}
variable {fuel : Nat} {cs : List Value} {x : DataW H × List MemPlace}
theorem oC {k : Nat} (h : DataW.trod enc Tryz.prog W 0 sp hd fuel 3 cs = some x) : ∃ n : Int, cs = [.int .i64 n] ∧ i64 n := by
 obtain ⟨n, h1, _, h2⟩ := DataW.trod_int LA h
 refine ⟨n, h1, ?_⟩
 simp only [Lit.wf, Bool.and_eq_true, decide_eq_true_eq] at h2
 exact ⟨h2.1, h2.2⟩
theorem rV (h : DataW.trod enc Tryz.prog W 0 sp hd fuel 9 cs = some x) : ∃ s : ByteArray, cs = [.string s] := by
 obtain ⟨s, h1, _⟩ := DataW.trod_string rO h
 exact ⟨s, h1⟩
end
end Go.Proofs.YtndbnldjidciiaaGreatDoor
namespace Go.Vd
open Go Go.RowKit
abbrev vv := ByteArray → Option Int
def IG (f : vv) (s : ByteArray) (n : Int) : vv := match f s with
 | none => GC f s n
 | some m => if n > m then GC f s n else f
def zD (f : vv) (up : Int) : List (ByteArray × Int) → vv
 | [] => f
 | (s, n) :: r => IG (zD f up r) s (n + up)
def HO (f g : vv) (up : Int) : vv := fun p => match g p with
 | none => f p
 | some n => match f p with
  | none => some (n + up)
  | some m => if n + up > m then some (n + up) else some m
theorem GS {f : vv} {s : ByteArray} {n : Int} (p : ByteArray) : IG f s n p = if p = s then (match f s with | none => some n | some m => if n > m then some n else some m) else f p := by
 unfold IG
 cases h : f s with
 | none => simp only [GC]
 | some m =>
  simp only
  by_cases h2 : n > m
  ·simp only [if_pos h2, GC]
  ·simp only [if_neg h2]
   by_cases h3 : p = s
   ·rw [if_pos h3, h3, h]
   ·rw [if_neg h3]
theorem DG {f g : vv} {up : Int} : ∀ {dn : List (ByteArray × Int)}, (dn.map Prod.fst).Nodup → (∀ p ∈ dn, g p.1 = some p.2) → ∀ p, (p ∈ dn.map Prod.fst → zD f up dn p = HO f g up p) ∧ (p ∉ dn.map Prod.fst → zD f up dn p = f p)
 | [], _, _, p => by simp [zD]
 | (s, n) :: r, hnd, hg, p => by
  simp only [List.map_cons, List.nodup_cons] at hnd
  have ih := fun q => DG (f := f) (up := up) hnd.2 (fun q hq => hg q (List.mem_cons_of_mem _ hq)) q
  have hs : g s = some n := hg (s, n) List.mem_cons_self
  simp only [zD, GS, List.map_cons, List.mem_cons]
  rw [(ih s).2 hnd.1]
  by_cases hp : p = s
  ·subst hp
   refine ⟨fun _ => ?_, fun h => absurd (.inl rfl) h⟩
   rw [if_pos rfl]
   unfold HO
   rw [hs]
  ·rw [if_neg hp]
   exact ⟨fun h => (ih p).1 (h.resolve_left hp), fun h => (ih p).2 (fun e => h (.inr e))⟩
def cB.has : cB → ByteArray → Prop
 | .zero, _ => False
 | .succ a, p => a.has p
 | .max a b, p => a.has p ∨ b.has p
 | .imax a b, p => a.has p ∨ b.has p
 | .param s, p => p = s
structure Fits (z o : vv) (σ : ByteArray → Int) : Prop where
 pos : ∀ p, 0 ≤ σ p
 zero : ∀ p, z p ≠ none → σ p = 0
 one : ∀ p, o p ≠ none → 1 ≤ σ p
def off (o : vv) (σ : ByteArray → Int) : ByteArray → Int := fun p => σ p - (o p).getD 0
def Sem (z o : vv) (a b : cB) : Prop := ∀ σ, Fits z o σ → a.dw σ ≤ b.dw σ
theorem rk {α : Type} : ∀ {a b : List α}, a.Nodup → (∀ x ∈ a, x ∈ b) → a.length ≤ b.length
 | [], b, _, _ => by simp
 | x :: r, b, hn, hs => by
  obtain ⟨s, t, rfl⟩ := List.append_of_mem (hs x List.mem_cons_self)
  simp only [List.nodup_cons] at hn
  have := rk (b := s ++ t) hn.2 fun y hy => by
   have h1 := hs y (List.mem_cons_of_mem _ hy)
   simp only [List.mem_append, List.mem_cons] at h1 ⊢
   rcases h1 with h1 | h1 | h1
   ·exact .inl h1
   ·subst h1; exact absurd hy hn.1
   ·exact .inr h1
  simp only [List.length_append, List.length_cons] at this ⊢
  omega
theorem cB.fD : ∀ (l : cB) {ah : List ByteArray} {p : ByteArray}, p ∈ ah → p ∈ l.params ah
 | .zero, _, _, h => h
 | .succ a, _, _, h => a.fD h
 | .max a b, _, _, h => b.fD (a.fD h)
 | .imax a b, _, _, h => b.fD (a.fD h)
 | .param s, ah, p, h => by
  simp only [cB.params]
  split
  ·exact h
  ·exact List.mem_append_left _ h
theorem cB.iF : ∀ (l : cB) {ah : List ByteArray} {p : ByteArray}, l.has p → p ∈ l.params ah
 | .zero, _, _, h => h.elim
 | .succ a, _, _, h => a.iF (show a.has _ from h)
 | .max a b, _, _, h => (show a.has _ ∨ b.has _ from h).elim (fun h => b.fD (a.iF h)) (fun h => b.iF h)
 | .imax a b, _, _, h => (show a.has _ ∨ b.has _ from h).elim (fun h => b.fD (a.iF h)) (fun h => b.iF h)
 | .param s, ah, p, h => by
  have e : p = s := h
  subst e
  simp only [cB.params]
  split
  ·rename_i h2; exact gP.1 h2
  ·simp
end Go.Vd
namespace Go.Vd
open Go Go.RowKit
variable {p : Nat}
theorem bW (s : ByteArray) {q i : Nat} (h : p + i < q) (hq : q ≤ s.size) : aZ (s.extract p q) i = aZ s (p + i) := by
 unfold aZ
 have e : (s.extract p q).data = s.data.extract p q := by simp
 rw [e]
 have hs : s.size = s.data.size := rfl
 simp only [Array.getD_eq_getD_getElem?, Array.getElem?_extract]
 rw [if_pos (by omega)]
variable {s : ByteArray}
theorem q9 {f : Int → Bool} : ∀ {p j : Nat}, p ≤ j → j < cr f s p → f (aZ s j) = true := by
 intro p
 induction h : s.size - p generalizing p with
 | zero =>
  intro j h1 h2
  rw [js (by omega)] at h2; omega
 | succ n ih =>
  intro j h1 h2
  by_cases hc : p < s.size ∧ f (aZ s p) = true
  ·rw [mZ hc.1 hc.2] at h2
   rcases Nat.eq_or_lt_of_le h1 with rfl | h3
   ·exact hc.2
   ·exact ih (by omega) (by omega) h2
  ·rw [js hc] at h2; omega
structure gh (w : ByteArray) : Prop where
 ne : 0 < w.size
 le : w.size ≤ 40
 first : ff (aZ w 0) true = true
 rest : ∀ i, i < w.size → ff (aZ w i) false = true
theorem tN (hp : p ≤ s.size) (h : db (aO s p).1 = true) : gh (aO s p).1 := by
 have h1 := eJ pe s p hp
 unfold aO at h ⊢
 simp only at h ⊢
 generalize hi : cr pe s p = i at h h1 ⊢
 split at h
 ·simp [db] at h
 rename_i hne
 rw [if_neg hne]
 have hil : i < s.size := by omega
 split at h
 ·rename_i hpar
  have hb : aZ (s.extract i (i + 1)) 0 = aZ s i := bW s (by omega) (by omega)
  simp only [db, Bool.and_eq_true] at h
  rw [hb] at h
  have h2 := h.2
  simp only [ff, decide_eq_true_eq] at h2
  omega
 rename_i hpar
 rw [if_neg hpar]
 have h2 : i + 1 ≤ s.size := by omega
 split at h
 ·rename_i hnm
  rw [if_pos hnm]
  have h3 := eJ (ff · false) s (i + 1) h2
  generalize hq : cr (fun x => ff x false) s (i + 1) = q at h h3 ⊢
  split at h
  ·simp [db] at h
  ·rename_i hl
   rw [if_neg hl]
   have hsz : (s.extract i q).size = q - i := by rw [ByteArray.size_extract]; omega
   refine ⟨by rw [hsz]; omega, by rw [hsz]; omega, ?_, fun j hj => ?_⟩
   ·rw [bW s (by omega) h3.2]; exact hnm
   ·rw [hsz] at hj
    rw [bW s (by omega) h3.2]
    rcases Nat.eq_zero_or_pos j with rfl | hj0
    ·rw [Nat.add_zero]
     simp [ff] at hnm ⊢
     omega
    ·exact q9 (f := fun x => ff x false) (p := i + 1) (by omega) (by rw [hq]; omega)
 ·rename_i hnm
  rw [if_neg hnm]
  have hbad : ∀ q, i < q → q ≤ s.size → db (s.extract i q) = false := fun q h5 h6 => by
   unfold db
   rw [bW s (by omega) h6, Nat.add_zero]
   simp only [Bool.not_eq_true] at hnm
   rw [hnm]; simp
  have h4 := eJ jc s (i + 1) h2
  generalize (if aZ s i = 35 then i + 1 else i) = d at h ⊢
  split at h
  ·split at h
   ·simp [db] at h
   ·rw [hbad _ (by omega) h4.2] at h; cases h
  ·simp [db] at h
end Go.Vd
namespace Go.Vd
open Go Go.RowKit
inductive ae where
 | mk (kind num : Int) (name : ByteArray) (levels : List aJ) (args : List ae)
mutual
def ae.cells : ae → List D
 | .mk k n s ls args => [.v (.int .i64 k), .v (.int .i64 n), .v (.string s), .sl 3 (bF ls), .sl 5 (ba args)]
def ba : List ae → List (List D)
 | [] => []
 | t :: r => t.cells :: ba r
end
def ae.d (t : ae) : D := .agg t.cells
theorem ae.eR : ∀ t : ae, t.cells.length = 5
 | .mk _ _ _ _ _ => rfl
theorem ae.case (t : ae) : ∃ k n s ls args, t = .mk k n s ls args := by cases t; exact ⟨_, _, _, _, _, rfl⟩
theorem bf : ∀ l : List ae, (ba l).length = l.length
 | [] => rfl
 | l :: r => by simp [ba, bf r]
theorem lz : ∀ {l : List ae} {i : Nat} {x : ae}, l[i]? = some x → (ba l)[i]? = some x.cells
 | [], i, x, h => by simp at h
 | l :: r, 0, x, h => by simp at h; subst h; simp [ba]
 | l :: r, i + 1, x, h => by simpa [ba] using lz (l := r) (i := i) (by simpa using h)
variable {i : Nat}
theorem bY {l : List ae} {k n : Int} {s : ByteArray} {ls : List aJ} {args : List ae} (h : l[i]? = some (.mk k n s ls args)) : (ba l)[((i : Nat) : Int).toNat]? = some [.v (.int .i64 k), .v (.int .i64 n), .v (.string s), .sl 3 (bF ls), .sl 5 (ba args)] := by
 rw [Int.toNat_natCast, lz h]; rfl
theorem er (l m : List ae) : ba (l ++ m) = ba l ++ ba m := by
 induction l with
 | nil => rfl
 | cons a r ih => simp [ba, ih]
theorem bQ {ls : List ae} (h : i < ls.length) : ∃ k n s l args, ls[i]? = some (.mk k n s l args) := by
 have : ls[i]? = some ls[i] := by simp [h]
 rw [this]
 cases ls[i]; exact ⟨_, _, _, _, _, rfl⟩
mutual
def ae.size : ae → Nat
 | .mk _ _ _ ls args => 1 + aS ls + ai args
def ai : List ae → Nat
 | [] => 0
 | l :: r => l.size + ai r
end
theorem bC : ∀ {ls : List ae} {i : Nat} {l : ae}, ls[i]? = some l → l.size ≤ ai ls
 | [], i, l, h => by simp at h
 | a :: r, 0, l, h => by simp at h; subst h; simp [ai]
 | a :: r, i + 1, l, h => by simp at h; have := bC h; simp [ai]; omega
theorem v9 : ∀ ls : List ae, ls.length ≤ ai ls
 | [] => by simp
 | l :: r => by have := v9 r; cases l; simp [ai, ae.size]; omega
mutual
def ae.same : ae → ae → Bool
 | .mk k n s ls a, .mk k2 n2 s2 ls2 a2 => decide (k = k2) && decide (n = n2) && decide (s = s2) && eE ls ls2 && fS a a2
def fS : List ae → List ae → Bool
 | [], [] => true
 | l :: r, l2 :: r2 => l.same l2 && fS r r2
 | _, _ => false
end
theorem ae.iL (k n : Int) (s : ByteArray) (ls : List aJ) (a : List ae) (k2 n2 : Int) (s2 : ByteArray) (ls2 : List aJ) (a2 : List ae) : ae.same (.mk k n s ls a) (.mk k2 n2 s2 ls2 a2) = (decide (k = k2) && decide (n = n2) && decide (s = s2) && eE ls ls2 && fS a a2) := by simp [ae.same]
theorem wy : ∀ {a b : List ae}, fS a b = true → a.length = b.length
 | [], [], _ => rfl
 | l :: r, l2 :: r2, h => by simp [fS] at h; simp [wy h.2]
 | [], _ :: _, h => by simp [fS] at h
 | _ :: _, [], h => by simp [fS] at h
theorem wz : ∀ {a b : List ae} {x y : ae}, a.length = b.length → fS (a ++ [x]) (b ++ [y]) = (fS a b && x.same y)
 | [], [], x, y, _ => by simp [fS]
 | l :: r, l2 :: r2, x, y, h => by simp [fS, wz (a := r) (b := r2) (by simpa using h), Bool.and_assoc]
 | [], _ :: _, _, _, h => by simp at h
 | _ :: _, [], _, _, h => by simp at h
theorem AN {a b : List ae} {x y : ae} (hx : a[i]? = some x) (hy : b[i]? = some y) : fS (a.take (i + 1)) (b.take (i + 1)) = (fS (a.take i) (b.take i) && x.same y) := by
 have h1 := (List.getElem?_eq_some_iff.1 hx).1
 have h2 := (List.getElem?_eq_some_iff.1 hy).1
 rw [List.take_add_one, List.take_add_one, hx, hy]
 exact wz (by simp; omega)
theorem se : ∀ {a b : List ae} {i : Nat} {x y : ae}, a[i]? = some x → b[i]? = some y → x.same y = false → fS a b = false
 | [], _, i, _, _, h, _, _ => by simp at h
 | _ :: _, [], i, _, _, _, h, _ => by simp at h
 | l :: r, l2 :: r2, 0, x, y, h1, h2, h3 => by simp at h1 h2; subst h1 h2; simp [fS, h3]
 | l :: r, l2 :: r2, i + 1, x, y, h1, h2, h3 => by simp [fS]; intro _; exact se (i := i) (by simpa using h1) (by simpa using h2) h3
mutual
theorem aJ.jt : ∀ l : aJ, l.same l = true
 | .mk k s a => by rw [aJ.iL]; simp [pR a]
theorem pR : ∀ l : List aJ, eE l l = true
 | [] => rfl
 | t :: r => by simp [eE, t.jt, pR r]
end
mutual
theorem ae.jt : ∀ t : ae, t.same t = true
 | .mk k n s ls a => by rw [ae.iL]; simp [pR ls, ue a]
theorem ue : ∀ l : List ae, fS l l = true
 | [] => rfl
 | t :: r => by simp [fS, t.jt, ue r]
end
def jN (t : ByteArray) : Nat → Int
 | 0 => 0
 | k + 1 => 10 * jN t k + (aZ t k - 48)
def rL (t : ByteArray) : Prop := ∀ i : Nat, (i : Int) < t.size → 48 ≤ aZ t i ∧ aZ t i ≤ 57
theorem ur {t : ByteArray} (h : rL t) : ∀ k : Nat, k ≤ t.size → k ≤ 5 → 0 ≤ jN t k ∧ jN t k ≤ 99999
 | 0, _, _ => by simp [jN]
 | 1, h1, h2 => by have := h 0 (by omega); simp only [jN]; omega
 | 2, h1, h2 => by have := h 0 (by omega); have := h 1 (by omega); simp only [jN]; omega
 | 3, h1, h2 => by have := h 0 (by omega); have := h 1 (by omega); have := h 2 (by omega); simp only [jN]; omega
 | 4, h1, h2 => by have := h 0 (by omega); have := h 1 (by omega); have := h 2 (by omega); have := h 3 (by omega); simp only [jN]; omega
 | 5, h1, h2 => by have := h 0 (by omega); have := h 1 (by omega); have := h 2 (by omega); have := h 3 (by omega); have := h 4 (by omega); simp only [jN]; omega
 | _ + 6, _, h2 => by omega
def jK (s : ByteArray) (r : RS) : ByteArray := if (aO s r.p).2.2 = false ∨ r.f ≠ none then .empty else (aO s r.p).1
def ch (s : ByteArray) (r : RS) : ByteArray × RS :=
 let t := aO s r.p
 if t.2.2 = false ∨ db t.1 = false then (.empty, r.fail t.2.1)
 else match r.f with
  | none => (t.1, ⟨t.2.1 + t.1.size, none⟩)
  | some a => (.empty, ⟨r.p, some a⟩)
def cG : Nat → ByteArray → RS → List aJ × RS
 | 0, _, r => ([], r)
 | n + 1, s, r =>
  if r.f = none ∧ jK s r ≠ ⟨#[41]⟩ then
   let a := bw (s.size + 1) s r
   let b := cG n s a.2
   (a.1 :: b.1, b.2)
  else ([], r)
def eA : List ByteArray := [.empty, ⟨#[115, 111, 114, 116]⟩, ⟨#[99, 111, 110, 115, 116]⟩, ⟨#[97, 112, 112]⟩, ⟨#[108, 97, 109]⟩, ⟨#[112, 105]⟩, ⟨#[108, 101, 116]⟩]
def eN (w : ByteArray) : Nat :=
 if w = ⟨#[115, 111, 114, 116]⟩ then 1 else if w = ⟨#[99, 111, 110, 115, 116]⟩ then 2 else if w = ⟨#[97, 112, 112]⟩ then 3
 else if w = ⟨#[108, 97, 109]⟩ then 4 else if w = ⟨#[112, 105]⟩ then 5 else if w = ⟨#[108, 101, 116]⟩ then 6 else 0
theorem uR (w : ByteArray) : eN w ≤ 6 := by
 unfold eN; repeat' split
 all_goals omega
variable {w : ByteArray}
theorem uQ (h1 : 1 ≤ i) (h : i < eA.length) : eA[i] = w ↔ eN w = i := by
 constructor
 ·rintro rfl
  rcases i with _ | _ | _ | _ | _ | _ | _ | i
  ·omega
  all_goals first
   | rfl
   | (simp [eA] at h; omega)
 ·intro e
  unfold eN at e
  repeat' split at e
  all_goals (subst e; first | omega | (rename_i h2; exact h2.symm) | (simp_all [eA]))
def nC (w : ByteArray) (i : Nat) : Nat := if eN w < i then eN w else 0
theorem Fi (w : ByteArray) : nC w 7 = eN w := by have := uR w; unfold nC; rw [if_pos (by omega)]
theorem uP (h1 : 1 ≤ i) (h : i < eA.length) (e : eA[i] = w) : nC w (i + 1) = i := by
 have := (uQ h1 h).1 e; unfold nC; rw [if_pos (by omega)]; exact this
theorem wS (h1 : 1 ≤ i) (h : i < eA.length) (e : ¬ eA[i] = w) : nC w (i + 1) = nC w i := by
 have : ¬ eN w = i := fun h2 => e ((uQ h1 h).2 h2)
 unfold nC
 by_cases h3 : eN w < i
 ·rw [if_pos h3, if_pos (by omega)]
 ·rw [if_neg h3, if_neg (by omega)]
def aI : ae := .mk 0 0 .empty [] []
def dt (f : RS → ae × RS) : Nat → RS → List ae × RS
 | 0, r => ([], r)
 | n + 1, r => let b := dt f n r; let a := f b.2; (b.1 ++ [a.1], a.2)
def partsOf (k : Nat) : Nat := if k = 1 ∨ k = 2 then 0 else if k = 6 then 3 else 2
def ij (s : ByteArray) (k : Nat) (r2 : RS) : ByteArray × List aJ × RS :=
 if k = 1 then (.empty, [(bw (s.size + 1) s r2).1], (bw (s.size + 1) s r2).2)
 else if k = 2 then ((ch s r2).1, (cG (s.size + 2) s (ch s r2).2).1, (cG (s.size + 2) s (ch s r2).2).2)
 else (.empty, [], r2)
def sP (t : ByteArray) : Prop := t ≠ .empty ∧ (aZ t 0 = 35 ∨ t = ⟨#[40]⟩)
instance (t : ByteArray) : Decidable (sP t) := inferInstanceAs (Decidable (_ ∧ _))
def bH : Nat → ByteArray → RS → ae × RS
 | 0, _, r => (aI, r)
 | n + 1, s, r =>
  match r.f with
  | some _ => (aI, r)
  | none =>
   let t := aO s r.p
   if ¬ sP t.1 then (aI, r.fail t.2.1)
   else if t.1 ≠ ⟨#[40]⟩ then (.mk 0 (jN (t.1.extract 1 t.1.size) (t.1.size - 1)) .empty [] [], (aF s r).2)
   else
    let r1 := (aF s r).2
    let w := aO s r1.p
    let k := eN w.1
    if k = 0 then (aI, r1.fail w.2.1)
    else
     let h := ij s k (aF s r1).2
     let a := dt (bH n s) (partsOf k) h.2.2
     (.mk k 0 h.1 h.2.1 a.1, bT s ⟨#[41]⟩ a.2)
def oe (s : ByteArray) : ae × Int × Int :=
 if s.size > 20000 then (aI, 2, 0)
 else
  let a := bH (s.size + 1) s ⟨0, none⟩
  match (ik s a.2).f with
  | none => (a.1, 0, 0)
  | some at' => (aI, 1, at')
variable {r : RS}
theorem dH {s : ByteArray} (hp : r.p ≤ s.size) : r.p ≤ (ch s r).2.p ∧ (ch s r).2.p ≤ s.size := by
 have hat := eG (s := s) hp
 obtain ⟨p, f⟩ := r
 simp only at hp hat
 unfold ch
 dsimp only
 split
 ·rw [RS.gm]; exact ⟨Nat.le_refl _, hp⟩
 ·cases f with
  | none => dsimp only; exact ⟨by omega, hat.2⟩
  | some a => exact ⟨Nat.le_refl _, hp⟩
theorem Bi {s : ByteArray} : ∀ (n : Nat) {r : RS}, r.p ≤ s.size → r.p ≤ (cG n s r).2.p ∧ (cG n s r).2.p ≤ s.size := by
 intro n
 induction n with
 | zero => intro r hp; exact ⟨Nat.le_refl _, hp⟩
 | succ n ih =>
  intro r hp
  simp only [cG]
  split
  ·have h1 := dP (s := s) (s.size + 1) hp
   have h2 := ih h1.2
   exact ⟨Nat.le_trans h1.1 h2.1, h2.2⟩
  ·exact ⟨Nat.le_refl _, hp⟩
theorem qD {s : ByteArray} (k : Nat) (hp : r.p ≤ s.size) : r.p ≤ (ij s k r).2.2.p ∧ (ij s k r).2.2.p ≤ s.size := by
 unfold ij
 split
 ·exact dP (s := s) (s.size + 1) hp
 ·split
  ·have h1 := dH (s := s) hp
   have h2 := Bi (s.size + 2) h1.2
   exact ⟨Nat.le_trans h1.1 h2.1, h2.2⟩
  ·exact ⟨Nat.le_refl _, hp⟩
theorem jx {s : ByteArray} {f : RS → ae × RS} (hf : ∀ r : RS, r.p ≤ s.size → r.p ≤ (f r).2.p ∧ (f r).2.p ≤ s.size) : ∀ (n : Nat) {r : RS}, r.p ≤ s.size → r.p ≤ (dt f n r).2.p ∧ (dt f n r).2.p ≤ s.size := by
 intro n
 induction n with
 | zero => intro r hp; exact ⟨Nat.le_refl _, hp⟩
 | succ n ih =>
  intro r hp
  have h1 := ih hp
  have h2 := hf _ h1.2
  exact ⟨Nat.le_trans h1.1 h2.1, h2.2⟩
theorem uk (f : RS → ae × RS) : ∀ (n : Nat) (r : RS), (dt f n r).1.length = n := by
 intro n
 induction n with
 | zero => intro r; rfl
 | succ n ih => intro r; simp [dt, ih]
theorem dG {s : ByteArray} : ∀ (n : Nat) (r : RS), r.p ≤ s.size → r.p ≤ (bH n s r).2.p ∧ (bH n s r).2.p ≤ s.size := by
 intro n
 induction n with
 | zero => intro r hp; exact ⟨Nat.le_refl _, hp⟩
 | succ n ih =>
  intro r hp
  obtain ⟨p, f⟩ := r
  simp only at hp
  cases f with
  | some a => exact ⟨Nat.le_refl _, hp⟩
  | none =>
   have h1 := cy (s := s) (r := ⟨p, none⟩) hp
   have h2 := cy (s := s) (r := (aF s ⟨p, none⟩).2) h1.2
   simp only at h1
   simp only [bH]
   split
   ·rw [RS.gm]; exact ⟨Nat.le_refl _, hp⟩
   ·split
    ·exact h1
    ·split
     ·rw [RS.gm]; exact h1
     ·have h3 := qD (s := s) (eN (aO s (aF s ⟨p, none⟩).2.p).1) h2.2
      have h4 := jx ih (partsOf (eN (aO s (aF s ⟨p, none⟩).2.p).1)) h3.2
      have h5 := bO (s := s) (w := ⟨#[41]⟩) h4.2
      exact ⟨Nat.le_trans h1.1 (Nat.le_trans h2.1 (Nat.le_trans h3.1 (Nat.le_trans h4.1 h5.1))), h5.2⟩
theorem De {s : ByteArray} {p : Nat} (hp : p ≤ s.size) (h0 : (aO s p).1 ≠ .empty) (h : aZ (aO s p).1 0 = 35) : (aO s p).1.size ≤ 6 ∧ 2 ≤ (aO s p).1.size ∧ rL ((aO s p).1.extract 1 (aO s p).1.size) := by
 have hle := eJ pe s p hp
 revert h0 h
 unfold aO
 dsimp only
 split
 ·intro h0; exact absurd rfl h0
 ·rename_i hn
  have hlt : cr pe s p < s.size := by omega
  split
  ·rename_i hc
   intro _ h
   rw [bW s (by omega) (by omega), Nat.add_zero] at h
   omega
  ·split
   ·rename_i hc hnm
    have h3 := eJ (ff · false) s (cr pe s p + 1) (by omega)
    split
    ·intro h0; exact absurd rfl h0
    ·intro _ h
     rw [bW s (by omega) (by omega), Nat.add_zero] at h
     rw [h] at hnm
     exact absurd hnm (by decide)
   ·split
    ·have h3 := eJ jc s (cr pe s p + 1) (by omega)
     by_cases h35 : aZ s (cr pe s p) = 35
     ·simp only [if_pos h35]
      split
      ·intro h0; exact absurd rfl h0
      ·rename_i hd
       intro _ h
       simp only [ByteArray.size_extract]
       refine ⟨by omega, by omega, fun i hi => ?_⟩
       simp only [ByteArray.size_extract] at hi
       rw [bW _ (by omega) (by simp only [ByteArray.size_extract]; omega), bW s (by omega) (by omega)]
       have := q9 (f := jc) (s := s) (p := cr pe s p + 1) (j := cr pe s p + (1 + i)) (by omega) (by omega)
       simpa [jc] using this
     ·simp only [if_neg h35]
      split
      ·intro h0; exact absurd rfl h0
      ·intro _ h
       rw [bW s (by omega) (by omega), Nat.add_zero] at h
       exact absurd h h35
    ·intro h0; exact absurd rfl h0
theorem yy {s : ByteArray} {p : Nat} (hp : p ≤ s.size) (h0 : (aO s p).1 ≠ .empty) (h : aZ (aO s p).1 0 = 35) : (aO s p).1.size ≤ 6 ∧ 1 ≤ (aO s p).1.size ∧ rL ((aO s p).1.extract 1 (aO s p).1.size) := by
 have := De hp h0 h
 exact ⟨this.1, by omega, this.2.2⟩
section
variable {s : ByteArray} {p n : Nat}
theorem qZ (h : ¬ sP (aO s p).1) : bH (n + 1) s ⟨p, none⟩ = (aI, (RS.mk p none).fail (aO s p).2.1) := by simp only [bH]; rw [if_pos h]
theorem qY (h : sP (aO s p).1) (h1 : (aO s p).1 ≠ ⟨#[40]⟩) : bH (n + 1) s ⟨p, none⟩ = (.mk 0 (jN ((aO s p).1.extract 1 (aO s p).1.size) ((aO s p).1.size - 1)) .empty [] [], (aF s ⟨p, none⟩).2) := by
 simp only [bH]; rw [if_neg (by simpa using h), if_pos h1]
theorem pL (h1 : (aO s p).1 = ⟨#[40]⟩) (h2 : eN (aO s (aF s ⟨p, none⟩).2.p).1 = 0) : bH (n + 1) s ⟨p, none⟩ = (aI, (aF s ⟨p, none⟩).2.fail (aO s (aF s ⟨p, none⟩).2.p).2.1) := by
 simp only [bH]; rw [if_neg (by rw [h1]; decide), if_neg (by simpa using h1), if_pos h2]
theorem pK (h1 : (aO s p).1 = ⟨#[40]⟩) {k : Nat} (h2 : eN (aO s (aF s ⟨p, none⟩).2.p).1 = k) (h3 : ¬ k = 0) {nm : ByteArray} {L : List aJ} {r3 : RS} (h4 : ij s k (aF s (aF s ⟨p, none⟩).2).2 = (nm, L, r3)) :
 bH (n + 1) s ⟨p, none⟩ = (.mk k 0 nm L (dt (bH n s) (partsOf k) r3).1, bT s ⟨#[41]⟩ (dt (bH n s) (partsOf k) r3).2) := by
 simp only [bH]; rw [if_neg (by rw [h1]; decide), if_neg (by simpa using h1), h2, if_neg h3, h4]
end
theorem AZ {s : ByteArray} (h : ¬ s.size > 20000) (hf : ¬ bg (ik s (bH (s.size + 1) s ⟨0, none⟩).2).f = 0) :
 oe s = (aI, bg (ik s (bH (s.size + 1) s ⟨0, none⟩).2).f, dJ (ik s (bH (s.size + 1) s ⟨0, none⟩).2).f) := by
 unfold oe
 rw [if_neg h]
 simp only
 cases hf2 : (ik s (bH (s.size + 1) s ⟨0, none⟩).2).f with
 | none => rw [hf2] at hf; exact absurd rfl hf
 | some a => rfl
theorem y6 {s : ByteArray} (h : ¬ s.size > 20000) (hf : bg (ik s (bH (s.size + 1) s ⟨0, none⟩).2).f = 0) :
 oe s = ((bH (s.size + 1) s ⟨0, none⟩).1, bg (ik s (bH (s.size + 1) s ⟨0, none⟩).2).f, dJ (ik s (bH (s.size + 1) s ⟨0, none⟩).2).f) := by
 unfold oe
 rw [if_neg h]
 simp only
 cases hf2 : (ik s (bH (s.size + 1) s ⟨0, none⟩).2).f with
 | none => rfl
 | some a => rw [hf2] at hf; cases hf
end Go.Vd
namespace Go.Proofs.YtndbnldjidciiaaGreatDoor
open Go Go.Vd Go.RowKit
mutual
def eL (F : ae → Int → ae) : ae → Int → ae
 | .mk k n s ls args, d => if k = 0 then F (.mk k n s ls args) d else .mk k n s ls (b0 F (decide (4 ≤ k)) args d)
def b0 (F : ae → Int → ae) (b : Bool) : List ae → Int → List ae
 | [], _ => []
 | t :: r, d => eL F t (if b && r.isEmpty then d + 1 else d) :: b0 F b r d
end
theorem iz (F : ae → Int → ae) (b : Bool) (d : Int) : ∀ l : List ae, (b0 F b l d).length = l.length
 | [] => by simp [b0]
 | t :: r => by simp [b0, iz F b d r]
theorem rn (F : ae → Int → ae) (b : Bool) (d : Int) : ∀ {l : List ae} {i : Nat} {t : ae}, l[i]? = some t → (b0 F b l d)[i]? = some (eL F t (if b = true ∧ i + 1 = l.length then d + 1 else d))
 | [], i, t, h => by simp at h
 | a :: r, 0, t, h => by
  simp at h; subst h
  simp only [b0, List.getElem?_cons_zero]
  cases r <;> simp
 | a :: r, i + 1, t, h => by
  have := rn F b d (l := r) (i := i) (t := t) (by simpa using h)
  simp only [b0, List.getElem?_cons_succ, this, List.length_cons, Nat.add_right_cancel_iff]
def eM (m from' : Int) : ae → Int → ae
 | .mk k n s ls args, d => if n ≥ from' + d then .mk k (n + m) s ls args else .mk k n s ls args
def fT (t : ae) (m from' : Int) : ae := if m = 0 then t else eL (eM m from') t 0
def dD (v : ae) : ae → Int → ae
 | .mk k n s ls args, d => if n - d < 0 then .mk k n s ls args else if n - d < 1 then fT v d 0 else .mk k (n - 1) s ls args
def dK (t v : ae) : ae := eL (dD v) t 0
theorem bC : ∀ {l : List ae} {i : Nat} {t : ae}, l[i]? = some t → t.size ≤ ai l
 | [], i, t, h => by simp at h
 | a :: r, 0, t, h => by simp at h; subst h; simp [ai]
 | a :: r, i + 1, t, h => by
  have := bC (l := r) (i := i) (t := t) (by simpa using h)
  simp [ai]; omega
theorem bA : ∀ l : List ae, l.length ≤ ai l
 | [] => by simp
 | .mk k n s ls args :: r => by have := bA r; simp [ai, ae.size]; omega
end Go.Proofs.YtndbnldjidciiaaGreatDoor
namespace Go.Proofs.YtndbnldjidciiaaGreatDoor
open Go Go.Vd Go.RowKit
mutual
def ic (G : ae → Int → Bool) : ae → Int → Bool
 | .mk k n s ls args, d => G (.mk k n s ls args) d || kP G (decide (4 ≤ k)) args d
def kP (G : ae → Int → Bool) (b : Bool) : List ae → Int → Bool
 | [], _ => false
 | t :: r, d => ic G t (if b && r.isEmpty then d + 1 else d) || kP G b r d
end
theorem rW {G : ae → Int → Bool} {b : Bool} {d : Int} : ∀ {l : List ae} {i : Nat} {t : ae}, l[i]? = some t → ic G t (if b = true ∧ i + 1 = l.length then d + 1 else d) = true → kP G b l d = true
 | [], i, t, h, _ => by simp at h
 | a :: r, 0, t, h, hg => by
  simp at h; subst h
  simp only [kP, Bool.or_eq_true]
  left
  cases r <;> simpa using hg
 | a :: r, i + 1, t, h, hg => by
  simp only [kP, Bool.or_eq_true]
  right
  exact rW (l := r) (i := i) (t := t) (by simpa using h) (by simpa only [List.length_cons, Nat.add_right_cancel_iff] using hg)
theorem qe {G : ae → Int → Bool} {b : Bool} {d : Int} : ∀ {l : List ae}, (∀ (i : Nat) t, l[i]? = some t → ic G t (if b = true ∧ i + 1 = l.length then d + 1 else d) = false) → kP G b l d = false
 | [], _ => rfl
 | a :: r, h => by
  simp only [kP, Bool.or_eq_false_iff]
  refine ⟨?_, qe fun i t hi => ?_⟩
  ·have := h 0 a rfl
   cases r <;> simpa using this
  ·have := h (i + 1) t (by simpa using hi)
   simpa only [List.length_cons, Nat.add_right_cancel_iff] using this
def bt : ae → ae × List ae
 | .mk k n s ls [f, a] => if k = 3 then ((bt f).1, (bt f).2 ++ [a]) else (.mk k n s ls [f, a], [])
 | t => (t, [])
def bN (f : ae) (bs : List ae) : ae := bs.foldl (fun f a => .mk 3 0 .empty [] [f, a]) f
def tX : ae → Prop
 | .mk k n s ls [f, a] => k = 3 → tX f
 | .mk k n s ls _ => ¬ k = 3
variable {k n : Int} {s : ByteArray} {ls : List aJ} {args : List ae}
theorem EF (h : tX (.mk k n s ls args)) (hk : k = 3) : ∃ k1 n1 s1 l1 a1 k2 n2 s2 l2 a2, args = [.mk k1 n1 s1 l1 a1, .mk k2 n2 s2 l2 a2] ∧ tX (.mk k1 n1 s1 l1 a1) := by
 match args, h with
 | [⟨k1, n1, s1, l1, a1⟩, ⟨k2, n2, s2, l2, a2⟩], h => exact ⟨k1, n1, s1, l1, a1, k2, n2, s2, l2, a2, rfl, by simp only [tX] at h; exact h hk⟩
 | [], h => exact absurd hk (by simpa only [tX] using h)
 | [a], h => exact absurd hk (by simpa only [tX] using h)
 | a :: b :: c :: r, h => exact absurd hk (by simpa only [tX] using h)
theorem wj {f a : ae} : bt (.mk 3 n s ls [f, a]) = ((bt f).1, (bt f).2 ++ [a]) := by
 simp only [bt, if_true]
theorem yG (h : ¬ k = 3) : bt (.mk k n s ls args) = (.mk k n s ls args, []) := by
 match args with
 | [f, a] => simp only [bt, if_neg h]
 | [] => rfl
 | [a] => rfl
 | a :: b :: c :: r => rfl
end Go.Proofs.YtndbnldjidciiaaGreatDoor
namespace Go.Proofs.YtndbnldjidciiaaGreatDoor
open Go Go.Vd Go.RowKit
theorem ow (F : ae → Int → ae) (b : Bool) (r : List ae) (d : Int) : (b0 F b r d).isEmpty = r.isEmpty := by cases r <;> simp [b0]
mutual
theorem wQ {F : ae → Int → ae} (hv : ∀ n s ls args (j : Int), F (.mk 0 n s ls args) j = .mk 0 n s ls args) : ∀ (t : ae) (j : Int), eL F t j = t
 | .mk k n s ls args, j => by
  by_cases hk : k = 0
  ·subst hk
   rw [eL, if_pos rfl, hv]
  ·rw [eL, if_neg hk, uC hv args]
theorem uC {F : ae → Int → ae} (hv : ∀ n s ls args (j : Int), F (.mk 0 n s ls args) j = .mk 0 n s ls args) : ∀ (l : List ae) (b : Bool) (j : Int), b0 F b l j = l
 | [], b, j => rfl
 | t :: r, b, j => by
  simp only [b0]
  rw [wQ hv t, uC hv r]
end
theorem fk (t : ae) (m fr : Int) : fT t m fr = eL (eM m fr) t 0 := by
 unfold fT
 split
 ·rename_i h; subst h
  exact (wQ (fun n s ls args j => by rw [eM]; split <;> simp) t 0).symm
 ·rfl
theorem fg (F : ae → Int → ae) (n : Int) (s : ByteArray) (ls : List aJ) (args : List ae) (j : Int) : eL F (.mk 0 n s ls args) j = F (.mk 0 n s ls args) j := by rw [eL, if_pos rfl]
end Go.Proofs.YtndbnldjidciiaaGreatDoor
namespace Go.Proofs.YtndbnldjidciiaaGreatDoor
open Go Go.Vd Go.RowKit
theorem p8 {x : cB} (h : jB = x.bG) : ∀ w, x.has w → gh w := by
 cases x <;> simp [jB, cB.bG] at h
 intro w hw; exact hw.elim
theorem DB {s : ByteArray} : ∀ (n : Nat) {r : RS}, r.p ≤ s.size → ∀ x : cB, (bw n s r).1 = x.bG → ∀ w, x.has w → gh w := by
 intro n
 induction n with
 | zero => intro r hp x h; exact p8 h
 | succ n ih =>
  intro r hp x h
  obtain ⟨p, f⟩ := r
  simp only at hp
  cases f with
  | some a => exact p8 h
  | none =>
   have h1 := cy (s := s) (r := ⟨p, none⟩) hp
   have h2 := cy (s := s) (r := (aF s ⟨p, none⟩).2) h1.2
   have h3 := dP n h2.2
   by_cases c0 : (aO s p).1 = ⟨#[48]⟩
   ·rw [j3 c0] at h; exact p8 h
   cases c1 : db (aO s p).1 with
   | true =>
    rw [j4 c0 c1] at h
    cases x <;> simp [cB.bG] at h
    intro w hw
    have e : w = _ := hw
    rw [e, ← h]
    exact tN hp c1
   | false =>
    by_cases c2 : (aO s p).1 = ⟨#[40]⟩
    ·rcases uS (aO s (aF s ⟨p, none⟩).2.p).1 with hk | ⟨hk, hne2⟩
     ·rw [j5 c0 c1 c2 hk] at h; exact p8 h
     ·rcases hk with hk | hk | hk
      ·rw [nB c0 c1 c2 hk] at h
       cases x <;> simp [cB.bG] at h
       intro w hw; exact ih h2.2 _ h w hw
      ·rw [iC c0 c1 c2 (by omega) (by omega), hk] at h
       cases x <;> simp [cB.bG] at h
       intro w hw
       rcases hw with hw | hw
       ·exact ih h2.2 _ h.1 w hw
       ·exact ih h3.2 _ h.2 w hw
      ·rw [iC c0 c1 c2 (by omega) (by omega), hk] at h
       cases x <;> simp [cB.bG] at h
       intro w hw
       rcases hw with hw | hw
       ·exact ih h2.2 _ h.1 w hw
       ·exact ih h3.2 _ h.2 w hw
    ·rw [j6 c0 c1 c2] at h; exact p8 h
end Go.Proofs.YtndbnldjidciiaaGreatDoor
