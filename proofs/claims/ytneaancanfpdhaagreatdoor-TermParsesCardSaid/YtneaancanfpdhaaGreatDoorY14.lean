/-
  What is proved here: functions that defer calls, and calls that recover; over any program.
-/
import Derived.Test.YtneaancanfpdhaaGreatDoorY13
import Derived.Defers
import Derived.Recover
set_option linter.unusedSimpArgs false
set_option linter.unusedVariables false
namespace Go.Vd
open Go Go.RowKit

/-- how a function is on its way out -/
inductive Um where
  | ret
  | pan (d : D) (r : Bool)
def Um.Den (m : Mem) : Um → FrameMode → Prop
  | .ret, u => u = .returning
  | .pan d r, u => ∃ v, d.Den m v ∧ u = .panicking [{ v := v, recovered := r }]
def Um.settle : Um → Um
  | .ret => .ret
  | .pan _ true => .ret
  | .pan d false => .pan d false
theorem Um.settle_den {m : Mem} {U : Um} {u : FrameMode} (h : U.Den m u) : U.settle.Den m (Go.settle u) := by
  match U, h with
  | .ret, h => cases h; rfl
  | .pan d true, ⟨v, _, h2⟩ => subst h2; rfl
  | .pan d false, ⟨v, h1, h2⟩ => subst h2; exact ⟨v, h1, rfl⟩
theorem Um.Den.ne {m : Mem} {U : Um} {u : FrameMode} (h : U.Den m u) : u ≠ .run := by
  match U, h with
  | .ret, h => cases h; simp
  | .pan d r, ⟨v, _, h2⟩ => subst h2; simp
theorem Um.Den.to {m m' : Mem} (hm : ∀ (d : D) v, d.Den m v → d.Den m' v) {U : Um} {u : FrameMode} (h : U.Den m u) : U.Den m' u := by
  match U, h with
  | .ret, h => exact h
  | .pan d r, ⟨v, h1, h2⟩ => exact ⟨v, hm _ _ h1, h2⟩

/-- a deferred call: the function, and its arguments as it will see them -/
structure SDf where
  f : FuncId
  args : List SV
def persS (k : Nat) : SV → Bool
  | .d _ => true
  | .blk i _ => Nat.blt i k
  | _ => false
def persL (k : Nat) : List SV → Bool
  | [] => true
  | s :: r => persS k s && persL k r
theorem persS_den {k : Nat} {g g' : Gh} (hm : Mle g.m g'.m) (hat : ∀ (i b : Nat), i < k → g.gs[i]? = some (.loc b) → g'.gs[i]? = some (.loc b)) {s : SV} {y : Value} (hp : persS k s = true) (hd : s.Den g y) : s.Den g' y := by
  cases s <;> simp only [persS, Bool.false_eq_true] at hp
  case d x => exact D.Den.mono hm x hd
  case blk i off =>
    obtain ⟨b, hb, e⟩ := hd
    exact ⟨b, hat i b (by simpa using hp) hb, e⟩
theorem persL_den {k : Nat} {g g' : Gh} (hm : Mle g.m g'.m) (hat : ∀ (i b : Nat), i < k → g.gs[i]? = some (.loc b) → g'.gs[i]? = some (.loc b)) : ∀ {l : List SV} {vs : List Value}, persL k l = true → SDenL g l vs → SDenL g' l vs
  | [], _, _, hd => hd
  | s :: r, _, hp, ⟨x, l', e, h1, h2⟩ => by
    simp only [persL, Bool.and_eq_true] at hp
    exact ⟨x, l', e, persS_den hm hat hp.1 h1, persL_den hm hat hp.2 h2⟩
def DfDen (P : Program) (k : Nat) (g : Gh) (s : SDf) (d : Deferred) : Prop :=
  ∃ fv cap vs, d.target = .fn fv cap ∧ (∀ w, (invoke d.target d.args).run P w = .ok (.enter s.f ⟨vs⟩) w) ∧ SDenL g s.args vs ∧ persL k s.args = true
def DfsDen (P : Program) (k : Nat) (g : Gh) : List SDf → List Deferred → Prop
  | [], l => l = []
  | s :: r, l => ∃ d l', l = d :: l' ∧ DfDen P k g s d ∧ DfsDen P k g r l'

/-- what is promised of a deferred call -/
def dfPost (GL : Nat → List D) (g : Gh) (w : World) (ob : List Ob) (Q : Um → List Ob → Prop) (e : Ending) (u' : FrameMode) (w' : World) : Prop :=
  (∃ v, e = .returned v) ∧ ∃ g' ob' U', StoreOk GL ob' g' w' ∧ Stp ⟨g, w, blocksOf ob g, ob.length, []⟩ ob' g' w' ∧ ob.length ≤ ob'.length ∧ noIt ob' = true ∧ U'.Den g'.m u' ∧ Q U' ob'
def TriDf (P : Program) (GL : Nat → List D) (f : FuncId) (ob : List Ob) (args : List SV) (U : Um) (Q : Um → List Ob → Prop) : Prop :=
  ∀ (g : Gh) (w : World) (vs : List Value) (u : FrameMode), StoreOk GL ob g w → SDenL g args vs → U.Den g.m u →
    CallsD P f ⟨vs⟩ u w (dfPost GL g w ob Q)

/-- a function's end, once it has deferred calls -/
def tailPost (P : Program) (fn : Func) (R : Ending → World → Prop) (df : List Deferred) : Exit → Act → World → Prop
  | .ret, a, w => ∃ ds, a.defers = ds ++ df ∧ Leaves P fn a.tmps R ds .returning w
  | .panic c, a, w => ∃ ds, a.defers = ds ++ df ∧ Leaves P fn a.tmps R ds (.panicking c) w
  | _, _, _ => False
def escD (P : Program) (GL : Nat → List D) (fn : Func) (Q : Out → List Ob → Prop) : Bs → Exit → Act → World → Prop :=
  fun B e a w => tailPost P fn (triPost GL B Q) B.df e a w

def LvR (P : Program) (GL : Nat → List D) (fn : Func) (n0 n1 : Nat) (Qf : Out → List Ob → Prop) (dfs : List SDf) (U : Um) (σ : St) : Prop :=
  ∀ B0 B1 : Bs, B0.n0 = n0 → B1.n0 = n1 → (∀ ob g w, Stp ⟨B1.g, B1.w, B1.X, B1.n0, []⟩ ob g w → Stp ⟨B0.g, B0.w, B0.X, B0.n0, []⟩ ob g w) →
    ∀ ds u g a w, DfsDen P n1 B1.g dfs ds → U.Den g.m u → RelG GL B1 σ g a w → Leaves P fn a.tmps (triPost GL B0 Qf) ds u w
def RunsD (P : Program) (GL : Nat → List D) (fn : Func) (n0 : Nat) (Qf : Out → List Ob → Prop) (dfs : List SDf) (c : Code) (σ : St) : Prop :=
  ∀ B0 : Bs, B0.n0 = n0 → ∀ ds g a w, DfsDen P σ.ob.length g dfs ds → RelG GL ⟨B0.g, B0.w, B0.X, B0.n0, ds ++ B0.df⟩ σ g a w → c.wp P (tailPost P fn (triPost GL B0 Qf) B0.df) a w

section
variable {P : Program} {GL : Nat → List D} {n0 n1 : Nat} {fn : Func} {Qf : Out → List Ob → Prop} {dfs : List SDf}

theorem rd_start {c : Code} {Q : Ex → St → Prop} {σ : St} {pn : SV → List (Nat × SV) → List Ob → Prop} (h : RunsD P GL fn n0 Qf [] c σ) : Runs P GL n0 ⟨pn, escD P GL fn Qf⟩ c Q σ := fun B hB a w ⟨g, hr⟩ =>
  wp_mono (h B hB [] g a w rfl hr) fun e a w ht => by
    cases e with
    | ret => exact .inl ht
    | panic c => exact .inl ht
    | normal => exact ht.elim
    | exit j => exact ht.elim
    | goto l => exact ht.elim
    | outgrown => exact ht.elim

theorem wp_seq_tail {c1 c2 : Code} {R : Ending → World → Prop} {df : List Deferred} {a : Act} {w : World} {K : Act → World → Prop} (h1 : ∀ Q : Exit → Act → World → Prop, (∀ a w, K a w → Q .normal a w) → c1.wp P Q a w) (h2 : ∀ a w, K a w → c2.wp P (tailPost P fn R df) a w) : (Code.seq c1 c2).wp P (tailPost P fn R df) a w :=
  wp_seq (h1 _ fun a w hk => h2 a w hk)

theorem rd_defer_f {c : Code} {n : Nat} {sl : List (Nat × SV)} {ob : List Ob} {id : Nat} {o : Oper} {f : FuncId} {args : Array Operand} {ts : Array TypeId} {svs : List SV} (hc : callable P f = true) (ho : o.op = .defer { callee := .value (.func f), args := args, argTypes := ts }) (hg : o.guard = none) (hdst : o.dst = none)
    (ha : evL GL sl args.toList = some svs) (hp : persL ob.length svs = true) (h : RunsD P GL fn n0 Qf (⟨f, svs⟩ :: dfs) c ⟨n, sl, ob⟩) : RunsD P GL fn n0 Qf dfs (.seq (.region id [o].toArray false) c) ⟨n, sl, ob⟩ := fun B0 h0 ds g a w hds hr => by
  let d : Deferred := { target := .fn (.func f) #[], args := #[] ++ args.map a.eval }
  have hrun : (execOp a.eval o).run P w = .ok (.defer d) w := by
    simp only [execOp, ho, resolve, Act.eval, Deferred.ofValue, Sem.run_bind, Sem.run_pure, Result.andThen_ok]
    rfl
  have hd := evL_den hr ha
  refine wp_seq_tail (K := fun a' w' => a' = { a with defers := d :: a.defers } ∧ w' = w) (fun Q hQ => wp_region_list ?_) ?_
  · simp only
    refine wpList_step fun K hK => ?_
    simp only [Region.wanted, hg, if_true]
    unfold Oper.wp
    rw [hrun, Oper.upon_defer, hdst]
    exact hK _ _ (wpList_nil (hQ _ _ ⟨rfl, rfl⟩))
  · rintro a' w' ⟨rfl, rfl⟩
    refine h B0 h0 (d :: ds) g _ w' ⟨d, ds, rfl, ⟨.func f, #[], args.toList.map a.eval, rfl, fun w => ?_, hd, hp⟩, hds⟩ ⟨by simp [hr.defers], hr.size, hr.slots, hr.store, ⟨hr.stp.fr, hr.stp.mem, hr.stp.new, hr.stp.own, hr.stp.at'⟩⟩
    have : (invoke d.target d.args).run P w = (callFunc f ⟨args.toList.map a.eval⟩).run P w := by
      simp only [d, invoke]
      congr 2
      apply Array.ext'
      simp
    rw [this, run_callFunc hc]

theorem rd_defer_c {c : Code} {n t : Nat} {sl : List (Nat × SV)} {ob : List Ob} {id : Nat} {o1 o2 : Oper} {f : FuncId} {caps : Array Operand} {ts : Array TypeId} {svs : List SV} (hc : callable P f = true) (ho1 : o1.op = .makeFunc (.func f) #[] caps) (hg1 : o1.guard = none) (hd1 : o1.dst = some t) (ht : Nat.blt t n = true)
    (ho : o2.op = .defer { callee := .value (.tmp t), args := #[], argTypes := ts }) (hg : o2.guard = none) (hdst : o2.dst = none)
    (ha : evL GL sl caps.toList = some svs) (hp : persL ob.length svs = true) (h : RunsD P GL fn n0 Qf (⟨f, svs⟩ :: dfs) c ⟨n, (t, .junk) :: sl, ob⟩) : RunsD P GL fn n0 Qf dfs (.seq (.region id [o1, o2].toArray false) c) ⟨n, sl, ob⟩ := fun B0 h0 ds g a w hds hr => by
  let d : Deferred := { target := .fn (.func f) (caps.map a.eval), args := #[] ++ #[] }
  have hrun1 : (execOp a.eval o1).run P w = .ok (.value (.func (.func f) #[] (caps.map a.eval))) w := by
    simp only [execOp, ho1, Instr.makeFunc, Sem.run_bind, Sem.run_pure, Result.andThen_ok, List.map_toArray, Array.map_empty, List.map_nil]
  have hr1 := hr.put (s := .junk) (x := .func (.func f) #[] (caps.map a.eval)) ht trivial
  have hev : (a.put (some t) (.func (.func f) #[] (caps.map a.eval))).eval (.tmp t) = .func (.func f) #[] (caps.map a.eval) := by
    have hs : t < a.tmps.size := by rw [hr.size]; simpa [Nat.blt_eq] using ht
    simp [Act.eval, Act.put, hs]
  have hrun : (execOp (a.put (some t) (.func (.func f) #[] (caps.map a.eval))).eval o2).run P w = .ok (.defer d) w := by
    simp only [execOp, ho, resolve, hev, Deferred.ofValue, Sem.run_bind, Sem.run_pure, Result.andThen_ok, List.map_toArray, Array.map_empty, List.map_nil]
    rfl
  have hd := evL_den hr ha
  refine wp_seq_tail (K := fun a' w' => a' = { a.put (some t) (.func (.func f) #[] (caps.map a.eval)) with defers := d :: a.defers } ∧ w' = w) (fun Q hQ => wp_region_list ?_) ?_
  · simp only
    refine wpList_step fun K hK => ?_
    simp only [Region.wanted, hg1, if_true]
    unfold Oper.wp
    rw [hrun1, Oper.upon_value, hd1]
    refine hK _ _ (wpList_step fun K2 hK2 => ?_)
    simp only [Region.wanted, hg, if_true]
    unfold Oper.wp
    rw [hrun, Oper.upon_defer, hdst]
    exact hK2 _ _ (wpList_nil (hQ _ _ ⟨rfl, rfl⟩))
  · rintro a' w' ⟨rfl, rfl⟩
    refine h B0 h0 (d :: ds) g _ w' ⟨d, ds, rfl, ⟨.func f, caps.map a.eval, caps.toList.map a.eval, rfl, fun w => ?_, hd, hp⟩, hds⟩ ⟨by simp [hr.defers], hr1.size, hr1.slots, hr1.store, ⟨hr.stp.fr, hr.stp.mem, hr.stp.new, hr.stp.own, hr.stp.at'⟩⟩
    have : (invoke d.target d.args).run P w = (callFunc f ⟨caps.toList.map a.eval⟩).run P w := by
      simp only [d, invoke]
      congr 2
      apply Array.ext'
      simp
    rw [this, run_callFunc hc]

/-- behind the deferrals: the rest of the function -/
abbrev pnT (P : Program) (GL : Nat → List D) (fn : Func) (n0 n1 : Nat) (Qf : Out → List Ob → Prop) (dfs : List SDf) : PnS := ⟨fun s sl ob => ∃ d, s = .d d ∧ ∀ n, LvR P GL fn n0 n1 Qf dfs (.pan d false) ⟨n, sl, ob⟩, fun _ _ _ _ => False⟩
def finT (P : Program) (GL : Nat → List D) (fn : Func) (n0 n1 : Nat) (Qf : Out → List Ob → Prop) (dfs : List SDf) : Ex → St → Prop
  | .ret, σ => LvR P GL fn n0 n1 Qf dfs .ret σ
  | _, _ => False
theorem finT_ret {σ : St} (h : LvR P GL fn n0 n1 Qf dfs .ret σ) : finT P GL fn n0 n1 Qf dfs .ret σ := h
theorem rd_go {c : Code} {n : Nat} {sl : List (Nat × SV)} {ob : List Ob} (n1 : Nat) (hn1 : ob.length = n1) (h : Runs P GL n1 (pnT P GL fn n0 n1 Qf dfs) c (finT P GL fn n0 n1 Qf dfs) ⟨n, sl, ob⟩) : RunsD P GL fn n0 Qf dfs c ⟨n, sl, ob⟩ := fun B0 h0 ds g a w hds hr => by
  have hr1 : RelG GL ⟨g, w, blocksOf ob g, ob.length, ds ++ B0.df⟩ ⟨n, sl, ob⟩ g a w :=
    ⟨hr.defers, hr.size, hr.slots, hr.store, ⟨Fr.refl _ _, Mle.refl _, fun b o x h1 h2 => (by simp only at h2; rw [h2] at h1; cases h1), fun i o p b h1 h2 h3 => .inl ⟨i, o, p, h1, h2, h3⟩, fun _ _ _ h => h⟩⟩
  have hlen := hr.store.len
  simp only at hlen
  have hcomp : ∀ ob' g' w', Stp ⟨g, w, blocksOf ob g, ob.length, []⟩ ob' g' w' → Stp ⟨B0.g, B0.w, B0.X, B0.n0, []⟩ ob' g' w' := fun ob' g' w' hst => by
    refine (hr.stp.forget []).step (X := blocksOf ob g) hst.fr (fun b ⟨i, o, p, h1, h2, h3⟩ => hr.stp.own i o p b h1 h2 h3) hst.mem (fun b o x hx hn => hst.new b o x hx hn) (fun i o p b h1 h2 h3 => ?_) (fun i b hb => hst.at' i b ?_ hb)
    · rcases hst.own i o p b h1 h2 h3 with ⟨i', o', p', h4, h5, h6⟩ | h4
      · exact .inl (hr.stp.own i' o' p' b h4 h5 h6)
      · exact .inr h4
    · show i < ob.length
      rw [hlen]; exact (List.getElem?_eq_some_iff.1 hb).1
  refine wp_mono (h ⟨g, w, blocksOf ob g, ob.length, ds ++ B0.df⟩ hn1 a w ⟨g, hr1⟩) fun e a' w' hl => ?_
  simp only [hn1] at hds
  cases e with
  | ret =>
    rcases hl with hl | ⟨σ', ⟨g', hr'⟩, hk⟩
    · exact hl.elim
    · exact ⟨ds, hr'.defers, hk B0 _ h0 hn1 hcomp ds _ g' a' w' hds rfl hr'⟩
  | panic c =>
    rcases hl with hl | ⟨hdf, g2, sl2, ob2, v, s, rfl, hs2, hst2, hd2, hsl, d, rfl, hlv⟩
    · exact hl.elim
    · exact ⟨ds, hdf, hlv _ B0 _ h0 hn1 hcomp ds _ g2 a' w' hds ⟨v, hd2, rfl⟩ ⟨hdf, rfl, hsl, hs2, hst2⟩⟩
  | normal => obtain ⟨_, _, h⟩ := hl; exact h.elim
  | exit j => obtain ⟨_, _, h⟩ := hl; exact h.elim
  | goto l => obtain ⟨_, _, h⟩ := hl; exact h.elim
  | outgrown => exact hl.elim

theorem lv_call {U : Um} {n : Nat} {sl : List (Nat × SV)} {ob : List Ob} {f : FuncId} {svs : List SV} {obc : List Ob} {argsc m : List SV} {Q : Um → List Ob → Prop} (ht : TriDf P GL f obc argsc U Q) (ix : List Nat) (hfit : ObFits ob ix obc ix) (hnd : nodupB ix = true) (hno : noIt obc = true) (hit : noItOns ix ob = true) (hra : renL ix argsc = some m) (hfa : FitL ob svs m)
    (hret : ∀ U' ob', Q U' ob' → ∃ obr ob1 obn sl1, renOb (names ix ob.length (ob'.length - ix.length)) ob' = some obr ∧ kObL ix ob = some ob1 ∧ mergeO ix ob1 obr = some obn ∧ kSlL ix sl = some sl1 ∧ LvR P GL fn n0 n1 Qf dfs U'.settle ⟨n, sl1, obn⟩) : LvR P GL fn n0 n1 Qf (⟨f, svs⟩ :: dfs) U ⟨n, sl, ob⟩ := by
  intro B0 B1 h0 h1 hcomp ds u g a w hds hu hr
  obtain ⟨d, l', rfl, ⟨fv, cap, vs, htar, hinv, hden, hp⟩, hrest⟩ := hds
  have hnd' := nodupB_eq hnd
  have hden' : SDenL g svs vs := persL_den hr.stp.mem (fun i b hi hb => hr.stp.at' i b (by rw [h1]; exact hi) hb) hp hden
  have hsub := hr.store.sub hfit hnd' (fun j i f dn cur hj => absurd hj (noIt_get hno j i f dn cur))
  have hd2 := renL_back hsub.2.1 _ hra (hfa.den hr.store hden')
  refine ⟨hu.ne, fv, cap, f, ⟨vs⟩, htar, hinv w, (ht _ w vs u hsub.1 hd2 hu).mono ?_⟩
  rintro e u' w' ⟨⟨v, rfl⟩, g', ob', U', hs, hst, hle, hno', hu', hq⟩
  obtain ⟨obr, ob1, obn, sl1, e1, e2, e3, e4, hk⟩ := hret U' ob' hq
  obtain ⟨gn, hrel, hkeep, hdn⟩ := hr.after hfit hnd' hno (noItOns_get hit) hs hst hle hno' e1 e2 e3 e4
  exact hk B0 B1 h0 h1 hcomp l' _ gn a w' hrest (Um.settle_den (hu'.to fun d v hd => hdn (.d d) (.d d) v rfl hd)) hrel
theorem lv_end {σ : St} {rs : List ResultVar} (hrs : fn.results.toList = rs) (h : Fin P GL n0 rs Qf σ) : LvR P GL fn n0 n1 Qf [] .ret σ := by
  subst hrs
  intro B0 B1 h0 h1 hcomp ds u g a w hds hu hr
  cases hds; cases hu
  exact fin_post (B := ⟨B0.g, B0.w, B0.X, B0.n0, a.defers⟩) h0 ⟨g, ⟨rfl, hr.size, hr.slots, hr.store, (hcomp _ _ _ (hr.stp.forget [])).forget _⟩⟩ h

theorem triDf_of_runs {f : FuncId} {c : Code} {ob : List Ob} {args : List SV} {Q0 : Out → List Ob → Prop} {U : Um} {Q : Um → List Ob → Prop} (hf : P.funcs[f]? = some fn) (hb : fn.body = some c) {n : Nat} (hnt : fn.ntmps = n) {rs : List ResultVar} (hrs : fn.results.toList = rs) {sl : List (Nat × SV)}
    (hn : Nat.ble args.length n = true) (hsl : slotsO 0 args = some sl) (k : Nat) (hk : ob.length = k) (hQ : ∀ out ob', Q0 out ob' → (∃ s, out = .ret s) ∧ Q U ob') (h : Runs P GL k (pnL k Q0) c (fin P GL k rs Q0) ⟨n, sl, ob⟩) : TriDf P GL f ob args U Q := by
  subst hnt hk
  rw [← slotsO_eq hsl] at h
  intro g w vs u hs hd hu
  refine (callsD_of_wp hf hb (wp_of_runs (B := ⟨g, w, blocksOf ob g, ob.length, []⟩) rfl hrs h ⟨g, rel_begin (by simpa using hn) hs hd⟩)).mono ?_
  rintro e u' w' ⟨rfl, g', ob', h1, h2, h3, h4, h5⟩
  cases e with
  | returned v =>
    obtain ⟨s, _, hq⟩ := h5
    exact ⟨⟨v, rfl⟩, g', ob', U, h1, h2, h3, h4, hu.to fun d v hd => D.Den.mono h2.mem d hd, (hQ _ _ hq).2⟩
  | panicked c =>
    obtain ⟨v, s, _, _, hq⟩ := h5
    obtain ⟨⟨_, h6⟩, _⟩ := hQ _ _ hq
    cases h6
  | outgrown => exact h5.elim

/-- a deferred call that begins with recover -/
theorem triDf_recover {f : FuncId} {c : Code} {ob : List Ob} {args : List SV} {Q0 : Out → List Ob → Prop} {U U' : Um} {s : SV} {Q : Um → List Ob → Prop} {id t : Nat} {o : Oper} (hf : P.funcs[f]? = some fn) (hb : fn.body = some (.seq (.region id [o].toArray false) c)) {n : Nat} (hnt : fn.ntmps = n) {rs : List ResultVar} (hrs : fn.results.toList = rs) {sl : List (Nat × SV)}
    (hn : Nat.ble args.length n = true) (hsl : slotsO 0 args = some sl) (k : Nat) (hk : ob.length = k) (hop : ∀ ρ w, (execOp ρ o).run P w = .ok .recover w) (hg : o.guard = none) (hd : o.dst = some t) (ht : Nat.blt t n = true)
    (hU : (U = .ret ∧ s = .d (.v .nilIface) ∧ U' = .ret) ∨ (∃ d, U = .pan d false ∧ s = .d d ∧ U' = .pan d true)) (hQ : ∀ out ob', Q0 out ob' → (∃ s, out = .ret s) ∧ Q U' ob')
    (h : Runs P GL k (pnL k Q0) c (fin P GL k rs Q0) ⟨n, (t, s) :: sl, ob⟩) : TriDf P GL f ob args U Q := by
  subst hnt hk
  rw [← slotsO_eq hsl] at h
  intro g w vs u hs hdv hu
  refine callsD_of_wpS hf hb fun c₀ cs hc0 => ?_
  have hr := rel_begin (n := fn.ntmps) (by simpa using hn) hs hdv
  have key : ∀ (v : Value) (u' : FrameMode), s.Den g v → U'.Den g.m u' → ∀ cs', cs' = { c₀ with mode := u' } :: cs →
      wpOpsS P [o].toArray (Exit.thenS (c.wpS P (bodyPostS P fn c₀ cs (dfPost GL g w ob Q))) (bodyPostS P fn c₀ cs (dfPost GL g w ob Q))) [] (Act.put { tmps := (⟨vs⟩ : Array Value) ++ Array.replicate (fn.ntmps - (⟨vs⟩ : Array Value).size) undef, defers := [] } (some t) v) cs' w := by
    intro v u' hv hu' cs' e
    subst e
    have hr1 := hr.put (t := t) ht hv
    refine wpS_of_wp (wp_mono (wp_of_runs (B := ⟨g, w, blocksOf ob g, ob.length, []⟩) rfl hrs h ⟨g, hr1⟩) fun e a' w' hl => ?_)
    have post : ∀ e, triPost GL ⟨g, w, blocksOf ob g, ob.length, []⟩ Q0 e w' → (∃ v, e = .returned v) ∧ ∃ g' ob' U'', StoreOk GL ob' g' w' ∧ Stp ⟨g, w, blocksOf ob g, ob.length, []⟩ ob' g' w' ∧ ob.length ≤ ob'.length ∧ noIt ob' = true ∧ U''.Den g'.m u' ∧ Q U'' ob' := by
      rintro e ⟨g', ob', h1, h2, h3, h4, h5⟩
      cases e with
      | returned v =>
        obtain ⟨s, _, hq⟩ := h5
        exact ⟨⟨v, rfl⟩, g', ob', U', h1, h2, h3, h4, hu'.to fun d v hd => D.Den.mono h2.mem d hd, (hQ _ _ hq).2⟩
      | panicked c =>
        obtain ⟨v, s, _, _, hq⟩ := h5
        obtain ⟨⟨_, h6⟩, _⟩ := hQ _ _ hq
        cases h6
      | outgrown => exact h5.elim
    cases e with
    | normal => obtain ⟨h1, v, h2, h3⟩ := hl; exact ⟨h1, u', rfl, v, h2, post _ h3⟩
    | ret => obtain ⟨h1, v, h2, h3⟩ := hl; exact ⟨h1, u', rfl, v, h2, post _ h3⟩
    | panic c => obtain ⟨h1, h3⟩ := hl; obtain ⟨⟨_, h6⟩, _⟩ := post _ h3; cases h6
    | exit j => exact hl.elim
    | goto l => exact hl.elim
    | outgrown => obtain ⟨_, _, _, _, _, _, h6⟩ := hl; exact h6.elim
  apply wpS_seq
  apply wpS_region
  have hrange : List.range [o].toArray.size = [0] := rfl
  rw [hrange]
  unfold wpOpsS
  have ho : [o].toArray[0]? = some o := rfl
  simp only [ho, Region.wanted, hg, if_true, hop]
  rcases hU with ⟨rfl, rfl, rfl⟩ | ⟨d, rfl, rfl, rfl⟩
  · have hu0 : u = .returning := hu
    subst hu0
    have hrec : recoverD (c₀ :: cs) = none := by simp [recoverD, hc0]
    rw [hrec, hd]
    exact key _ .returning rfl rfl _ (by cases c₀; simp only at hc0; subst hc0; rfl)
  · obtain ⟨v, hv, rfl⟩ := hu
    have hrec : recoverD (c₀ :: cs) = some (v, { c₀ with mode := .panicking [{ v := v, recovered := true }] } :: cs) := by simp [recoverD, hc0]
    rw [hrec, hd]
    exact key v _ hv ⟨v, hv, rfl⟩ _ rfl

theorem triS_of_runsD {f : FuncId} {c : Code} {ob : List Ob} {args : List SV} {Q : Out → List Ob → Prop} (hf : P.funcs[f]? = some fn) (hb : fn.body = some c) {n : Nat} (hnt : fn.ntmps = n) {rs : List ResultVar} (hrs : fn.results.toList = rs) {sl : List (Nat × SV)}
    (hn : Nat.ble args.length n = true) (hsl : slotsO 0 args = some sl) (k : Nat) (hk : ob.length = k) (h : Runs P GL k ⟨(pnL k Q).pn, escD P GL fn Q⟩ c (fin P GL k rs Q) ⟨n, sl, ob⟩) : Tri P GL f ob args Q := by
  subst hnt hk hrs
  rw [← slotsO_eq hsl] at h
  intro g w vs hs hd
  refine calls_of_wp_defers hf hb ?_
  refine wp_mono (h ⟨g, w, blocksOf ob g, ob.length, []⟩ rfl _ w ⟨g, rel_begin (by simpa using hn) hs hd⟩) fun e a' w' hl => ?_
  have hfin : ∀ σ, Rel GL ⟨g, w, blocksOf ob g, ob.length, []⟩ σ a' w' → Fin P GL ob.length fn.results.toList Q σ → Leaves P fn a'.tmps (triPost GL ⟨g, w, blocksOf ob g, ob.length, []⟩ Q) a'.defers .returning w' := fun σ hr hk => by
    obtain ⟨v, h1, h2⟩ := fin_post (B := ⟨g, w, blocksOf ob g, ob.length, []⟩) rfl hr hk
    obtain ⟨_, hr⟩ := hr
    rw [hr.defers]
    exact ⟨v, h1, h2⟩
  cases e with
  | normal => obtain ⟨σ, hr', hk⟩ := hl; exact hfin σ hr' hk
  | ret =>
    rcases hl with ⟨ds, h1, h2⟩ | ⟨σ, hr', hk⟩
    · show Leaves _ _ _ _ _ _ _
      rw [h1, List.append_nil]; exact h2
    · exact hfin σ hr' hk
  | exit id => obtain ⟨σ, hr', hk⟩ := hl; exact hk.elim
  | goto l => obtain ⟨σ, hr', hk⟩ := hl; exact hk.elim
  | panic c =>
    rcases hl with ⟨ds, h1, h2⟩ | ⟨h0, hp⟩
    · show Leaves _ _ _ _ _ _ _
      rw [h1, List.append_nil]; exact h2
    · show Leaves _ _ _ _ _ _ _
      rw [h0]
      exact pan_post (B := ⟨g, w, blocksOf ob g, ob.length, []⟩) hp
  | outgrown => exact hl.elim
end
end Go.Vd
