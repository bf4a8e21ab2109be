/-
  What is proved here: an object whose cells are all data becomes data itself; panics; interfaces; over any program.
-/
import Derived.Test.YtneaancanfpdhaaGreatDoorY12
set_option linter.unusedSimpArgs false
set_option linter.unusedVariables false
namespace Go.Vd
open Go Go.RowKit

mutual
def SV.fz (i : Nat) (ds : List D) : SV → Option SV
  | .blk j off => cond (Nat.beq j i) ((dropO off ds).bind fun l => some (.d (.cp l))) (some (.blk j off))
  | .agg l => (fzL i ds l).bind fun l' => some (.agg l')
  | .tup l => (fzL i ds l).bind fun l' => some (.tup l')
  | .fn f a b => (fzL i ds a).bind fun a' => (fzL i ds b).bind fun b' => some (.fn f a' b')
  | .ifc T s => (s.fz i ds).bind fun s' => some (.ifc T s')
  | .d x => some (.d x)
  | .own j k ls => some (.own j k ls)
  | .map j => some (.map j)
  | .rp j => some (.rp j)
  | .junk => some .junk
def fzL (i : Nat) (ds : List D) : List SV → Option (List SV)
  | [] => some []
  | s :: r => (s.fz i ds).bind fun s' => (fzL i ds r).bind fun r' => some (s' :: r')
end
def fzSl (i : Nat) (ds : List D) : List (Nat × SV) → Option (List (Nat × SV))
  | [] => some []
  | (k, s) :: r => (s.fz i ds).bind fun s' => (fzSl i ds r).bind fun r' => some ((k, s') :: r')
def Ob.fz (i : Nat) (ds : List D) : Ob → Option Ob
  | .cells l ty => (fzL i ds l).bind fun l' => some (.cells l' ty)
  | .row e k => some (.row e k)
  | .nilrow e k => some (.nilrow e k)
  | .mapI f => some (.mapI f)
  | .itI j f dn cur => some (.itI j f dn cur)
  | .dead => some .dead
def fzOb (i : Nat) (ds : List D) : List Ob → Option (List Ob)
  | [] => some []
  | o :: r => (o.fz i ds).bind fun o' => (fzOb i ds r).bind fun r' => some (o' :: r')

/-- what is frozen at place i -/
structure Fz (i : Nat) (ds : List D) (g g' : Gh) : Prop where
  m : Mle g.m g'.m
  gs : ∀ (j : Nat) q, g.gs[j]? = some q → g'.gs[j]? = some q
  cp : ∀ b, g.gs[i]? = some (.loc b) → DenC g'.m b 0 ds
mutual
theorem SV.fz_den {i : Nat} {ds : List D} {g g' : Gh} (h : Fz i ds g g') : ∀ (s : SV) {s' : SV} {y : Value}, s.fz i ds = some s' → s.Den g y → s'.Den g' y
  | .blk j off, s', y, hr, hd => by
    obtain ⟨b, hb, e⟩ := hd
    simp only [SV.fz] at hr
    cases hj : Nat.beq j i with
    | false =>
      rw [hj] at hr
      simp only [cond_false, Option.some.injEq] at hr
      subst hr
      exact ⟨b, h.gs _ _ hb, e⟩
    | true =>
      rw [hj] at hr
      simp only [cond_true, Option.bind_eq_some_iff, Option.some.injEq] at hr
      obtain ⟨l, h1, rfl⟩ := hr
      have hji : j = i := by simpa using hj
      subst hji
      refine ⟨b, off, e, ?_⟩
      rw [← (dropO_eq h1).1]
      have := (h.cp b hb).drop off
      rwa [Nat.zero_add] at this
  | .agg l, s', y, hr, ⟨vs, e, hd⟩ => by
    simp only [SV.fz, Option.bind_eq_some_iff, Option.some.injEq] at hr
    obtain ⟨l', h1, rfl⟩ := hr
    exact ⟨vs, e, fzL_den h l h1 hd⟩
  | .tup l, s', y, hr, ⟨vs, e, hd⟩ => by
    simp only [SV.fz, Option.bind_eq_some_iff, Option.some.injEq] at hr
    obtain ⟨l', h1, rfl⟩ := hr
    exact ⟨vs, e, fzL_den h l h1 hd⟩
  | .fn f a b, s', y, hr, ⟨vs, us, e, d1, d2⟩ => by
    simp only [SV.fz, Option.bind_eq_some_iff, Option.some.injEq] at hr
    obtain ⟨a', h1, b', h2, rfl⟩ := hr
    exact ⟨vs, us, e, fzL_den h a h1 d1, fzL_den h b h2 d2⟩
  | .ifc T s, s', y, hr, ⟨x, e, hd⟩ => by
    simp only [SV.fz, Option.bind_eq_some_iff, Option.some.injEq] at hr
    obtain ⟨t, h1, rfl⟩ := hr
    exact ⟨x, e, SV.fz_den h s h1 hd⟩
  | .d x, s', y, hr, hd => by simp [SV.fz] at hr; subst hr; exact D.Den.mono h.m x hd
  | .own j k ls, s', y, hr, hd => by simp [SV.fz] at hr; subst hr; exact SV.Den.mono ⟨h.m, h.gs⟩ _ hd
  | .map j, s', y, hr, hd => by simp [SV.fz] at hr; subst hr; exact SV.Den.mono ⟨h.m, h.gs⟩ _ hd
  | .rp j, s', y, hr, hd => by simp [SV.fz] at hr; subst hr; exact SV.Den.mono ⟨h.m, h.gs⟩ _ hd
  | .junk, s', y, hr, hd => by simp [SV.fz] at hr; subst hr; trivial
theorem fzL_den {i : Nat} {ds : List D} {g g' : Gh} (h : Fz i ds g g') : ∀ (l : List SV) {l' : List SV} {vs : List Value}, fzL i ds l = some l' → SDenL g l vs → SDenL g' l' vs
  | [], l', vs, hr, hd => by simp [fzL] at hr; subst hr; exact hd
  | s :: r, l', vs, hr, ⟨x, v', e, h1, h2⟩ => by
    simp only [fzL, Option.bind_eq_some_iff, Option.some.injEq] at hr
    obtain ⟨s', hs, r', hr', rfl⟩ := hr
    exact ⟨x, v', e, SV.fz_den h s hs h1, fzL_den h r hr' h2⟩
end
theorem fzSl_den {i : Nat} {ds : List D} {g g' : Gh} (h : Fz i ds g g') : ∀ {l l' : List (Nat × SV)}, fzSl i ds l = some l' → ∀ {t : Nat} {y : Value}, (slk t l).Den g y → (slk t l').Den g' y
  | [], l', hr, t, y, hd => by simp [fzSl] at hr; subst hr; trivial
  | (k, s) :: r, l', hr, t, y, hd => by
    simp only [fzSl, Option.bind_eq_some_iff, Option.some.injEq] at hr
    obtain ⟨s', hs, r', hr', rfl⟩ := hr
    rw [slk_cons] at hd ⊢
    by_cases e : k = t
    · rw [if_pos e] at hd ⊢; exact SV.fz_den h s hs hd
    · rw [if_neg e] at hd ⊢; exact fzSl_den h hr' hd
theorem fzOb_get {i : Nat} {ds : List D} : ∀ {l l' : List Ob}, fzOb i ds l = some l' → l'.length = l.length ∧ ∀ (j : Nat) o', l'[j]? = some o' → ∃ o, l[j]? = some o ∧ o.fz i ds = some o'
  | [], l', h => by simp [fzOb] at h; subst h; simp
  | o :: r, l', h => by
    simp only [fzOb, Option.bind_eq_some_iff, Option.some.injEq] at h
    obtain ⟨a', h1, b', h2, rfl⟩ := h
    have ih := fzOb_get h2
    refine ⟨by simp [ih.1], fun j o' hj => ?_⟩
    cases j with
    | zero => simp at hj; subst hj; exact ⟨o, rfl, h1⟩
    | succ j => simpa using ih.2 j o' (by simpa using hj)
theorem Ob.fz_le {i : Nat} {ds : List D} {g g' : Gh} (h : Fz i ds g g') {o o' : Ob} (hr : o.fz i ds = some o') : ObLe g g' o o' ∧ (∀ j f dn cur, o' = .itI j f dn cur → o = o') ∧ (∀ f, o = .mapI f → o' = .mapI f) := by
  cases o <;> simp only [Ob.fz, Option.bind_eq_some_iff, Option.some.injEq] at hr
  case cells l ty =>
    obtain ⟨l', h1, rfl⟩ := hr
    exact ⟨⟨rfl, fun vs hd => fzL_den h l h1 hd⟩, (fun _ _ _ _ e => by cases e), (fun _ e => by cases e)⟩
  all_goals (subst hr; exact ⟨ObLe.refl ⟨h.m, h.gs⟩ _, (fun _ _ _ _ _ => rfl), (fun _ e => e)⟩)

section
variable {P : Program} {GL : Nat → List D} {n0 : Nat} {Pn : PnS}

theorem RelG.freeze1 {B : Bs} {n : Nat} {sl sl' : List (Nat × SV)} {ob ob1 : List Ob} {g : Gh} {a : Act} {w : World} (h : RelG GL B ⟨n, sl, ob⟩ g a w) {i : Nat} {cs : List SV} {ty : TypeId} {ds : List D} (ho : ob[i]? = some (.cells cs ty)) (hcs : toDL cs = some ds) (hone : allOneS cs = true)
    (hsl : fzSl i ds sl = some sl') (hob : fzOb i ds ob = some ob1) : ∃ g', RelG GL B ⟨n, sl', ob1.set i .dead⟩ g' a w := by
  obtain ⟨pl, hpl⟩ := h.store.place ho
  have hok := h.store.obs _ _ _ ho hpl
  cases pl with
  | row b c k => exact hok.elim
  | loc b =>
    obtain ⟨vs, hh, hd, hmn⟩ := hok
    have hdd := SDenL.toD _ hd hcs
    have hone' := allOneS_den hone hd
    have hmle : Mle g.m (mset g.m b vs) := Mle.set fun o x hx => by rw [hmn] at hx; cases hx
    have hF : Fz i ds g ⟨mset g.m b vs, g.gs⟩ := ⟨hmle, fun _ _ h => h, fun c hc => by
      rw [hpl] at hc; cases hc
      refine DenC.of_vals (DenL.mono hmle _ hdd) fun j x hx => ?_
      show mset _ _ _ _ _ = _
      unfold mset; rw [if_pos rfl, Nat.zero_add]; exact hx⟩
    have hget := fzOb_get hob
    have hil := (List.getElem?_eq_some_iff.1 ho).1
    have hlen := h.store.len
    have hneb : ∀ (j : Nat) oj pj c, j ≠ i → ob[j]? = some oj → g.gs[j]? = some pj → blkOf oj pj = some c → c ≠ b := fun j oj pj c hj h1 h2 h3 e => by
      subst e; exact hj (h.store.disj j i oj _ pj _ c h1 ho h2 hpl h3 rfl)
    have hbl : b < w.heap.size := (Array.getElem?_eq_some_iff.1 hh).1
    refine ⟨⟨mset g.m b vs, g.gs⟩, h.defers, h.size, fun t => fzSl_den hF hsl (h.slots t), ?_, ?_⟩
    · refine h.store.step (p := fun j => j = i) hmle (fun _ _ h => h) (fun _ _ _ h => h) (fun c off x hx => ?_) (by simp [hget.1, hlen]) (fun j o1 hj h1 => ?_) (fun j k f dn cur h1 => ?_) (fun j k f dn cur hj h1 hk => ?_)
        (fun j o1 q c hj h1 h2 h3 => ⟨rfl, fun off hn => ?_⟩) (fun j o1 hj h1 => ?_) (fun j o1 q c hj h1 h2 h3 => ?_) (fun i j oi oj pi pj b hi hj _ _ _ _ _ _ => hi.trans hj.symm)
      · simp only [mset] at hx
        by_cases hcb : c = b
        · subst hcb
          rw [if_pos rfl] at hx
          refine ⟨?_, hone' x (List.mem_of_getElem? hx)⟩
          simp only [World.cell?, hh]
          simpa using hx
        · rw [if_neg hcb] at hx; exact h.store.sat c off x hx
      · rw [List.getElem?_set_ne (Ne.symm hj)] at h1
        obtain ⟨o, e1, e2⟩ := hget.2 j o1 h1
        exact ⟨o, e1, (Ob.fz_le hF e2).1⟩
      · by_cases hj : j = i
        · subst hj
          rw [List.getElem?_set_self (by rw [hget.1]; exact hil)] at h1; cases h1
        · rw [List.getElem?_set_ne (Ne.symm hj)] at h1
          obtain ⟨o, e1, e2⟩ := hget.2 j _ h1
          have e3 := (Ob.fz_le hF e2).2.1 _ _ _ _ rfl
          subst e3
          have e4 := h.store.its j k f dn cur e1
          have hk : k ≠ i := fun e => by subst e; rw [ho] at e4; cases e4
          rw [List.getElem?_set_ne (Ne.symm hk)]
          have hkl := (List.getElem?_eq_some_iff.1 e4).1
          obtain ⟨o5, e5, e6⟩ := hget.2 k ob1[k] (by simp [hget.1, hkl])
          rw [e4] at e5; cases e5
          rw [List.getElem?_eq_getElem (by rw [hget.1]; exact hkl), (Ob.fz_le hF e6).2.2 f rfl]
      · rw [List.getElem?_set_ne (Ne.symm hj)] at h1
        obtain ⟨o, e1, e2⟩ := hget.2 j _ h1
        have e3 := (Ob.fz_le hF e2).2.1 _ _ _ _ rfl
        subst e3 hk
        have e4 := h.store.its j k f dn cur e1
        rw [ho] at e4; cases e4
      · show mset _ _ _ _ _ = _
        unfold mset; rw [if_neg (hneb j o1 q c hj h1 h2 h3)]; exact hn
      · subst hj
        rw [List.getElem?_set_self (by rw [hget.1]; exact hil)] at h1; cases h1
        exact ⟨_, hpl, trivial⟩
      · subst hj
        rw [List.getElem?_set_self (by rw [hget.1]; exact hil)] at h1; cases h1
        simp [blkOf] at h3
    · refine h.stp.step (X := fun c => c = b) (Fr.refl _ w) (fun c e => by subst e; exact h.stp.own i _ _ c ho hpl rfl) hmle (fun c off x hx hn => ?_) (fun j o1 p c h1 h2 h3 => ?_) (fun _ _ h => h)
      · simp only [mset] at hx
        by_cases hcb : c = b
        · exact .inl hcb
        · rw [if_neg hcb, hn] at hx; cases hx
      · by_cases hj : j = i
        · subst hj
          rw [List.getElem?_set_self (by rw [hget.1]; exact hil)] at h1; cases h1
          simp [blkOf] at h3
        · rw [List.getElem?_set_ne (Ne.symm hj)] at h1
          obtain ⟨o, e1, e2⟩ := hget.2 j o1 h1
          refine .inl (h.stp.own j o p c e1 h2 ?_)
          cases o <;> simp only [Ob.fz, Option.bind_eq_some_iff, Option.some.injEq] at e2
          case cells l ty => obtain ⟨l', _, rfl⟩ := e2; cases p <;> exact h3
          all_goals (subst e2; exact h3)

theorem ops_freeze {ops l : List Oper} {Q : Ex → St → Prop} {n : Nat} {sl sl' : List (Nat × SV)} {ob ob1 ob' : List Ob} (i : Nat) {cs : List SV} {ty : TypeId} {ds : List D} (ho : nthO i ob = some (.cells cs ty)) (hcs : toDL cs = some ds) (hone : allOneS cs = true) (hsl : fzSl i ds sl = some sl') (hob : fzOb i ds ob = some ob1) (hob' : set1 i .dead ob1 = some ob')
    (h : OpsR P GL n0 Pn ops l Q ⟨n, sl', ob'⟩) : OpsR P GL n0 Pn ops l Q ⟨n, sl, ob⟩ := fun B hB a w ⟨g, hr⟩ => by
  obtain ⟨g', hr'⟩ := hr.freeze1 (nthO_eq ho) hcs hone hsl hob
  rw [← (set1_eq hob').1] at hr'
  exact h B hB a w ⟨g', hr'⟩
theorem runs_freeze {c : Code} {Q : Ex → St → Prop} {n : Nat} {sl sl' : List (Nat × SV)} {ob ob1 ob' : List Ob} (i : Nat) {cs : List SV} {ty : TypeId} {ds : List D} (ho : nthO i ob = some (.cells cs ty)) (hcs : toDL cs = some ds) (hone : allOneS cs = true) (hsl : fzSl i ds sl = some sl') (hob : fzOb i ds ob = some ob1) (hob' : set1 i .dead ob1 = some ob')
    (h : Runs P GL n0 Pn c Q ⟨n, sl', ob'⟩) : Runs P GL n0 Pn c Q ⟨n, sl, ob⟩ := fun B hB a w ⟨g, hr⟩ => by
  obtain ⟨g', hr'⟩ := hr.freeze1 (nthO_eq ho) hcs hone hsl hob
  rw [← (set1_eq hob').1] at hr'
  exact h B hB a w ⟨g', hr'⟩

/-! interfaces and panics -/
def isConc (P : Program) (T : TypeId) : Bool := match P.underlying T with
  | some (.interface _) => false
  | some _ => true
  | none => false
theorem run_iface {T : TypeId} (h : isConc P T = true) (x : Value) (w : World) : (Instr.makeInterface T x).run P w = .ok (.iface T x) w := by
  unfold isConc at h
  cases hu : P.underlying T with
  | none => rw [hu] at h; cases h
  | some td =>
    rw [hu] at h
    cases td <;> first
      | (cases h; done)
      | simp only [Instr.makeInterface, Sem.run_bind, run_underlying hu, Result.andThen_ok, Sem.run_pure]
theorem fl_iface_d {o : Oper} {σ : St} {K : SV → List Nat → Prop} {T : TypeId} {x : Operand} {d : D} (hc : isConc P T = true) (ho : o.op = .makeInterface T x) (hx : evO GL σ.sl x = some (.d d)) (hK : K (.d (.ifc T d)) []) : FloatR P GL o σ K := fl_of fun B g a w hr =>
  ⟨.d (.ifc T d), .iface T (a.eval x), fun w' => by simp only [execOp, ho, Sem.run_bind, run_iface hc, Result.andThen_ok, Sem.run_pure], ⟨_, rfl, hr.evo hx⟩, hK⟩
theorem f_iface_d {o : Oper} {σ : St} {K : SV → List Nat → Prop} {T : TypeId} {x : Operand} {d : D} (hK : K (.d (.ifc T d)) []) (ho : o.op = .makeInterface T x := by exact rfl) (hx : evO GL σ.sl x = some (.d d) := by exact rfl) (hc : isConc P T = true := by kernel_rfl) : FloatR P GL o σ K := fl_iface_d hc ho hx hK
theorem fl_iface {o : Oper} {σ : St} {K : SV → List Nat → Prop} {T : TypeId} {x : Operand} {s : SV} (hc : isConc P T = true) (ho : o.op = .makeInterface T x) (hx : evO GL σ.sl x = some s) (hK : K (.ifc T s) []) : FloatR P GL o σ K := fl_of fun B g a w hr =>
  ⟨.ifc T s, .iface T (a.eval x), fun w' => by simp only [execOp, ho, Sem.run_bind, run_iface hc, Result.andThen_ok, Sem.run_pure], ⟨_, rfl, hr.evo hx⟩, hK⟩
theorem f_iface {o : Oper} {σ : St} {K : SV → List Nat → Prop} {T : TypeId} {x : Operand} {s : SV} (hK : K (.ifc T s) []) (ho : o.op = .makeInterface T x := by exact rfl) (hx : evO GL σ.sl x = some s := by exact rfl) (hc : isConc P T = true := by kernel_rfl) : FloatR P GL o σ K := fl_iface hc ho hx hK
theorem leave_d {Q : SV → List Ob → Prop} {d : D} {ob : List Ob} (ρ : List Nat) (ob' : List Ob) (hp : pre 0 n0 ρ = true) (hnd : nodupB ρ = true) (hno : noIt ob' = true) (hob : ObFits ob ρ ob' ρ) (hq : Q (.d d) ob') : Leave n0 Q (.d d) ob :=
  ⟨ρ, .d d, ob', .d d, hp, hnd, hno, hob, rfl, .refl _, hq⟩
theorem op_panic {o : Oper} {n : Nat} {sl : List (Nat × SV)} {ob : List Ob} {K : St → Prop} {T : Nat → Prop} {x : Operand} {U : TypeId} {d : D} (ho : o.op = .panic x) (hx : evO GL sl x = some (.d (.ifc U d))) (h : Pn.pn (.d (.ifc U d)) sl ob) : OpR P GL n0 Pn T o ⟨n, sl, ob⟩ K := fun B hB g a w hr next Q hK hP => by
  have hd := hr.evo hx
  obtain ⟨y, hy, hdy⟩ := hd
  have hrun : (execOp a.eval o).run P w = .halt (.panic (.iface U y)) w := by
    simp only [execOp, ho, hy, Instr.panic]
    rfl
  unfold Oper.wp
  rw [hrun, Oper.upon_panic]
  refine hP _ _ ⟨g, sl, ob, .iface U y, .d (.ifc U d), rfl, hr.store, hr.stp, ⟨y, rfl, hdy⟩, hr.slots, h⟩
theorem o_panic {o : Oper} {n : Nat} {sl : List (Nat × SV)} {ob : List Ob} {K : St → Prop} {T : Nat → Prop} {x : Operand} {U : TypeId} {d : D} (h : Pn.pn (.d (.ifc U d)) sl ob) (ho : o.op = .panic x := by exact rfl) (hx : evO GL sl x = some (.d (.ifc U d)) := by exact rfl) : OpR P GL n0 Pn T o ⟨n, sl, ob⟩ K := op_panic ho hx h
end
end Go.Vd
