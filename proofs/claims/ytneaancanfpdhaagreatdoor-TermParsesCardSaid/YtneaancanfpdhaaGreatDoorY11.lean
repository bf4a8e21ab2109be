/-
  What is proved here: rules for tests that end early, for contracts of data alone, and for ends; over any program.
-/
import Derived.Test.YtneaancanfpdhaaGreatDoorY10
namespace Go.Vd
open Go Go.RowKit

section
variable {P : Program} {GL : Nat → List D} {n0 : Nat} {Pn : PnS}

theorem ops_gyes {ops rest : List Oper} {o : Oper} {Q : Ex → St → Prop} {n : Nat} {sl : List (Nat × SV)} {ob : List Ob} {j d : Nat} {want b : Bool} (hg : o.guard = some (j, want)) (hd : dstOf ops j = some d) (hb : slo d sl = some (.d (.v (.bool b)))) (hbw : b = want)
    (h : OpsR P GL n0 Pn ops ({ o with guard := none } :: rest) Q ⟨n, sl, ob⟩) : OpsR P GL n0 Pn ops (o :: rest) Q ⟨n, sl, ob⟩ := by
  subst hbw; exact ops_guard_yes hg hd hb h
theorem gye {ops rest : List Oper} {o : Oper} {Q : Ex → St → Prop} {n : Nat} {sl : List (Nat × SV)} {ob : List Ob} {j d : Nat} {want b : Bool} (h : OpsR P GL n0 Pn ops ({ o with guard := none } :: rest) Q ⟨n, sl, ob⟩) (hg : o.guard = some (j, want) := by exact rfl) (hd : dstOf ops j = some d := by exact rfl) (hb : slo d sl = some (.d (.v (.bool b))) := by exact rfl) (hbw : b = want := by omega) : OpsR P GL n0 Pn ops (o :: rest) Q ⟨n, sl, ob⟩ := ops_gyes hg hd hb hbw h
theorem ops_gno {ops rest : List Oper} {o : Oper} {Q : Ex → St → Prop} {n : Nat} {sl : List (Nat × SV)} {ob : List Ob} {j d t : Nat} {want b : Bool} (hg : o.guard = some (j, want)) (hd : dstOf ops j = some d) (hb : slo d sl = some (.d (.v (.bool b)))) (hbw : b = !want) (hdst : o.dst = some t) (ht : Nat.blt t n = true)
    (h : OpsR P GL n0 Pn ops rest Q ⟨n, (t, .d (.v undef)) :: sl, ob⟩) : OpsR P GL n0 Pn ops (o :: rest) Q ⟨n, sl, ob⟩ := by
  subst hbw; exact ops_guard_no hg hd hb hdst ht h

theorem gno {ops rest : List Oper} {o : Oper} {Q : Ex → St → Prop} {n : Nat} {sl : List (Nat × SV)} {ob : List Ob} {j d t : Nat} {want b : Bool} (h : OpsR P GL n0 Pn ops rest Q ⟨n, (t, .d (.v undef)) :: sl, ob⟩) (hg : o.guard = some (j, want) := by exact rfl) (hd : dstOf ops j = some d := by exact rfl) (hdst : o.dst = some t := by exact rfl) (hb : slo d sl = some (.d (.v (.bool b))) := by exact rfl) (ht : Nat.blt t n = true := by exact rfl) (hbw : b = !want := by omega) : OpsR P GL n0 Pn ops (o :: rest) Q ⟨n, sl, ob⟩ := ops_gno hg hd hb hbw hdst ht h
theorem ops_set {ops l : List Oper} {Q : Ex → St → Prop} {n : Nat} {sl : List (Nat × SV)} {ob : List Ob} (d : Nat) (v : Bool) {b : Bool} (hb : slo d sl = some (.d (.v (.bool b)))) (hv : b = v)
    (h : OpsR P GL n0 Pn ops l Q ⟨n, (d, .d (.v (.bool v))) :: sl, ob⟩) : OpsR P GL n0 Pn ops l Q ⟨n, sl, ob⟩ := by
  subst hv
  cases b with
  | true => exact ops_split d hb (fun _ => h) (fun e => by cases e)
  | false => exact ops_split d hb (fun e => by cases e) (fun _ => h)

inductive GOk (ops : List Oper) (sl : List (Nat × SV)) (o : Oper) : Prop
  | none (h : o.guard = none)
  | yes {j d : Nat} {want b : Bool} (hg : o.guard = some (j, want)) (hd : dstOf ops j = some d) (hb : slo d sl = some (.d (.v (.bool b)))) (hbw : b = want)

def hasK (t : Nat) : List (Nat × SV) → Bool
  | [] => false
  | (k, _) :: r => cond (Nat.beq k t) true (hasK t r)
def disjB : List (Nat × SV) → List (Nat × SV) → Bool
  | [], _ => true
  | (k, _) :: r, sl => cond (hasK k sl) false (disjB r sl)
theorem hasK_slo {t : Nat} : ∀ {sl : List (Nat × SV)}, hasK t sl = false → slo t sl = none
  | [], _ => rfl
  | (k, s) :: r, h => by
    simp only [hasK] at h
    show cond (Nat.beq k t) (some s) (slo t r) = none
    cases hb : Nat.beq k t <;> rw [hb] at h
    · exact hasK_slo h
    · cases h
theorem slo_disj {t : Nat} {s : SV} : ∀ {nw sl : List (Nat × SV)}, disjB nw sl = true → slo t sl = some s → slo t (nw ++ sl) = some s
  | [], sl, _, h => h
  | (k, x) :: r, sl, hd, h => by
    simp only [disjB] at hd
    cases hk : hasK k sl <;> rw [hk] at hd
    · show cond (Nat.beq k t) (some x) (slo t (r ++ sl)) = some s
      cases hb : Nat.beq k t
      · exact slo_disj hd h
      · have e : k = t := by simpa using hb
        subst e
        rw [hasK_slo hk] at h; cases h
    · cases hd
theorem slk_slo {t : Nat} : ∀ {sl : List (Nat × SV)}, slk t sl = (slo t sl).getD .junk
  | [] => rfl
  | (k, x) :: r => by
    show cond (Nat.beq k t) x (slk t r) = (cond (Nat.beq k t) (some x) (slo t r)).getD .junk
    cases Nat.beq k t
    · exact slk_slo
    · rfl
theorem slo_app {t : Nat} {s : SV} : ∀ {nw sl : List (Nat × SV)}, slo t nw = some s → slo t (nw ++ sl) = some s
  | [], sl, h => by cases h
  | (k, x) :: r, sl, h => by
    change cond (Nat.beq k t) (some x) (slo t r) = some s at h
    show cond (Nat.beq k t) (some x) (slo t (r ++ sl)) = some s
    cases hb : Nat.beq k t <;> rw [hb] at h
    · exact slo_app h
    · exact h

theorem opsR_less {ops l : List Oper} {Q : Ex → St → Prop} {n t : Nat} {s : SV} {nw sl : List (Nat × SV)} {ob : List Ob} (hd : disjB nw sl = true) (h : OpsR P GL n0 Pn ops l Q ⟨n, (t, s) :: sl, ob⟩) : OpsR P GL n0 Pn ops l Q ⟨n, (t, s) :: (nw ++ sl), ob⟩ := fun B hB a w ⟨g, hr⟩ =>
  h B hB a w ⟨g, hr.defers, hr.size, fun u => by
    have h1 := hr.slots u
    show (slk u ((t, s) :: sl)).Den g _
    rw [slk_cons] at h1 ⊢
    split
    · rename_i e; rw [if_pos e] at h1; exact h1
    · rename_i e
      rw [if_neg e] at h1
      rw [slk_slo] at h1 ⊢
      cases hs : slo u sl with
      | none => trivial
      | some x => rw [slo_disj hd hs] at h1; exact h1, hr.store, hr.stp⟩

theorem gok_run {ops rest : List Oper} {o : Oper} {Q : Ex → St → Prop} {n : Nat} {nw sl : List (Nat × SV)} {ob : List Ob} (hg : GOk ops sl o) (hd : disjB nw sl = true) (h : OpsR P GL n0 Pn ops ({ o with guard := none } :: rest) Q ⟨n, nw ++ sl, ob⟩) : OpsR P GL n0 Pn ops (o :: rest) Q ⟨n, nw ++ sl, ob⟩ := by
  cases hg with
  | none h1 =>
    have : ({ o with guard := none } : Oper) = o := by cases o; simp only at h1; subst h1; rfl
    rwa [this] at h
  | yes h1 h2 h3 h4 => exact ops_gyes h1 h2 (slo_disj hd h3) h4 h

/-- x && y -/
theorem ops_and {ops l rest : List Oper} {o : Oper} {Q : Ex → St → Prop} {n t d : Nat} {yt : Nat} {sl : List (Nat × SV)} {ob : List Ob} {b p : Bool} (k : Nat) (hl : dropO k l = some (o :: rest)) (hb : slo d sl = some (.d (.v (.bool b)))) (ho : o.op = .pick (.tmp d) (.tmp yt) (.const (.bool false))) (hg : GOk ops sl o) (hd : o.dst = some t) (ht : Nat.blt t n = true)
    (h1 : b = true → (∀ nw, disjB nw sl = true → slo yt nw = some (.d (.v (.bool p))) → OpsR P GL n0 Pn ops (o :: rest) Q ⟨n, nw ++ sl, ob⟩) → OpsR P GL n0 Pn ops l Q ⟨n, sl, ob⟩)
    (h2 : b = false → (∀ nw, disjB nw sl = true → OpsR P GL n0 Pn ops (o :: rest) Q ⟨n, nw ++ sl, ob⟩) → OpsR P GL n0 Pn ops l Q ⟨n, sl, ob⟩)
    (h : OpsR P GL n0 Pn ops rest Q ⟨n, (t, .d (.v (.bool (b && p)))) :: sl, ob⟩) : OpsR P GL n0 Pn ops l Q ⟨n, sl, ob⟩ := by
  cases hbb : b with
  | true =>
    subst hbb
    refine h1 rfl fun nw hdj hy => gok_run hg hdj (ops_fl rfl hd ht (fl_pick_t ho (slo_disj hdj hb) (slo_app hy) ?_))
    exact opsR_less hdj (by simpa using h)
  | false =>
    subst hbb
    refine h2 rfl fun nw hdj => gok_run hg hdj (ops_fl rfl hd ht (fl_pick_f ho (slo_disj hdj hb) rfl ?_))
    exact opsR_less hdj (by simpa using h)
/-- x || y -/
theorem ops_or {ops l rest : List Oper} {o : Oper} {Q : Ex → St → Prop} {n t d : Nat} {yt : Nat} {sl : List (Nat × SV)} {ob : List Ob} {b p : Bool} (k : Nat) (hl : dropO k l = some (o :: rest)) (hb : slo d sl = some (.d (.v (.bool b)))) (ho : o.op = .pick (.tmp d) (.const (.bool true)) (.tmp yt)) (hg : GOk ops sl o) (hd : o.dst = some t) (ht : Nat.blt t n = true)
    (h1 : b = false → (∀ nw, disjB nw sl = true → slo yt nw = some (.d (.v (.bool p))) → OpsR P GL n0 Pn ops (o :: rest) Q ⟨n, nw ++ sl, ob⟩) → OpsR P GL n0 Pn ops l Q ⟨n, sl, ob⟩)
    (h2 : b = true → (∀ nw, disjB nw sl = true → OpsR P GL n0 Pn ops (o :: rest) Q ⟨n, nw ++ sl, ob⟩) → OpsR P GL n0 Pn ops l Q ⟨n, sl, ob⟩)
    (h : OpsR P GL n0 Pn ops rest Q ⟨n, (t, .d (.v (.bool (b || p)))) :: sl, ob⟩) : OpsR P GL n0 Pn ops l Q ⟨n, sl, ob⟩ := by
  cases hbb : b with
  | false =>
    subst hbb
    refine h1 rfl fun nw hdj hy => gok_run hg hdj (ops_fl rfl hd ht (fl_pick_f ho (slo_disj hdj hb) (slo_app hy) ?_))
    exact opsR_less hdj (by simpa using h)
  | true =>
    subst hbb
    refine h2 rfl fun nw hdj => gok_run hg hdj (ops_fl rfl hd ht (fl_pick_t ho (slo_disj hdj hb) rfl ?_))
    exact opsR_less hdj (by simpa using h)

theorem toNat_add1 (i : Nat) : ((i : Int) + 1).toNat = i + 1 := by omega
/-! contracts of data alone -/
def PostD (Q : D → Prop) (out : Out) (ob' : List Ob) : Prop := ob' = [] ∧ ∃ d, out = .ret (.d d) ∧ Q d
def TriD (P : Program) (GL : Nat → List D) (f : FuncId) (args : List D) (Q : D → Prop) : Prop := Tri P GL f [] (args.map .d) (PostD Q)
theorem op_call {o : Oper} {n t : Nat} {sl : List (Nat × SV)} {ob : List Ob} {K : St → Prop} {T : Nat → Prop} {f : FuncId} {args : Array Operand} {ts : Array TypeId} {argsc : List D} {svs : List SV} {Q : D → Prop} (hc : callable P f = true) (ho : o.op = .call { callee := .value (.func f), args := args, argTypes := ts })
    (ha : evL GL sl args.toList = some svs) (hdst : o.dst = some t) (htn : Nat.blt t n = true) (ht : TriD P GL f argsc Q) (hfa : FitL ob svs (argsc.map .d)) (hret : ∀ d, Q d → K ⟨n, (t, .d d) :: sl, ob⟩) : OpR P GL n0 Pn T o ⟨n, sl, ob⟩ K :=
  op_call_d (run_call_f hc ho ha) hfa ht fun d hq => ⟨fun t' e => by rw [hdst] at e; cases e; exact ⟨htn, hret d hq⟩, fun e => by rw [hdst] at e; cases e⟩
theorem TriD.eq {f : FuncId} {args : List D} {d : D} (h : TriD P GL f args (· = d)) : TriD P GL f args (· = d) := h

/-- a call by a contract of objects too -/
theorem op_callo {o : Oper} {n t : Nat} {sl : List (Nat × SV)} {ob : List Ob} {K : St → Prop} {f : FuncId} {args : Array Operand} {ts : Array TypeId} {obc : List Ob} {argsc svs m : List SV} {Q : Out → List Ob → Prop} (hc : callable P f = true) (ho : o.op = .call { callee := .value (.func f), args := args, argTypes := ts })
    (ha : evL GL sl args.toList = some svs) (hdst : o.dst = some t) (htn : Nat.blt t n = true) (ht : Tri P GL f obc argsc Q) (ix : List Nat) (hfit : ObFits ob ix obc ix) (hnd : nodupB ix = true) (hno : noIt obc = true) (hit : noItOns ix ob = true) (hra : renL ix argsc = some m) (hfa : FitL ob svs m)
    (hret : ∀ s ob', Q (.ret s) ob' → ∃ obr ob1 obn sl1 s', renOb (names ix ob.length (ob'.length - ix.length)) ob' = some obr ∧ kObL ix ob = some ob1 ∧ mergeO ix ob1 obr = some obn ∧ kSlL ix sl = some sl1 ∧ s.ren (names ix ob.length (ob'.length - ix.length)) = some s' ∧ K ⟨n, (t, s') :: sl1, obn⟩)
    (hpan : ∀ s ob', Q (.pan s) ob' → ∃ obr ob1 obn sl1 s', renOb (names ix ob.length (ob'.length - ix.length)) ob' = some obr ∧ kObL ix ob = some ob1 ∧ mergeO ix ob1 obr = some obn ∧ kSlL ix sl = some sl1 ∧ s.ren (names ix ob.length (ob'.length - ix.length)) = some s' ∧ Pn.pn s' sl1 obn) : OpR P GL n0 Pn (· ∈ ix) o ⟨n, sl, ob⟩ K :=
  op_call_of ht ix (run_call_f hc ho ha) hfit hnd hno (noItOns_get hit) hra hfa (fun s ob' hq => by
    obtain ⟨obr, ob1, obn, sl1, s', e1, e2, e3, e4, e5, e6⟩ := hret s ob' hq
    exact ⟨obr, ob1, obn, sl1, s', e1, e2, e3, e4, e5, fun t' e => by rw [hdst] at e; cases e; exact ⟨htn, e6⟩, fun e => by rw [hdst] at e; cases e⟩) hpan
theorem op_callo0 {o : Oper} {n : Nat} {sl : List (Nat × SV)} {ob : List Ob} {K : St → Prop} {f : FuncId} {args : Array Operand} {ts : Array TypeId} {obc : List Ob} {argsc svs m : List SV} {Q : Out → List Ob → Prop} (hc : callable P f = true) (ho : o.op = .call { callee := .value (.func f), args := args, argTypes := ts })
    (ha : evL GL sl args.toList = some svs) (hdst : o.dst = none) (ht : Tri P GL f obc argsc Q) (ix : List Nat) (hfit : ObFits ob ix obc ix) (hnd : nodupB ix = true) (hno : noIt obc = true) (hit : noItOns ix ob = true) (hra : renL ix argsc = some m) (hfa : FitL ob svs m)
    (hret : ∀ s ob', Q (.ret s) ob' → ∃ obr ob1 obn sl1 s', renOb (names ix ob.length (ob'.length - ix.length)) ob' = some obr ∧ kObL ix ob = some ob1 ∧ mergeO ix ob1 obr = some obn ∧ kSlL ix sl = some sl1 ∧ s.ren (names ix ob.length (ob'.length - ix.length)) = some s' ∧ K ⟨n, sl1, obn⟩)
    (hpan : ∀ s ob', Q (.pan s) ob' → ∃ obr ob1 obn sl1 s', renOb (names ix ob.length (ob'.length - ix.length)) ob' = some obr ∧ kObL ix ob = some ob1 ∧ mergeO ix ob1 obr = some obn ∧ kSlL ix sl = some sl1 ∧ s.ren (names ix ob.length (ob'.length - ix.length)) = some s' ∧ Pn.pn s' sl1 obn) : OpR P GL n0 Pn (· ∈ ix) o ⟨n, sl, ob⟩ K :=
  op_call_of ht ix (run_call_f hc ho ha) hfit hnd hno (noItOns_get hit) hra hfa (fun s ob' hq => by
    obtain ⟨obr, ob1, obn, sl1, s', e1, e2, e3, e4, e5, e6⟩ := hret s ob' hq
    refine ⟨obr, ob1, obn, sl1, s', e1, e2, e3, e4, e5, ?_, fun _ => e6⟩
    intro t' e; rw [hdst] at e; cases e) hpan
theorem fin_o {rs : List ResultVar} {Q : Out → List Ob → Prop} {σ : St} {l : List SV} (h : fromRess GL P σ rs l) (ρ : List Nat) (s' : SV) (ob' : List Ob) {t : SV} (hp : pre 0 n0 ρ = true) (hnd : nodupB ρ = true) (hno : noIt ob' = true) (hob : ObFits σ.ob ρ ob' ρ) (hren : SV.ren ρ s' = some t) (hf : Fit σ.ob (retSV l) t) (hq : Q (.ret s') ob') : Fin P GL n0 rs Q σ :=
  ⟨l, h, ρ, s', ob', t, hp, hnd, hno, hob, hren, hf, hq⟩

theorem fin_od {rs : List ResultVar} {Q : Out → List Ob → Prop} {σ : St} {l : List SV} {d : D} (h : fromRess GL P σ rs l) (hd : (retSV l).toD = some d) (ρ : List Nat) (ob' : List Ob) (hp : pre 0 n0 ρ = true) (hnd : nodupB ρ = true) (hno : noIt ob' = true) (hob : ObFits σ.ob ρ ob' ρ) (hq : Q (.ret (.d d)) ob') : Fin P GL n0 rs Q σ :=
  ⟨l, h, ρ, .d d, ob', .d d, hp, hnd, hno, hob, rfl, .toD hd, hq⟩
theorem fin_odl {rs : List ResultVar} {Q : Out → List Ob → Prop} {σ : St} {l : List SV} {d : D} (h : fromRess GL P σ rs l) (hd : (retSV l).toD = some d) (d' : D) (hl : DLe d d') (ρ : List Nat) (ob' : List Ob) (hp : pre 0 n0 ρ = true) (hnd : nodupB ρ = true) (hno : noIt ob' = true) (hob : ObFits σ.ob ρ ob' ρ) (hq : Q (.ret (.d d')) ob') : Fin P GL n0 rs Q σ :=
  ⟨l, h, ρ, .d d', ob', .d d', hp, hnd, hno, hob, rfl, .dle hd hl, hq⟩
/-- a nil row of one's own is had at any time -/
theorem runs_nilrow {c : Code} {Q : Ex → St → Prop} {n : Nat} {sl : List (Nat × SV)} {ob ob' : List Ob} (e : TypeId) (k : Nat) (hob : appO ob [.nilrow e k] = some ob') (h : Runs P GL n0 Pn c Q ⟨n, sl, ob'⟩) : Runs P GL n0 Pn c Q ⟨n, sl, ob⟩ := fun B hB a w ⟨g, hr⟩ => by
  rw [appO_eq hob] at h
  obtain ⟨h1, _⟩ := hr.new1 (w' := w) (Fr.refl _ w) (Mle.refl _) (fun b o x h1 h2 => by rw [h2] at h1; cases h1) (o' := .nilrow e k) (pl := .row none 0 0) rfl (fun b hb => by simp [blkOf] at hb) (fun i f dn cur e => by cases e)
  exact h B hB a w ⟨_, h1⟩

def slotsO : Nat → List SV → Option (List (Nat × SV))
  | _, [] => some []
  | k, s :: r => (slotsO (k + 1) r).bind fun l => some ((k, s) :: l)
theorem slotsO_eq : ∀ {k : Nat} {l : List SV} {r : List (Nat × SV)}, slotsO k l = some r → slots k l = r
  | k, [], r, h => by simp [slotsO] at h; subst h; rfl
  | k, s :: l, r, h => by
    simp only [slotsO, Option.bind_eq_some_iff, Option.some.injEq] at h
    obtain ⟨r', h1, rfl⟩ := h
    simp [slots, slotsO_eq h1]
theorem triS_of_runs {f : FuncId} {fn : Func} {c : Code} {ob : List Ob} {args : List SV} {Q : Out → List Ob → Prop} (hf : P.funcs[f]? = some fn) (hb : fn.body = some c) {n : Nat} (hnt : fn.ntmps = n) {rs : List ResultVar} (hrs : fn.results.toList = rs) {sl : List (Nat × SV)}
    (hn : Nat.ble args.length n = true) (hsl : slotsO 0 args = some sl) (k : Nat) (hk : ob.length = k) (h : Runs P GL k (pnL k Q) c (fin P GL k rs Q) ⟨n, sl, ob⟩) : Tri P GL f ob args Q := by
  subst hk
  exact tri_of_runs hf hb hnt hrs (by simpa using hn) (by rw [slotsO_eq hsl]; exact h)
theorem triD_of_runs {f : FuncId} {fn : Func} {c : Code} {args : List D} {Q : D → Prop} (hf : P.funcs[f]? = some fn) (hb : fn.body = some c) {n : Nat} (hnt : fn.ntmps = n) {rs : List ResultVar} (hrs : fn.results.toList = rs) {sl : List (Nat × SV)}
    (hn : Nat.ble args.length n = true) (hsl : slotsO 0 (args.map .d) = some sl) (h : Runs P GL 0 ⟨fun _ _ _ => False, fun _ _ _ _ => False⟩ c (fin P GL 0 rs (PostD Q)) ⟨n, sl, []⟩) : TriD P GL f args Q := by
  refine tri_of_runs hf hb hnt hrs (by simpa using hn) ?_
  rw [slotsO_eq hsl]
  refine fun B hB a w hr => wp_mono (h B hB a w hr) fun e a w hl => ?_
  cases e with
  | panic c =>
    rcases hl with hl | ⟨_, _, _, _, _, _, _, _, _, _, _, hf⟩
    · exact hl.elim
    · exact hf.elim
  | normal => exact hl
  | exit id => exact hl
  | goto l => exact hl
  | ret => exact hl
  | outgrown => exact hl.elim

theorem fin_d {rs : List ResultVar} {Q : D → Prop} {σ : St} {l : List SV} {d : D} (h : fromRess GL P σ rs l) (hd : (retSV l).toD = some d) (hq : Q d) : Fin P GL 0 rs (PostD Q) σ :=
  ⟨l, h, [], .d d, [], .d d, rfl, rfl, rfl, .nil, rfl, .toD hd, rfl, d, rfl, hq⟩
theorem fin_d1 {t : Nat} {Q : D → Prop} {σ : St} {s : SV} {d : D} (h : slo t σ.sl = some s) (hd : s.toD = some d) (hq : Q d) : Fin P GL 0 [.tmp t] (PostD Q) σ :=
  fin_d (l := [s]) ⟨s, [], rfl, h, rfl⟩ hd hq
theorem fin_d2 {t u : Nat} {Q : D → Prop} {σ : St} {s s' : SV} {d : D} (h : slo t σ.sl = some s) (h' : slo u σ.sl = some s') (hd : (SV.tup [s, s']).toD = some d) (hq : Q d) : Fin P GL 0 [.tmp t, .tmp u] (PostD Q) σ :=
  fin_d (l := [s, s']) ⟨s, _, rfl, h, s', [], rfl, h', rfl⟩ hd hq
theorem fin_d3 {t u v : Nat} {Q : D → Prop} {σ : St} {s s' s'' : SV} {d : D} (h : slo t σ.sl = some s) (h' : slo u σ.sl = some s') (h'' : slo v σ.sl = some s'') (hd : (SV.tup [s, s', s'']).toD = some d) (hq : Q d) : Fin P GL 0 [.tmp t, .tmp u, .tmp v] (PostD Q) σ :=
  fin_d (l := [s, s', s'']) ⟨s, _, rfl, h, s', _, rfl, h', s'', [], rfl, h'', rfl⟩ hd hq
theorem fin_dl {rs : List ResultVar} {Q : D → Prop} {σ : St} {l : List SV} {d : D} (h : fromRess GL P σ rs l) (hd : (retSV l).toD = some d) (d' : D) (hl : DLe d d') (hq : Q d') : Fin P GL 0 rs (PostD Q) σ :=
  ⟨l, h, [], .d d', [], .d d', rfl, rfl, rfl, .nil, rfl, .dle hd hl, rfl, d', rfl, hq⟩
theorem from_cell {σ : St} {x T : Nat} {i off : Nat} {l l1 cs : List SV} {ty : TypeId} {ti : TI} {s : SV} (h1 : slo x σ.sl = some (.blk i off)) (h2 : nthO i σ.ob = some (.cells l ty)) (h3 : tiOf P T = ti) (h4 : ti.ok = true) (h5 : dropO off l = some l1) (h6 : takeO ti.size l1 = some cs) (h7 : fromO ti.agg cs = some s) : fromRes GL P σ (.cell x T) s :=
  ⟨i, off, l, ty, l1, cs, ti, h1, h2, h3, h4, h5, h6, h7⟩

theorem FitL.rfl {ob : List Ob} : ∀ l : List SV, FitL ob l l
  | [] => .nil
  | s :: r => .cons (.refl s) (FitL.rfl r)
theorem Fit.of_eq {ob : List Ob} {s t : SV} (h : s = t) : Fit ob s t := h ▸ .refl s
def idl : Nat → Nat → List Nat
  | _, 0 => []
  | k, n + 1 => k :: idl (k + 1) n
/-- the state at a loop's head: what turns, and what stays -/
theorem runs_loop_c {c : Code} {Q : Ex → St → Prop} {n : Nat} {sl csl : List (Nat × SV)} {ob : List Ob} {ι : Type} (ov : ι → List (Nat × SV)) (cs : List Nat) (Inv : ι → Prop) (m : ι → Nat) (i0 : ι) (hk : keepO sl cs = some csl) (hI : Inv i0)
    (hm : Meets n0 ⟨n, sl, ob⟩ ⟨n, ov i0 ++ csl, ob⟩ (idl 0 ob.length))
    (h : ∀ i, Inv i → Runs P GL n0 Pn c (Ex.seq (fun σ' => Back n0 (fun i => ⟨n, ov i ++ csl, ob⟩) (fun j => Inv j ∧ m j < m i) σ') Q) ⟨n, ov i ++ csl, ob⟩) : Runs P GL n0 Pn (.loop c) Q ⟨n, sl, ob⟩ :=
  runs_loop (fun i => ⟨n, ov i ++ csl, ob⟩) Inv m ⟨i0, _, hI, hm⟩ h
/-- the same, the objects turning too -/
theorem runs_loop_o {c : Code} {Q : Ex → St → Prop} {n : Nat} {sl csl : List (Nat × SV)} {ob : List Ob} {ι : Type} (ov : ι → List (Nat × SV)) (obi : ι → List Ob) (cs : List Nat) (Inv : ι → Prop) (m : ι → Nat) (i0 : ι) (ρ : List Nat) (hk : keepO sl cs = some csl) (hI : Inv i0)
    (hm : Meets n0 ⟨n, sl, ob⟩ ⟨n, ov i0 ++ csl, obi i0⟩ ρ)
    (h : ∀ i, Inv i → Runs P GL n0 Pn c (Ex.seq (fun σ' => Back n0 (fun i => ⟨n, ov i ++ csl, obi i⟩) (fun j => Inv j ∧ m j < m i) σ') Q) ⟨n, ov i ++ csl, obi i⟩) : Runs P GL n0 Pn (.loop c) Q ⟨n, sl, ob⟩ :=
  runs_loop (fun i => ⟨n, ov i ++ csl, obi i⟩) Inv m ⟨i0, _, hI, hm⟩ h
theorem meets_of {n : Nat} {sl sl' : List (Nat × SV)} {ob ob' : List Ob} {ρ : List Nat} (hp : pre 0 n0 ρ = true) (hnd : nodupB ρ = true) (hno : noIt ob' = true) (hob : ObFits ob ρ ob' ρ) (hsl : SlFit ob ρ sl sl') : Meets n0 ⟨n, sl, ob⟩ ⟨n, sl', ob'⟩ ρ :=
  ⟨rfl, hp, hnd, fun j k f dn cur hj => absurd hj (noIt_get hno j k f dn cur), hob, hsl⟩
theorem back_i {ι : Type} {n : Nat} {S : ι → St} {sl sl' : List (Nat × SV)} {ob ob' : List Ob} {I : ι → Prop} (i : ι) (hS : S i = ⟨n, sl', ob'⟩) (hI : I i) (hm : Meets n0 ⟨n, sl, ob⟩ ⟨n, sl', ob'⟩ (idl 0 ob'.length)) : Back n0 S I ⟨n, sl, ob⟩ :=
  ⟨i, _, hI, hS ▸ hm⟩
/-- the ways through a test meet again -/
theorem runs_cutK {c1 c2 : Code} {Q : Ex → St → Prop} {σ : St} {ι : Type} (S : ι → St) (Inv : ι → Prop) (h1 : Runs P GL n0 Pn c1 (Ex.seq (fun σ' => Back n0 S Inv σ') Q) σ) (h2 : ∀ i, Inv i → Runs P GL n0 Pn c2 Q (S i)) : Runs P GL n0 Pn c1 (Ex.seq (fun σ' => Runs P GL n0 Pn c2 Q σ') Q) σ :=
  fun B hB a w hr => wp_mono (h1 B hB a w hr) fun e a' w' hl => by
    cases e with
    | normal =>
      obtain ⟨σ', hr', j, ρ, hj, hj2⟩ := hl
      exact ⟨_, hj2.rel hB hr', h2 j hj⟩
    | exit id => exact hl
    | goto l => exact hl
    | ret => exact hl
    | panic c => exact hl
    | outgrown => exact hl
theorem runs_cut_c {c1 c2 : Code} {Q : Ex → St → Prop} {n : Nat} {sl csl : List (Nat × SV)} {ob : List Ob} {ι : Type} (ov : ι → List (Nat × SV)) (cs : List Nat) (Inv : ι → Prop) (hk : keepO sl cs = some csl)
    (h1 : Runs P GL n0 Pn c1 (Ex.seq (fun σ' => Back n0 (fun i => ⟨n, ov i ++ csl, ob⟩) Inv σ') Q) ⟨n, sl, ob⟩) (h2 : ∀ i, Inv i → Runs P GL n0 Pn c2 Q ⟨n, ov i ++ csl, ob⟩) : Runs P GL n0 Pn c1 (Ex.seq (fun σ' => Runs P GL n0 Pn c2 Q σ') Q) ⟨n, sl, ob⟩ :=
  runs_cutK (fun i => ⟨n, ov i ++ csl, ob⟩) Inv h1 h2
theorem runs_cut_o {c1 c2 : Code} {Q : Ex → St → Prop} {n : Nat} {sl csl : List (Nat × SV)} {ob : List Ob} {ι : Type} (ov : ι → List (Nat × SV)) (obi : ι → List Ob) (cs : List Nat) (Inv : ι → Prop) (hk : keepO sl cs = some csl)
    (h1 : Runs P GL n0 Pn c1 (Ex.seq (fun σ' => Back n0 (fun i => ⟨n, ov i ++ csl, obi i⟩) Inv σ') Q) ⟨n, sl, ob⟩) (h2 : ∀ i, Inv i → Runs P GL n0 Pn c2 Q ⟨n, ov i ++ csl, obi i⟩) : Runs P GL n0 Pn c1 (Ex.seq (fun σ' => Runs P GL n0 Pn c2 Q σ') Q) ⟨n, sl, ob⟩ :=
  runs_cutK (fun i => ⟨n, ov i ++ csl, obi i⟩) Inv h1 h2
theorem back_c {ι : Type} {n : Nat} {S : ι → St} {sl sl' : List (Nat × SV)} {ob ob' : List Ob} {I : ι → Prop} (i : ι) (hS : S i = ⟨n, sl', ob'⟩) (hI : I i) (ρ : List Nat) (hm : Meets n0 ⟨n, sl, ob⟩ ⟨n, sl', ob'⟩ ρ) : Back n0 S I ⟨n, sl, ob⟩ :=
  ⟨i, ρ, hI, hS ▸ hm⟩
end
end Go.Vd
