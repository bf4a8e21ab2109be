/-
  What is proved here: rules for closures, for pointers and interfaces held against nil, and for what strings.Builder does; over any program.
-/
import Derived.Test.YtneaancanfpdhaaGreatDoorY11
import Derived.LaidEqlPtr
import Derived.Laws.Externs
import Derived.Lib.Builder
import Derived.Lib.UnsafeStr
set_option linter.unusedSimpArgs false
set_option linter.unusedVariables false
namespace Go.Vd
open Go Go.RowKit

section
variable {P : Program} {GL : Nat → List D} {o : Oper} {σ : St} {K : SV → List Nat → Prop}

/-! functions as values -/
theorem fl_func {fn : Fn} {first caps : Array Operand} {l m : List SV} (ho : o.op = .makeFunc fn first caps) (h1 : evL GL σ.sl first.toList = some l) (h2 : evL GL σ.sl caps.toList = some m) (hK : K (.fn fn l m) []) : FloatR P GL o σ K := fl_of fun B g a w hr => by
  refine ⟨.fn fn l m, .func fn ⟨first.toList.map a.eval⟩ ⟨caps.toList.map a.eval⟩, fun w' => ?_, ⟨_, _, rfl, evL_den hr h1, evL_den hr h2⟩, hK⟩
  have e : ∀ x : Array Operand, x.map a.eval = ⟨x.toList.map a.eval⟩ := fun x => by apply Array.ext'; simp
  simp only [execOp, ho, Instr.makeFunc, e, Sem.run_bind, Sem.run_pure, Result.andThen_ok]

theorem f_func {fn : Fn} {first caps : Array Operand} {l m : List SV} (hK : K (.fn fn l m) []) (ho : o.op = .makeFunc fn first caps := by exact rfl) (h1 : evL GL σ.sl first.toList = some l := by exact rfl) (h2 : evL GL σ.sl caps.toList = some m := by exact rfl) : FloatR P GL o σ K := fl_func ho h1 h2 hK
def isIfc (P : Program) (T : TypeId) : Bool := match P.underlying T with
  | some (.interface _) => true
  | _ => false
theorem isIfc_ex {T : TypeId} (h : isIfc P T = true) : ∃ ms, P.underlying T = some (.interface ms) := by
  unfold isIfc at h
  split at h
  · exact ⟨_, by assumption⟩
  · cases h
/-! pointers against nil -/
theorem run_eq_pnil {T e : TypeId} (hp : P.underlying T = some (.pointer e)) (p : Option Addr) (w : World) : (Op.equal T (.pointer p) (.pointer none)).run P w = .ok p.isNone w := by
  have h : ∀ d : Nat, (Op.equalIn (d + 1) T (.pointer p) (.pointer none)).run P w = .ok p.isNone w := fun d => by
    cases p <;> simp [Op.equalIn, run_underlying hp]
  simp [Op.equal, Op.maxDepth, h 9999]
theorem fl_p_of {op : BinOp} {T T' : TypeId} {x : Operand} {s : SV} {b : Bool} {p : Option Addr → Prop} (ho : o.op = .binOp op T x (.const (.pointer none)) T') (hx : evO GL σ.sl x = some s) (hop : op = .eql ∨ op = .neq) (hs : ∀ g y, s.Den g y → ∃ q, y = .pointer q ∧ q.isNone = b) {e : TypeId} (hp : P.underlying T = some (.pointer e)) (hK : K (.d (.v (.bool (if op = .eql then b else !b)))) []) : FloatR P GL o σ K := fl_of fun B g a w hr => by
  obtain ⟨q, hq, hb⟩ := hs _ _ (hr.evo hx)
  refine ⟨.d (.v (.bool (if op = .eql then b else !b))), _, fun w' => ?_, rfl, hK⟩
  have he := run_eq_pnil hp q w'
  have hc : a.eval (.const (.pointer none)) = .pointer none := rfl
  rcases hop with rfl | rfl
  · simp only [execOp, ho, Sem.run_bind, hq, hc, run_eqGuard_plain (P := P) (show (Value.pointer q).oneCell' = true from rfl) (show ¬ (Value.pointer q = .nilIface ∧ Value.pointer none = .nilIface) by simp)]
    simp only [Result.andThen_ok, binOp, Sem.run_bind, he, Sem.run_pure, hb, if_true]
  · simp only [execOp, ho, Sem.run_bind, hq, hc, run_eqGuard_plain (P := P) (show (Value.pointer q).oneCell' = true from rfl) (show ¬ (Value.pointer q = .nilIface ∧ Value.pointer none = .nilIface) by simp)]
    simp only [Result.andThen_ok, binOp, Sem.run_bind, he, Sem.run_pure, hb]
    rfl
theorem fl_peql_nil {T T' e : TypeId} {x : Operand} (hp : P.underlying T = some (.pointer e)) (ho : o.op = .binOp .eql T x (.const (.pointer none)) T') (hx : evO GL σ.sl x = some (.d (.v (.pointer none)))) (hK : K (.d (.v (.bool true))) []) : FloatR P GL o σ K :=
  fl_p_of (b := true) (p := fun _ => True) ho hx (.inl rfl) (fun g y hd => ⟨none, hd, rfl⟩) hp hK
theorem f_peql_nil {T T' e : TypeId} {x : Operand} (hp : P.underlying T = some (.pointer e)) (hK : K (.d (.v (.bool true))) []) (ho : o.op = .binOp .eql T x (.const (.pointer none)) T' := by exact rfl) (hx : evO GL σ.sl x = some (.d (.v (.pointer none))) := by exact rfl) : FloatR P GL o σ K := fl_peql_nil hp ho hx hK
theorem fl_pneq_nil {T T' e : TypeId} {x : Operand} (hp : P.underlying T = some (.pointer e)) (ho : o.op = .binOp .neq T x (.const (.pointer none)) T') (hx : evO GL σ.sl x = some (.d (.v (.pointer none)))) (hK : K (.d (.v (.bool false))) []) : FloatR P GL o σ K :=
  fl_p_of (b := true) (p := fun _ => True) ho hx (.inr rfl) (fun g y hd => ⟨none, hd, rfl⟩) hp hK
theorem fl_peql_blk {T T' e : TypeId} {x : Operand} {i off : Nat} (hp : P.underlying T = some (.pointer e)) (ho : o.op = .binOp .eql T x (.const (.pointer none)) T') (hx : evO GL σ.sl x = some (.blk i off)) (hK : K (.d (.v (.bool false))) []) : FloatR P GL o σ K :=
  fl_p_of (b := false) (p := fun _ => True) ho hx (.inl rfl) (fun g y hd => by obtain ⟨b, _, e⟩ := hd; exact ⟨_, e, rfl⟩) hp hK
theorem f_peql_blk {T T' e : TypeId} {x : Operand} {i off : Nat} (hp : P.underlying T = some (.pointer e)) (hK : K (.d (.v (.bool false))) []) (ho : o.op = .binOp .eql T x (.const (.pointer none)) T' := by exact rfl) (hx : evO GL σ.sl x = some (.blk i off) := by exact rfl) : FloatR P GL o σ K := fl_peql_blk hp ho hx hK
theorem fl_pneq_blk {T T' e : TypeId} {x : Operand} {i off : Nat} (hp : P.underlying T = some (.pointer e)) (ho : o.op = .binOp .neq T x (.const (.pointer none)) T') (hx : evO GL σ.sl x = some (.blk i off)) (hK : K (.d (.v (.bool true))) []) : FloatR P GL o σ K :=
  fl_p_of (b := false) (p := fun _ => True) ho hx (.inr rfl) (fun g y hd => by obtain ⟨b, _, e⟩ := hd; exact ⟨_, e, rfl⟩) hp hK
theorem fl_peql_cp {T T' e : TypeId} {x : Operand} {l : List D} (hp : P.underlying T = some (.pointer e)) (ho : o.op = .binOp .eql T x (.const (.pointer none)) T') (hx : evO GL σ.sl x = some (.d (.cp l))) (hK : K (.d (.v (.bool false))) []) : FloatR P GL o σ K :=
  fl_p_of (b := false) (p := fun _ => True) ho hx (.inl rfl) (fun g y hd => by obtain ⟨b, off, e, _⟩ := hd; exact ⟨_, e, rfl⟩) hp hK
theorem f_peql_cp {T T' e : TypeId} {x : Operand} {l : List D} (hp : P.underlying T = some (.pointer e)) (hK : K (.d (.v (.bool false))) []) (ho : o.op = .binOp .eql T x (.const (.pointer none)) T' := by exact rfl) (hx : evO GL σ.sl x = some (.d (.cp l)) := by exact rfl) : FloatR P GL o σ K := fl_peql_cp hp ho hx hK
theorem fl_pneq_cp {T T' e : TypeId} {x : Operand} {l : List D} (hp : P.underlying T = some (.pointer e)) (ho : o.op = .binOp .neq T x (.const (.pointer none)) T') (hx : evO GL σ.sl x = some (.d (.cp l))) (hK : K (.d (.v (.bool true))) []) : FloatR P GL o σ K :=
  fl_p_of (b := false) (p := fun _ => True) ho hx (.inr rfl) (fun g y hd => by obtain ⟨b, off, e, _⟩ := hd; exact ⟨_, e, rfl⟩) hp hK
/-- a pointer against itself -/
theorem fl_pneq_self {T T' e : TypeId} {x y : Operand} {i off : Nat} {ti : TI} (hp : P.underlying T = some (.pointer e)) (hT : tiOf P e = ti) (hok : ti.ok = true) (ho : o.op = .binOp .neq T x y T') (hx : evO GL σ.sl x = some (.blk i off)) (hy : evO GL σ.sl y = some (.blk i off)) (hK : K (.d (.v (.bool false))) []) : FloatR P GL o σ K := fl_of fun B g a w hr => by
  subst hT
  obtain ⟨b, hb, h1⟩ := hr.evo hx
  obtain ⟨b', hb', h2⟩ := hr.evo hy
  rw [hb] at hb'; cases hb'
  obtain ⟨j, d, hi, hd, _⟩ := ti_ok hok
  refine ⟨.d (.v (.bool false)), .bool false, fun w' => ?_, rfl, hK⟩
  simp only [execOp, ho, Sem.run_bind, h1, h2, run_eqGuard_plain (P := P) (show (Value.pointer (some ⟨b, off, none⟩)).oneCell' = true from rfl) (show ¬ (Value.pointer (some ⟨b, off, none⟩) = .nilIface ∧ Value.pointer (some ⟨b, off, none⟩) = .nilIface) by simp)]
  simp only [Result.andThen_ok, Lib.run_neq_ptr_same w' _ hp hi, Sem.run_pure]

theorem f_pneq_self {T T' e : TypeId} {x y : Operand} {i off : Nat} {ti : TI} (hp : P.underlying T = some (.pointer e)) (hT : tiOf P e = ti) (hK : K (.d (.v (.bool false))) []) (ho : o.op = .binOp .neq T x y T' := by exact rfl) (hx : evO GL σ.sl x = some (.blk i off) := by exact rfl) (hy : evO GL σ.sl y = some (.blk i off) := by exact rfl) (hok : ti.ok = true := by exact rfl) : FloatR P GL o σ K := fl_pneq_self hp hT hok ho hx hy hK
def or8 (m n : Int) : Int := IntKind.wrap .u8 (BitVec.ofInt 8 m ||| BitVec.ofInt 8 n).toNat
theorem fl_or8 {T T' : TypeId} {x y : Operand} {m n : Int} (ho : o.op = .binOp .or T x y T') (hx : evO GL σ.sl x = some (.d (.v (.int .u8 m)))) (hy : evO GL σ.sl y = some (.d (.v (.int .u8 n)))) (hK : K (.d (.v (.int .u8 (or8 m n)))) []) : FloatR P GL o σ K :=
  fl_bin ho hx hy rfl (by simp) (fun w => by simp only [binOp, Op.intBits, ne_eq, not_true_eq_false, if_false]; rfl) hK

theorem f_or8 {T T' : TypeId} {x y : Operand} {m n : Int} (hK : K (.d (.v (.int .u8 (or8 m n)))) []) (ho : o.op = .binOp .or T x y T' := by exact rfl) (hx : evO GL σ.sl x = some (.d (.v (.int .u8 m))) := by exact rfl) (hy : evO GL σ.sl y = some (.d (.v (.int .u8 n))) := by exact rfl) : FloatR P GL o σ K := fl_or8 ho hx hy hK
/-! an element of an array -/
theorem fl_index_arr {T e : TypeId} {x i : Operand} {k len : Nat} {l l' : List D} {j : Int} {kd : IntKind} {ti : TI} (hu : P.underlying T = some (.array len e)) (hT : tiOf P e = ti) (hok : ti.ok = true) (hs : ti.size = k) (ho : o.op = .indexAddr T x i)
    (hx : evO GL σ.sl x = some (.d (.cp l))) (hi : evO GL σ.sl i = some (.d (.v (.int kd j)))) (h0 : 0 ≤ j ∧ j < len) (hl : dropO (j.toNat * k) l = some l') (hK : K (.d (.cp l')) []) : FloatR P GL o σ K := fl_of fun B g a w hr => by
  obtain ⟨b, off, h1, hd⟩ := hr.evo hx
  have h2 : a.eval i = .int kd j := hr.evo hi
  rw [← hT] at hok
  obtain ⟨inf, d, hi', hd', hs', _⟩ := ti_ok hok
  refine ⟨.d (.cp l'), .pointer (some ⟨b, off + j.toNat * k, none⟩), fun w' => ?_, ⟨b, _, rfl, ?_⟩, hK⟩
  · rw [hT, hs] at hs'
    simp [execOp, ho, h1, h2, Instr.indexAt, Instr.sureAddr, run_underlying hu, asIntOf, h0, sizeOf, typeInfo, hi', ← hs', addr_add]
  · rw [← (dropO_eq hl).1]; exact hd.drop _
theorem f_index_arr {T e : TypeId} {x i : Operand} {k len : Nat} {l l' : List D} {j : Int} {kd : IntKind} {ti : TI} (hu : P.underlying T = some (.array len e)) (hT : tiOf P e = ti) (hK : K (.d (.cp l')) []) (ho : o.op = .indexAddr T x i := by exact rfl) (hx : evO GL σ.sl x = some (.d (.cp l)) := by exact rfl) (hi : evO GL σ.sl i = some (.d (.v (.int kd j))) := by exact rfl) (hok : ti.ok = true := by exact rfl) (hs : ti.size = k := by exact rfl) (h0 : 0 ≤ j ∧ j < len := by omega) (hl : dropO (j.toNat * k) l = some l' := by omega) : FloatR P GL o σ K := fl_index_arr hu hT hok hs ho hx hi h0 hl hK
end

section
variable {P : Program} {GL : Nat → List D} {n0 : Nat} {Pn : PnS}

/-- an operation that looks, and more than at cells -/
theorem opr_look {o : Oper} {n t : Nat} {sl : List (Nat × SV)} {ob : List Ob} {K : St → Prop} {T : Nat → Prop} (hd : o.dst = some t) (ht : Nat.blt t n = true)
    (h : ∀ B g a w, RelG GL B ⟨n, sl, ob⟩ g a w → ∃ s y, (execOp a.eval o).run P w = .ok (.value y) w ∧ s.Den g y ∧ K ⟨n, (t, s) :: sl, ob⟩) : OpR P GL n0 Pn T o ⟨n, sl, ob⟩ K := fun B hB g a w hr next Q hK hP => by
  obtain ⟨s, y, h1, h2, h3⟩ := h B g a w hr
  unfold Oper.wp
  rw [h1]
  show next (a.put o.dst y) w
  rw [hd]
  exact hK _ _ _ _ (hr.put' ht h2) (Keep.refl _ _ _ _) h3

/-- a pointer to unsafe.Pointer -/
theorem op_to_unsafe {o : Oper} {n t i : Nat} {sl : List (Nat × SV)} {ob : List Ob} {K : St → Prop} {T : Nat → Prop} {src dst u ty : TypeId} {x : Operand} {c : SV} {l : List SV} {ti : TI} (hs : P.underlying src = some (.pointer u)) (hdd : P.underlying dst = some .unsafePointer) (hT : tiOf P u = ti) (hok : ti.ok = true) (hsz : Nat.beq ti.size 0 = false)
    (ho : o.op = .convert src dst x) (hd : o.dst = some t) (ht : Nat.blt t n = true) (hx : evO GL sl x = some (.blk i 0)) (hi : nthO i ob = some (.cells (c :: l) ty)) (h : K ⟨n, (t, .blk i 0) :: sl, ob⟩) : OpR P GL n0 Pn T o ⟨n, sl, ob⟩ K :=
  opr_look hd ht fun B g a w hr => by
    subst hT
    obtain ⟨b, hb, h1⟩ := hr.evo hx
    obtain ⟨vs, hh, hdl, _⟩ := hr.store.obs i _ _ (nthO_eq hi) hb
    obtain ⟨j, d, hj, _, hjs, _⟩ := ti_ok hok
    have hl := hdl.length
    refine ⟨.blk i 0, .pointer (some ⟨b, 0, none⟩), ?_, ⟨b, hb, rfl⟩, h⟩
    have hrun := Lib.run_to_unsafe (P := P) w ⟨b, 0, none⟩ hs hdd hj (by intro e; rw [hjs, e] at hsz; cases hsz) (e := ty) (cells := vs.length) (by simp [World.shape?, hh]) (by simp at hl; show 0 < _; omega)
    simp only [execOp, ho, h1, Sem.run_bind, hrun, Result.andThen_ok, Sem.run_pure]
/-- .. and back -/
theorem op_from_unsafe {o : Oper} {n t i : Nat} {sl : List (Nat × SV)} {ob : List Ob} {K : St → Prop} {T : Nat → Prop} {src dst u ty : TypeId} {x : Operand} {l : List SV} {ti : TI} {k : Nat} (hs : P.underlying src = some .unsafePointer) (hdd : P.underlying dst = some (.pointer u)) (hT : tiOf P u = ti) (hok : ti.ok = true)
    (hlies : liesAt P P.depth ty (k / P.cellsOf ty) 0 u 1 = true) (ho : o.op = .convert src dst x) (hd : o.dst = some t) (ht : Nat.blt t n = true) (hx : evO GL sl x = some (.blk i 0)) (hi : nthO i ob = some (.cells l ty)) (hk : l.length = k) (h : K ⟨n, (t, .blk i 0) :: sl, ob⟩) : OpR P GL n0 Pn T o ⟨n, sl, ob⟩ K :=
  opr_look hd ht fun B g a w hr => by
    subst hT
    obtain ⟨b, hb, h1⟩ := hr.evo hx
    obtain ⟨vs, hh, hdl, _⟩ := hr.store.obs i _ _ (nthO_eq hi) hb
    obtain ⟨j, d, hj, _, hjs, _⟩ := ti_ok hok
    have hl := hdl.length
    refine ⟨.blk i 0, .pointer (some ⟨b, 0, none⟩), ?_, ⟨b, hb, rfl⟩, h⟩
    have hrun := Lib.run_from_unsafe (P := P) w ⟨b, 0, none⟩ hs hdd hj (e := ty) (cells := vs.length) (by simp [World.shape?, hh]) (by rw [hl, hk]; exact hlies)
    simp only [execOp, ho, h1, Sem.run_bind, hrun, Result.andThen_ok, Sem.run_pure]
/-- a function of the machine's own that hands back what it is given -/
theorem op_same {o : Oper} {n t : Nat} {sl : List (Nat × SV)} {ob : List Ob} {K : St → Prop} {T : Nat → Prop} {f : FuncId} {x : Operand} {ts : Array TypeId} {s : SV} (hf : ∀ y w, (callFunc f #[y]).run P w = .ok (.value y) w) (ho : o.op = .call { callee := .value (.func f), args := #[x], argTypes := ts })
    (hd : o.dst = some t) (ht : Nat.blt t n = true) (hx : evO GL sl x = some s) (h : K ⟨n, (t, s) :: sl, ob⟩) : OpR P GL n0 Pn T o ⟨n, sl, ob⟩ K :=
  opr_look hd ht fun B g a w hr => by
    refine ⟨s, a.eval x, ?_, hr.evo hx, h⟩
    have hrun : (execOp a.eval o).run P w = (callFunc f #[a.eval x]).run P w := by
      simp only [execOp, ho, resolve, show a.eval (.func f) = .func (.func f) #[] #[] from rfl, Deferred.ofValue, Sem.run_bind, Sem.run_pure, Result.andThen_ok, invoke]
      congr 2
      simp
    rw [hrun, hf]

/-! calls of closures -/
def isFn : Operand → Bool
  | .func _ => true
  | _ => false
theorem isFn_no {x : Operand} (h : isFn x = false) : ∀ f, x ≠ .func f := fun f e => by subst e; cases h
theorem op_callc {o : Oper} {n t : Nat} {sl : List (Nat × SV)} {ob : List Ob} {K : St → Prop} {f : FuncId} {x : Operand} {args : Array Operand} {ts : Array TypeId} {obc : List Ob} {argsc first caps svs svs1 svs2 m : List SV} {Q : Out → List Ob → Prop} (hc : callable P f = true) (hnf : isFn x = false) (ho : o.op = .call { callee := .value x, args := args, argTypes := ts })
    (hx : evO GL sl x = some (.fn (.func f) first caps)) (ha : evL GL sl args.toList = some svs) (h1 : appO first svs = some svs1) (h2 : appO svs1 caps = some svs2) (hdst : o.dst = some t) (htn : Nat.blt t n = true) (ht : Tri P GL f obc argsc Q) (ix : List Nat) (hfit : ObFits ob ix obc ix) (hnd : nodupB ix = true) (hno : noIt obc = true) (hit : noItOns ix ob = true) (hra : renL ix argsc = some m) (hfa : FitL ob svs2 m)
    (hret : ∀ s ob', Q (.ret s) ob' → ∃ obr ob1 obn sl1 s', renOb (names ix ob.length (ob'.length - ix.length)) ob' = some obr ∧ kObL ix ob = some ob1 ∧ mergeO ix ob1 obr = some obn ∧ kSlL ix sl = some sl1 ∧ s.ren (names ix ob.length (ob'.length - ix.length)) = some s' ∧ K ⟨n, (t, s') :: sl1, obn⟩)
    (hpan : ∀ s ob', Q (.pan s) ob' → ∃ obr ob1 obn sl1 s', renOb (names ix ob.length (ob'.length - ix.length)) ob' = some obr ∧ kObL ix ob = some ob1 ∧ mergeO ix ob1 obr = some obn ∧ kSlL ix sl = some sl1 ∧ s.ren (names ix ob.length (ob'.length - ix.length)) = some s' ∧ Pn.pn s' sl1 obn) : OpR P GL n0 Pn (· ∈ ix) o ⟨n, sl, ob⟩ K :=
  op_call_of ht ix (run_call_c hc (isFn_no hnf) ho hx ha h1 h2) hfit hnd hno (noItOns_get hit) hra hfa (fun s ob' hq => by
    obtain ⟨obr, ob1, obn, sl1, s', e1, e2, e3, e4, e5, e6⟩ := hret s ob' hq
    exact ⟨obr, ob1, obn, sl1, s', e1, e2, e3, e4, e5, fun t' e => by rw [hdst] at e; cases e; exact ⟨htn, e6⟩, fun e => by rw [hdst] at e; cases e⟩) hpan

/-- .. by a contract of data alone -/
theorem op_callcd {o : Oper} {n t : Nat} {sl : List (Nat × SV)} {ob : List Ob} {K : St → Prop} {T : Nat → Prop} {f : FuncId} {x : Operand} {args : Array Operand} {ts : Array TypeId} {argsc : List D} {first caps svs svs1 svs2 : List SV} {Q : D → Prop} (hc : callable P f = true) (hnf : isFn x = false) (ho : o.op = .call { callee := .value x, args := args, argTypes := ts })
    (hx : evO GL sl x = some (.fn (.func f) first caps)) (ha : evL GL sl args.toList = some svs) (h1 : appO first svs = some svs1) (h2 : appO svs1 caps = some svs2) (hdst : o.dst = some t) (htn : Nat.blt t n = true) (ht : TriD P GL f argsc Q) (hfa : FitL ob svs2 (argsc.map .d)) (hret : ∀ d, Q d → K ⟨n, (t, .d d) :: sl, ob⟩) : OpR P GL n0 Pn T o ⟨n, sl, ob⟩ K :=
  op_call_d (run_call_c hc (isFn_no hnf) ho hx ha h1 h2) hfa ht fun d hq => ⟨fun t' e => by rw [hdst] at e; cases e; exact ⟨htn, hret d hq⟩, fun e => by rw [hdst] at e; cases e⟩
/-- the same where the function is named: '.func f' in a slot -/
theorem op_callfd {o : Oper} {n t : Nat} {sl : List (Nat × SV)} {ob : List Ob} {K : St → Prop} {T : Nat → Prop} {f : FuncId} {x : Operand} {args : Array Operand} {ts : Array TypeId} {argsc : List D} {svs : List SV} {Q : D → Prop} (hc : callable P f = true) (hnf : isFn x = false) (ho : o.op = .call { callee := .value x, args := args, argTypes := ts })
    (hx : evO GL sl x = some (.d (.v (.func (.func f) #[] #[])))) (ha : evL GL sl args.toList = some svs) (hdst : o.dst = some t) (htn : Nat.blt t n = true) (ht : TriD P GL f argsc Q) (hfa : FitL ob svs (argsc.map .d)) (hret : ∀ d, Q d → K ⟨n, (t, .d d) :: sl, ob⟩) : OpR P GL n0 Pn T o ⟨n, sl, ob⟩ K :=
  op_call_d (fun B g a w hr => by
    have e : a.eval x = .func (.func f) #[] #[] := hr.evo hx
    refine ⟨args.toList.map a.eval, ?_, evL_den hr ha⟩
    have hrun : (execOp a.eval o).run P w = (callFunc f ⟨args.toList.map a.eval⟩).run P w := by
      simp only [execOp, ho, resolve, e, Deferred.ofValue, Sem.run_bind, Sem.run_pure, Result.andThen_ok, invoke]
      congr 2
      apply Array.ext'
      simp
    rw [hrun, run_callFunc hc]) hfa ht fun d hq => ⟨fun t' e => by rw [hdst] at e; cases e; exact ⟨htn, hret d hq⟩, fun e => by rw [hdst] at e; cases e⟩

/-! strings.Builder: its bytes -/
def bytesD (s : ByteArray) : List (List D) := s.data.toList.map fun b => [.v (.int .u8 b.toNat)]
theorem bytesD_len (s : ByteArray) : (bytesD s).length = s.size := by simp [bytesD]
theorem bytesD_app (s t : ByteArray) : bytesD s ++ bytesD t = bytesD (s ++ t) := by simp [bytesD, ByteArray.data_append]
theorem bytesD_ne {s : ByteArray} (h : s ≠ .empty) : bytesD s ≠ [] := fun e => h (by
  have := congrArg List.length e
  rw [bytesD_len] at this
  apply ByteArray.ext; apply Array.ext'
  have h2 : s.data.toList.length = 0 := this
  rw [List.eq_nil_of_length_eq_zero h2]; rfl)

/-- append of a text's bytes to a row of the function's own -/
theorem run_apps {w : World} {t u ty e : TypeId} {bytes : Nat} (T : SlTy P t e 1 bytes) (hu : P.underlying u = some .string) {v : Value} {n : Nat} {xs : List Value} (hown : w.ownsRow 0 e 1 v n xs)
    {s : ByteArray} (hm : 0 < s.size) (h63 : n + s.size ≤ maxLen) (hbytes : (n + s.size) * bytes ≤ 140737488355328) :
    ∃ v' w', (Builtin.append_ #[t, u] ty #[v, .string s]).run P w = .ok v' w' ∧ w'.ownsRow 0 e 1 v' (n + s.size) (xs ++ Lib.strCells s) ∧ Fr (fun c => v.ownBlock = some c ∧ v'.ownBlock = some c) w w' ∧
      ∃ k, v'.ownBlock = some k ∧ (v.ownBlock = some k ∨ k = w.heap.size) ∧ k < w'.heap.size ∧ ∃ c, v' = .slice (some ⟨k, 0, none⟩) (n + s.size) c := by
  have hinfo := T.info
  have hzero := T.zero
  have hsl : (Lib.strCells s).length = s.size := Lib.strCells_length s
  cases hi : P.info? e with
  | none => simp [hi] at hinfo
  | some i =>
    rw [hi] at hinfo hzero
    simp only [Option.map_some, Option.some.injEq, Prod.mk.injEq, Option.bind_some] at hinfo hzero
    cases hz : i.zero with
    | none => simp [hz] at hzero
    | some z =>
    rw [hz] at hzero
    simp only [Option.map_some, Option.some.injEq] at hzero
    obtain ⟨q1, q2⟩ := hinfo
    subst q2
    have hsmall : n + s.size ≤ 9223372036854775807 := by simp only [maxLen] at h63; omega
    have hxl : xs.length = n := by simpa using hown.1
    have hlen : (xs ++ Lib.strCells s).length = (n + s.size) * 1 := by rw [List.length_append, hxl, hsl, Nat.mul_one]
    have grown : ∀ (old : Nat), old < n + s.size →
        (w.drew.alloc (.cells (xs.toArray ++ (Lib.strCells s).toArray ++ Builtin.zeroCells z.cells (grownCap w (n + s.size) old e - (n + s.size))) e)).ownsRow 0 e 1
          (.slice (some ⟨w.heap.size, 0, none⟩) (n + s.size) (grownCap w (n + s.size) old e)) (n + s.size) (xs ++ Lib.strCells s) := by
      intro old ho
      have hge := grownCap_ge w (n + s.size) old e
      have hcm : grownCap w (n + s.size) old e ≤ maxLen := grownCap_le_maxLen w (n + s.size) old e h63
      refine ⟨hlen, .inr ⟨w.heap.size, _, _, rfl, Nat.zero_le _, heap_alloc_new w.drew _, hge, hcm, ?_, ?_⟩⟩
      · simp only [Array.size_append, List.size_toArray, size_zeroCells, hzero, hxl, hsl]
        omega
      · simp only [Array.toList_append, List.append_assoc]
        rw [← List.append_assoc, ← hlen]
        exact List.take_left
    rcases hown.2 with ⟨rfl, rfl⟩ | ⟨g, cap, cur, rfl, hbg, hg, hnc, hcm, hcs, htake⟩
    · have hx : xs = [] := List.eq_nil_of_length_eq_zero hxl
      subst hx
      have hr := run_append_nil_string (P := P) w t u ty e i z T.under hu hi hz s hm (by omega) (by have hb := hbytes; simp only [Nat.zero_add] at hb; omega)
      have hgr := grown 0 (by omega)
      simp only [Nat.zero_add, List.nil_append, Array.empty_append] at hgr ⊢
      have e1 : (s.data.map fun b => Value.int .u8 b.toNat) = (Lib.strCells s).toArray := by
        apply Array.ext'
        simp [Lib.strCells]
      rw [e1] at hr
      exact ⟨_, _, hr, hgr, ((Fr.refl _ w).drew).alloc _, _, rfl, .inr rfl, by simp, _, rfl⟩
    · by_cases hroom : n + s.size ≤ cap
      · have hcs' : cur.size = cap := by simpa using hcs
        have hr := Lib.run_append_room_string (P := P) w t u ty e i T.under hu hi q1 g n cap cur hg s hroom (by omega)
        refine ⟨_, _, hr, ⟨hlen, .inr ⟨g, cap, _, rfl, hbg, setRow_heap w g cur _ e _ hg, hroom, hcm, ?_, ?_⟩⟩, ⟨rfl, rfl, rfl, by simp, fun k _ hk => setRow_other w g k _ (fun e => hk ⟨by simp [Value.ownBlock, e], by simp [Value.ownBlock, e]⟩)⟩,
          g, rfl, .inl rfl, by have := (Array.getElem?_eq_some_iff.1 hg).1; simpa using this, _, rfl⟩
        · simp only [List.size_toArray, List.length_append, List.length_take, List.length_drop, Array.length_toList, hsl]
          omega
        · have ht' : cur.toList.take n = xs := by simpa using htake
          rw [ht', ← hlen]
          exact List.take_left
      · have holds : ∀ j u, xs[j]? = some u → w.cell? ((⟨g, 0, none⟩ : Addr).add j) = some u := hown.cells (g := g) rfl
        have hr := Lib.run_append_grow_string (P := P) w t u ty e i z T.under hu hi hz ⟨g, 0, none⟩ n cap xs (by rw [q1]; simpa using hxl) holds s (by omega) (by omega) (growslice_fits (by omega) hbytes)
        have hgr := grown cap (by omega)
        exact ⟨_, _, hr, hgr, ((Fr.refl _ w).drew).alloc _, _, rfl, .inr rfl, by simp, _, rfl⟩

theorem denR_bytes {m : Mem} {c : Nat} : ∀ {l : List UInt8} {off : Nat}, (∀ (j : Nat) y, (l.map fun b => Value.int .u8 b.toNat)[j]? = some y → m c (off + j) = some y) → DenR m 1 c off (l.map fun b => [.v (.int .u8 b.toNat)])
  | [], _, _ => trivial
  | x :: r, off, h => ⟨⟨rfl, ⟨⟨_, by simpa using h 0 _ rfl, rfl⟩, trivial⟩⟩, denR_bytes fun j y hj => by
      have := h (j + 1) y (by simpa using hj)
      rwa [show off + (j + 1) = off + 1 + j by omega] at this⟩

theorem op_appends {o : Oper} {n t i : Nat} {sl sl' : List (Nat × SV)} {ob ob1 ob' : List Ob} {K : St → Prop} {ty u e : TypeId} {bytes : Nat} {s x : Operand} {r ap : ByteArray} {or : Ob} (TS : SlTy P ty e 1 bytes) (hu : P.underlying u = some .string) (ho : o.op = .call { callee := .builtin .append, args := #[s, x], argTypes := #[ty, u] })
    (hd : o.dst = some t) (ht : Nat.blt t n = true) (hs : evO GL sl s = some (.own i 1 (bytesD r))) (hx : evO GL sl x = some (.d (.v (.string ap)))) (hi : nthO i ob = some or) (hor : or = .row e 1 ∨ or = .nilrow e 1)
    (hne : ap ≠ .empty) (h63 : (r.size + ap.size) * (bytes + 1) ≤ 140737488355328) (hsl : kSl i sl = some sl') (hob : kOb i ob = some ob1) (hob' : set1 i (.row e 1) ob1 = some ob')
    (h : K ⟨n, (t, .own i 1 (bytesD (r ++ ap))) :: sl', ob'⟩) : OpR P GL n0 Pn (fun j => j = i) o ⟨n, sl, ob⟩ K :=
  op_app_core (news := bytesD ap) hd ht (.inl hs) hi hor (fun B g a w hr xs hown => by
    have hxv : a.eval x = .string ap := hr.evo hx
    have hap : 0 < ap.size := by
      have := List.length_pos_iff.2 (bytesD_ne hne)
      rwa [bytesD_len] at this
    rw [Nat.mul_add, Nat.mul_one] at h63
    rw [bytesD_len] at hown
    rw [bytesD_len, bytesD_len]
    obtain ⟨v', w', hrun, hrow', hfr0, k, hk1, hk2, hk3, c', rfl⟩ := run_apps (P := P) (ty := o.type) TS hu hown hap (by simp only [maxLen]; omega) (by omega)
    refine ⟨Lib.strCells ap, _, w', ?_, hrow', hfr0, ⟨k, hk1, hk2, hk3, c', rfl⟩, by rw [Lib.strCells_length, Nat.mul_one], Lib.strCells_oneCell ap, fun m c off hmm hj => denR_bytes hj⟩
    unfold execOp
    simp only [ho, resolve, invoke, builtin, Sem.run_bind, Sem.run_pure, Result.andThen_ok, List.map_toArray, List.map_cons, List.map_nil, hxv, hrun]) hsl hob hob' (by rw [bytesD_app]; exact h)

theorem fl_usd {o : Oper} {σ : St} {K : SV → List Nat → Prop} {i k : Nat} {ls : List (List D)} {x : Operand} {ts : Array TypeId} (ho : o.op = .call { callee := .builtin .unsafeSliceData, args := #[x], argTypes := ts }) (hx : evO GL σ.sl x = some (.own i k ls)) (hne : ls ≠ []) (hK : K (.rp i) []) : FloatR P GL o σ K := fl_of fun B g a w hr => by
  obtain ⟨b, cap, h1, h2, h3, h4⟩ := hr.evo hx
  obtain ⟨c, rfl, _⟩ := h4 hne
  have hlen := List.length_pos_iff.2 hne
  refine ⟨.rp i, .pointer (some ⟨c, 0, none⟩), fun w' => ?_, ⟨c, cap, _, h1, rfl⟩, hK⟩
  have hrun := Lib.run_unsafeSliceData_row (P := P) w' ts o.type ⟨c, 0, none⟩ ls.length cap (by omega)
  unfold execOp
  simp only [ho, resolve, invoke, builtin, Sem.run_bind, Sem.run_pure, Result.andThen_ok, List.map_toArray, List.map_cons, List.map_nil, h2, Option.map_some, hrun]

theorem f_usd {o : Oper} {σ : St} {K : SV → List Nat → Prop} {i k : Nat} {ls : List (List D)} {x : Operand} {ts : Array TypeId} (hK : K (.rp i) []) (ho : o.op = .call { callee := .builtin .unsafeSliceData, args := #[x], argTypes := ts } := by exact rfl) (hx : evO GL σ.sl x = some (.own i k ls) := by exact rfl) (hne : ls ≠ [] := by omega) : FloatR P GL o σ K := fl_usd ho hx hne hK
theorem freeze_cell (w : World) (p : Addr) (n : Nat) (b o : Nat) : (w.freeze p n).cell? ⟨b, o, none⟩ = w.cell? ⟨b, o, none⟩ := by
  unfold World.freeze
  split
  · rfl
  · simp only [World.cell?, Array.getElem?_modify]
    by_cases h : p.block = b
    · subst h
      rw [if_pos rfl]
      cases hh : w.heap[p.block]? with
      | none => rfl
      | some ob => cases ob <;> rfl
    · rw [if_neg h]
theorem freeze_fr (w : World) (c n : Nat) : Fr (fun d => d = c) w (w.freeze ⟨c, 0, none⟩ n) := by
  unfold World.freeze
  split
  · exact Fr.refl _ w
  · exact ⟨rfl, rfl, rfl, by simp, fun k _ hk => by
      simp only [Array.getElem?_modify]
      rw [if_neg (Ne.symm hk)]⟩

/-- a row that is no longer looked after, whose cells stay -/
theorem RelG.dead1 {B : Bs} {σ : St} {g : Gh} {a : Act} {w : World} (h : RelG GL B σ g a w) {w' : World} {i b : Nat} {o : Ob} {pl : Pl} (ho : σ.ob[i]? = some o) (hpl : g.gs[i]? = some pl) (hb : blkOf o pl = some b) (hf : Fr (fun c => c = b) w w')
    (hcell : ∀ off, w'.cell? ⟨b, off, none⟩ = w.cell? ⟨b, off, none⟩) (hno : ∀ (j : Nat) f dn cur, σ.ob[j]? ≠ some (.itI i f dn cur)) :
    RelG GL B ⟨σ.n, σ.sl, σ.ob.set i .dead⟩ g a w' ∧ Keep (fun j => j = i) σ.ob g w g w' := by
  have hlen := h.store.len
  have hi := (List.getElem?_eq_some_iff.1 ho).1
  have hne : ∀ (j : Nat) oj pj c, j ≠ i → σ.ob[j]? = some oj → g.gs[j]? = some pj → blkOf oj pj = some c → c ≠ b := fun j oj pj c hj h1 h2 h3 e => by
    subst e; exact hj (h.store.disj j i oj o pj _ c h1 ho h2 hpl h3 hb)
  refine ⟨⟨h.defers, h.size, h.slots, ?_, ?_⟩, Mle.refl _, fun j c oj hj h1 h2 h3 => ⟨h2, hf.block c (h.store.lt h1 h2 h3) (hne j oj _ c hj h1 h2 h3)⟩⟩
  · refine h.store.step (p := fun j => j = i) (Mle.refl _) (fun _ _ h => h) (fun _ _ _ h => h) (fun c off x hx => ?_) (by simp [hlen]) (fun j o1 hj h1 => ?_) (fun j k f dn cur h1 => ?_) (fun j k f dn cur hj h1 hk => ?_)
      (fun j o1 q c hj h1 h2 h3 => ⟨hf.block c (h.store.lt h1 h2 h3) (hne j o1 q c hj h1 h2 h3), fun _ h => h⟩) (fun j o1 hj h1 => ?_) (fun j o1 q c hj h1 h2 h3 => ?_) (fun i j oi oj pi pj b hi hj _ _ _ _ _ _ => hi.trans hj.symm)
    · have hs := h.store.sat c off x hx
      refine ⟨?_, hs.2⟩
      by_cases hcb : c = b
      · subst hcb; rw [hcell]; exact hs.1
      · rw [World.cell?_of_block (w := w) (hf.block c (h.store.sat_lt hx) hcb)]; exact hs.1
    · rw [List.getElem?_set_ne (Ne.symm hj)] at h1
      exact ⟨o1, h1, ObLe.refl (Gle.refl g) o1⟩
    · by_cases hj : j = i
      · subst hj
        rw [List.getElem?_set_self hi] at h1
        cases h1
      · rw [List.getElem?_set_ne (Ne.symm hj)] at h1
        have h2 := h.store.its j k f dn cur h1
        by_cases hk : k = i
        · subst hk; exact absurd h1 (hno j f dn cur)
        · rw [List.getElem?_set_ne (Ne.symm hk)]; exact h2
    · rw [List.getElem?_set_ne (Ne.symm hj)] at h1
      subst hk
      exact hno j f dn cur h1
    · subst hj
      rw [List.getElem?_set_self hi] at h1
      cases h1
      exact ⟨_, hpl, by cases pl <;> trivial⟩
    · subst hj
      rw [List.getElem?_set_self hi] at h1
      cases h1
      simp [blkOf] at h3
  · refine h.stp.step hf (fun c e => by subst e; exact h.stp.own i o _ c ho hpl hb) (Mle.refl _) (fun c off x hx hn => by rw [hn] at hx; cases hx) (fun j o1 p c h1 h2 h3 => ?_) (fun _ _ h => h)
    by_cases hj : j = i
    · subst hj
      rw [List.getElem?_set_self hi] at h1
      cases h1
      simp [blkOf] at h3
    · rw [List.getElem?_set_ne (Ne.symm hj)] at h1
      exact .inl (h.stp.own j o1 p c h1 h2 h3)

theorem denR_bytes_get {m : Mem} {c : Nat} : ∀ {l : List UInt8} {off : Nat}, DenR m 1 c off (l.map fun b => [.v (.int .u8 b.toNat)]) → ∀ (j : Nat) x, l[j]? = some x → m c (off + j) = some (.int .u8 x.toNat)
  | [], _, _, j, x, h => by simp at h
  | y :: r, off, ⟨⟨_, ⟨⟨z, h1, h2⟩, _⟩⟩, h3⟩, j, x, h => by
    cases j with
    | zero => simp at h; subst h; cases h2; simpa using h1
    | succ j =>
      have := denR_bytes_get h3 j x (by simpa using h)
      rwa [show off + 1 + j = off + (j + 1) by omega] at this

/-- unsafe.String over a row of one's own: the row is no longer looked after -/
theorem op_ustr {o : Oper} {n t i u : Nat} {sl : List (Nat × SV)} {ob ob' : List Ob} {K : St → Prop} {x y : Operand} {pt it e : TypeId} {s : ByteArray} {m : Int} (hp : P.underlying pt = some (.pointer e)) (hc : P.cellsOf e = 1) (ho : o.op = .call { callee := .builtin .unsafeString, args := #[x, y], argTypes := #[pt, it] })
    (hd : o.dst = some t) (ht : Nat.blt t n = true) (hx : evO GL sl x = some (.rp i)) (hy : evO GL sl y = some (.d (.v (.int .i64 m)))) (hu : slo u sl = some (.own i 1 (bytesD s))) (hi : nthO i ob = some (.row e 1)) (hne : s ≠ .empty) (hm : m = s.size) (hit : noItOn i ob = true) (hob : set1 i .dead ob = some ob')
    (h : K ⟨n, (t, .d (.v (.string s))) :: sl, ob'⟩) : OpR P GL n0 Pn (fun j => j = i) o ⟨n, sl, ob⟩ K := fun B hB g a w hr next Q hK hP => by
  obtain ⟨c, cap, k, hb, hxv⟩ := hr.evo hx
  have hyv : a.eval y = .int .i64 m := hr.evo hy
  obtain ⟨b', cap', hb', _, hcap, hden⟩ := hr.evo (x := .tmp u) hu
  rw [hb] at hb'
  cases hb'
  obtain ⟨c', hc', hden⟩ := hden (bytesD_ne hne)
  cases hc'
  have hi' := nthO_eq hi
  obtain ⟨⟨xs, hown⟩, _⟩ := hr.store.obs i _ _ hi' hb
  have hrow : ∃ cur, w.heap[c]? = some (.cells cur e (0, 0)) ∧ s.size ≤ cur.size ∧ s.size ≤ 9223372036854775807 := by
    rcases hown.2 with ⟨h1, _⟩ | ⟨g0, cap0, cur, h1, h2, h3, h4, h5, h6, h7⟩
    · cases h1
    · simp only [Option.map_some, Value.slice.injEq, Option.some.injEq, Addr.mk.injEq] at h1
      obtain ⟨⟨rfl, _⟩, h8, rfl⟩ := h1
      rw [bytesD_len] at h4
      simp only [maxLen] at h5
      exact ⟨cur, h3, by omega, by omega⟩
  obtain ⟨cur, hh, hsz, h63⟩ := hrow
  have hsl : s.data.toList.length = s.size := rfl
  have hrun := Lib.run_unsafeString_row (P := P) w pt it o.type e hp hc c cur.size (by simp [World.shape?, hh]) s.data.toList (fun e => hne (by apply ByteArray.ext; apply Array.ext'; rw [e]; rfl)) (by rw [hsl]; exact hsz) (by rw [hsl]; exact h63) (fun j x hj => by
    rw [addr_add]
    exact (hr.store.sat _ _ _ (denR_bytes_get hden j x hj)).1)
  have hrun2 : (execOp a.eval o).run P w = .ok (.value (.string s)) (w.freeze ⟨c, 0, none⟩ s.size) := by
    unfold execOp
    simp only [ho, resolve, invoke, builtin, Sem.run_bind, Sem.run_pure, Result.andThen_ok, List.map_toArray, List.map_cons, List.map_nil, hxv, hyv, hm]
    rw [hsl] at hrun
    rw [hrun]
    rfl
  unfold Oper.wp
  rw [hrun2]
  show next (a.put o.dst _) _
  rw [hd]
  obtain ⟨h1, h2⟩ := hr.dead1 (w' := w.freeze ⟨c, 0, none⟩ s.size) hi' hb rfl (freeze_fr w c _) (fun off => freeze_cell w _ _ c off) (noItOn_get hit)
  rw [(set1_eq hob).1] at h
  exact hK _ _ _ _ (h1.put' (s := .d (.v (.string s))) ht rfl) h2 h
end
end Go.Vd
