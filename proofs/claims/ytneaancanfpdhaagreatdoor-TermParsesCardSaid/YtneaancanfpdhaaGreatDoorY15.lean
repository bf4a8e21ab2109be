/-
  What is proved here: interfaces against nil, type assertions; over any program.
-/
import Derived.Test.YtneaancanfpdhaaGreatDoorY14
set_option linter.unusedSimpArgs false
set_option linter.unusedVariables false
namespace Go.Vd
open Go Go.RowKit

section
variable {P : Program} {GL : Nat → List D} {o : Oper} {σ : St} {K : SV → List Nat → Prop}

theorem run_eq_inil {T : TypeId} (hp : isIfc P T = true) (x : Value) (b : Bool) (hx : (x = .nilIface ∧ b = true) ∨ (∃ U y, x = .iface U y ∧ b = false)) (w : World) : (Op.equal T x .nilIface).run P w = .ok b w := by
  obtain ⟨ms, hu⟩ := isIfc_ex hp
  have h : ∀ d : Nat, (Op.equalIn (d + 1) T x .nilIface).run P w = .ok b w := fun d => by
    rcases hx with ⟨rfl, rfl⟩ | ⟨U, y, rfl, rfl⟩ <;> simp [Op.equalIn, run_underlying hu]
  simp [Op.equal, Op.maxDepth, h 9999]
theorem fl_i_of {op : BinOp} {T T' : TypeId} {x : Operand} {s : SV} {b : Bool} (ho : o.op = .binOp op T x (.const .nilIface) T') (hx : evO GL σ.sl x = some s) (hop : op = .eql ∨ op = .neq) (hs : ∀ g y, s.Den g y → (y = .nilIface ∧ b = true) ∨ (∃ U z, y = .iface U z ∧ b = false)) (hp : isIfc P T = true) (hK : K (.d (.v (.bool (if op = .eql then b else !b)))) []) : FloatR P GL o σ K := fl_of fun B g a w hr => by
  have hb := hs _ _ (hr.evo hx)
  refine ⟨.d (.v (.bool (if op = .eql then b else !b))), _, fun w' => ?_, rfl, hK⟩
  have he := run_eq_inil hp _ b hb w'
  have hc : a.eval (.const .nilIface) = .nilIface := rfl
  have hgd : ∀ op, (eqGuard op T x (.const .nilIface) (a.eval x) .nilIface).run P w' = .ok () w' := fun op => by
    unfold eqGuard
    rcases hb with ⟨e, _⟩ | ⟨U, z, e, _⟩ <;> rw [e] <;> cases op <;> simp
  have hbo : ∀ op, op = .eql ∨ op = .neq → (binOp op T (a.eval x) .nilIface).run P w' = .ok (.bool (if op = .eql then b else !b)) w' := fun op hop => by
    rcases hb with ⟨e, _⟩ | ⟨U, z, e, _⟩ <;> rw [e] at he ⊢ <;> rcases hop with rfl | rfl <;>
      simp only [binOp, Sem.run_bind, he, Sem.run_pure, Result.andThen_ok, if_true] <;> rfl
  simp only [execOp, ho, hc, Sem.run_bind, hgd op, Result.andThen_ok, hbo op hop, Sem.run_pure]
theorem fl_ieql_nil {T T' : TypeId} {x : Operand} (hp : isIfc P T = true) (ho : o.op = .binOp .eql T x (.const .nilIface) T') (hx : evO GL σ.sl x = some (.d (.v .nilIface))) (hK : K (.d (.v (.bool true))) []) : FloatR P GL o σ K :=
  fl_i_of (b := true) ho hx (.inl rfl) (fun g y hd => .inl ⟨hd, rfl⟩) hp hK
theorem f_ieql_nil {T T' : TypeId} {x : Operand} (hp : isIfc P T = true) (hK : K (.d (.v (.bool true))) []) (ho : o.op = .binOp .eql T x (.const .nilIface) T' := by exact rfl) (hx : evO GL σ.sl x = some (.d (.v .nilIface)) := by exact rfl) : FloatR P GL o σ K := fl_ieql_nil hp ho hx hK
theorem fl_ineq_nil {T T' : TypeId} {x : Operand} (hp : isIfc P T = true) (ho : o.op = .binOp .neq T x (.const .nilIface) T') (hx : evO GL σ.sl x = some (.d (.v .nilIface))) (hK : K (.d (.v (.bool false))) []) : FloatR P GL o σ K :=
  fl_i_of (b := true) ho hx (.inr rfl) (fun g y hd => .inl ⟨hd, rfl⟩) hp hK
theorem f_ineq_nil {T T' : TypeId} {x : Operand} (hp : isIfc P T = true) (hK : K (.d (.v (.bool false))) []) (ho : o.op = .binOp .neq T x (.const .nilIface) T' := by exact rfl) (hx : evO GL σ.sl x = some (.d (.v .nilIface)) := by exact rfl) : FloatR P GL o σ K := fl_ineq_nil hp ho hx hK
theorem fl_ieql_d {T T' U : TypeId} {x : Operand} {d : D} (hp : isIfc P T = true) (ho : o.op = .binOp .eql T x (.const .nilIface) T') (hx : evO GL σ.sl x = some (.d (.ifc U d))) (hK : K (.d (.v (.bool false))) []) : FloatR P GL o σ K :=
  fl_i_of (b := false) ho hx (.inl rfl) (fun g y hd => by obtain ⟨z, e, _⟩ := hd; exact .inr ⟨_, _, e, rfl⟩) hp hK
theorem f_ieql_d {T T' U : TypeId} {x : Operand} {d : D} (hp : isIfc P T = true) (hK : K (.d (.v (.bool false))) []) (ho : o.op = .binOp .eql T x (.const .nilIface) T' := by exact rfl) (hx : evO GL σ.sl x = some (.d (.ifc U d)) := by exact rfl) : FloatR P GL o σ K := fl_ieql_d hp ho hx hK
theorem fl_ineq_d {T T' U : TypeId} {x : Operand} {d : D} (hp : isIfc P T = true) (ho : o.op = .binOp .neq T x (.const .nilIface) T') (hx : evO GL σ.sl x = some (.d (.ifc U d))) (hK : K (.d (.v (.bool true))) []) : FloatR P GL o σ K :=
  fl_i_of (b := false) ho hx (.inr rfl) (fun g y hd => by obtain ⟨z, e, _⟩ := hd; exact .inr ⟨_, _, e, rfl⟩) hp hK
theorem f_ineq_d {T T' U : TypeId} {x : Operand} {d : D} (hp : isIfc P T = true) (hK : K (.d (.v (.bool true))) []) (ho : o.op = .binOp .neq T x (.const .nilIface) T' := by exact rfl) (hx : evO GL σ.sl x = some (.d (.ifc U d)) := by exact rfl) : FloatR P GL o σ K := fl_ineq_d hp ho hx hK
theorem fl_ieql_s {T T' U : TypeId} {x : Operand} {s : SV} (hp : isIfc P T = true) (ho : o.op = .binOp .eql T x (.const .nilIface) T') (hx : evO GL σ.sl x = some (.ifc U s)) (hK : K (.d (.v (.bool false))) []) : FloatR P GL o σ K :=
  fl_i_of (b := false) ho hx (.inl rfl) (fun g y hd => by obtain ⟨z, e, _⟩ := hd; exact .inr ⟨_, _, e, rfl⟩) hp hK
theorem f_ieql_s {T T' U : TypeId} {x : Operand} {s : SV} (hp : isIfc P T = true) (hK : K (.d (.v (.bool false))) []) (ho : o.op = .binOp .eql T x (.const .nilIface) T' := by exact rfl) (hx : evO GL σ.sl x = some (.ifc U s) := by exact rfl) : FloatR P GL o σ K := fl_ieql_s hp ho hx hK
theorem fl_ineq_s {T T' U : TypeId} {x : Operand} {s : SV} (hp : isIfc P T = true) (ho : o.op = .binOp .neq T x (.const .nilIface) T') (hx : evO GL σ.sl x = some (.ifc U s)) (hK : K (.d (.v (.bool true))) []) : FloatR P GL o σ K :=
  fl_i_of (b := false) ho hx (.inr rfl) (fun g y hd => by obtain ⟨z, e, _⟩ := hd; exact .inr ⟨_, _, e, rfl⟩) hp hK

theorem f_ineq_s {T T' U : TypeId} {x : Operand} {s : SV} (hp : isIfc P T = true) (hK : K (.d (.v (.bool true))) []) (ho : o.op = .binOp .neq T x (.const .nilIface) T' := by exact rfl) (hx : evO GL σ.sl x = some (.ifc U s) := by exact rfl) : FloatR P GL o σ K := fl_ineq_s hp ho hx hK
theorem wrap_bound (x : Int) : -9223372036854775808 ≤ IntKind.i64.wrap x ∧ IntKind.i64.wrap x ≤ 9223372036854775807 := by
  have h : IntKind.i64.wrap x = if (x % 18446744073709551616) ≥ 9223372036854775808 then x % 18446744073709551616 - 18446744073709551616 else x % 18446744073709551616 := by
    simp [IntKind.wrap, IntKind.bits, IntKind.signed]
  rw [h]
  split <;> omega
theorem fl_addw {T T' : TypeId} {x y : Operand} {m n : Int} (ho : o.op = .binOp .add T x y T') (hx : evO GL σ.sl x = some (.d (.v (.int .i64 m)))) (hy : evO GL σ.sl y = some (.d (.v (.int .i64 n)))) (hK : K (.d (.v (.int .i64 (IntKind.i64.wrap (m + n))))) []) : FloatR P GL o σ K :=
  fl_bin ho hx hy rfl (by simp) (fun w => by simp [binOp, Op.intArith]) hK
theorem run_eq_bool {T : TypeId} (hp : P.underlying T = some .bool) (p q : Bool) (w : World) : (Op.equal T (.bool p) (.bool q)).run P w = .ok (p == q) w := by
  have h : ∀ d : Nat, (Op.equalIn (d + 1) T (.bool p) (.bool q)).run P w = .ok (p == q) w := fun d => by simp [Op.equalIn, run_underlying hp]
  simp [Op.equal, Op.maxDepth, h 9999]
theorem fl_bq_of {op : BinOp} {T T' : TypeId} {x y : Operand} {p q : Bool} (hp : P.underlying T = some .bool) (ho : o.op = .binOp op T x y T') (hx : evO GL σ.sl x = some (.d (.v (.bool p)))) (hy : evO GL σ.sl y = some (.d (.v (.bool q)))) (hop : op = .eql ∨ op = .neq) (hK : K (.d (.v (.bool (if op = .eql then p == q else !(p == q))))) []) : FloatR P GL o σ K := fl_of fun B g a w hr => by
  have hxe : a.eval x = .bool p := hr.evo hx
  have hye : a.eval y = .bool q := hr.evo hy
  refine ⟨.d (.v (.bool (if op = .eql then p == q else !(p == q)))), _, fun w' => ?_, rfl, hK⟩
  have he := run_eq_bool hp p q w'
  have hgd : ∀ op, (eqGuard op T x y (.bool p) (.bool q)).run P w' = .ok () w' := fun op => by unfold eqGuard; cases op <;> simp
  have hbo : ∀ op, op = .eql ∨ op = .neq → (binOp op T (.bool p) (.bool q)).run P w' = .ok (.bool (if op = .eql then p == q else !(p == q))) w' := fun op hop => by
    rcases hop with rfl | rfl <;> simp only [binOp, Sem.run_bind, he, Sem.run_pure, Result.andThen_ok, if_true] <;> rfl
  simp only [execOp, ho, hxe, hye, Sem.run_bind, hgd op, Result.andThen_ok, hbo op hop, Sem.run_pure]
theorem fl_bqeql {T T' : TypeId} {x y : Operand} {p q : Bool} (hp : P.underlying T = some .bool) (ho : o.op = .binOp .eql T x y T') (hx : evO GL σ.sl x = some (.d (.v (.bool p)))) (hy : evO GL σ.sl y = some (.d (.v (.bool q)))) (hK : K (.d (.v (.bool (p == q)))) []) : FloatR P GL o σ K := fl_bq_of hp ho hx hy (.inl rfl) hK
theorem fl_bqneq {T T' : TypeId} {x y : Operand} {p q : Bool} (hp : P.underlying T = some .bool) (ho : o.op = .binOp .neq T x y T') (hx : evO GL σ.sl x = some (.d (.v (.bool p)))) (hy : evO GL σ.sl y = some (.d (.v (.bool q)))) (hK : K (.d (.v (.bool (!(p == q))))) []) : FloatR P GL o σ K := fl_bq_of hp ho hx hy (.inr rfl) hK

/-- x.(U), of a value of U -/
theorem fl_tassert_yes {X U : TypeId} {x : Operand} {d : D} (hc : isConc P U = true) (ho : o.op = .typeAssert x X U true) (hx : evO GL σ.sl x = some (.d (.ifc U d))) (hK : K (.d (.tup [d, .v (.bool true)])) []) : FloatR P GL o σ K := fl_of fun B g a w hr => by
  obtain ⟨y, hy, hd⟩ := hr.evo hx
  refine ⟨.d (.tup [d, .v (.bool true)]), .tuple #[y, .bool true], fun w' => ?_, ⟨_, rfl, y, _, rfl, hd, _, _, rfl, rfl, rfl⟩, hK⟩
  unfold isConc at hc
  cases hu : P.underlying U with
  | none => rw [hu] at hc; cases hc
  | some td =>
    rw [hu] at hc
    cases td <;> first
      | (cases hc; done)
      | simp only [execOp, ho, hy, Instr.typeAssert, Sem.run_bind, run_underlying hu, Result.andThen_ok, if_true, Sem.run_pure]
theorem f_tassert_yes {X U : TypeId} {x : Operand} {d : D} (hK : K (.d (.tup [d, .v (.bool true)])) []) (ho : o.op = .typeAssert x X U true := by exact rfl) (hx : evO GL σ.sl x = some (.d (.ifc U d)) := by exact rfl) (hc : isConc P U = true := by kernel_rfl) : FloatR P GL o σ K := fl_tassert_yes hc ho hx hK
end
end Go.Vd
