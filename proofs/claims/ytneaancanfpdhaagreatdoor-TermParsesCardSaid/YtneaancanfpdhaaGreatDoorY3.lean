/-
  What is proved here: rules for the operations that only look, over any program.
-/
import Derived.Test.YtneaancanfpdhaaGreatDoorY2
import Derived.Test.YtneaancanfpdhaaGreatDoorYTi
namespace Go.Vd
open Go Go.RowKit

def CH (Hc : List (Addr × Value)) (w : World) : Prop := ∀ p ∈ Hc, w.cell? p.1 = some p.2
/-- what is held: cells that stay, or cells of the objects in L -/
def HeldBy (g : Gh) (L : List Nat) (Hc : List (Addr × Value)) : Prop :=
  ∀ p ∈ Hc, p.1.spot = none ∧ (g.m p.1.block p.1.off = some p.2 ∨ ∃ i b, i ∈ L ∧ g.gs[i]? = some (.loc b) ∧ p.1.block = b)

/-! looking up: what is found stands as it was put there -/
def slo (t : Nat) : List (Nat × SV) → Option SV
  | [] => none
  | (k, s) :: r => cond (Nat.beq k t) (some s) (slo t r)
theorem slo_slk {t : Nat} {s : SV} : ∀ {l : List (Nat × SV)}, slo t l = some s → slk t l = s
  | [], h => by cases h
  | (k, x) :: r, h => by
    change cond (Nat.beq k t) (some x) (slo t r) = some s at h
    show cond (Nat.beq k t) x (slk t r) = s
    cases hb : Nat.beq k t with
    | true => rw [hb] at h; simpa using h
    | false => rw [hb] at h; exact slo_slk h
def evO (GL : Nat → List D) (sl : List (Nat × SV)) : Operand → Option SV
  | .tmp t => slo t sl
  | .const v => some (.d (.v v))
  | .global b => some (.d (.cp (GL b)))
  | .func f => some (.d (.v (.func (.func f) #[] #[])))
theorem evO_evS {GL : Nat → List D} {sl : List (Nat × SV)} {x : Operand} {s : SV} (h : evO GL sl x = some s) : evS GL sl x = s := by
  cases x with
  | tmp t => exact slo_slk h
  | const v => simpa [evO, evS] using h
  | global b => simpa [evO, evS] using h
  | func f => simpa [evO, evS] using h

section
variable {P : Program} {GL : Nat → List D}

theorem RelG.evo {B : Bs} {σ : St} {g : Gh} {a : Act} {w : World} (h : RelG GL B σ g a w) {x : Operand} {s : SV} (hx : evO GL σ.sl x = some s) : s.Den g (a.eval x) := by
  have := h.ev x; rwa [evO_evS hx] at this

/-- an operation that only looks -/
def FloatR (P : Program) (GL : Nat → List D) (o : Oper) (σ : St) (K : SV → List Nat → Prop) : Prop :=
  ∀ B g a w, RelG GL B σ g a w → ∃ Hc s y L, (∀ w', CH Hc w' → (execOp a.eval o).run P w' = .ok (.value y) w') ∧ CH Hc w ∧ HeldBy g L Hc ∧ s.Den g y ∧ K s L

variable {o : Oper} {σ : St} {K : SV → List Nat → Prop}

/-- one that looks at no memory -/
theorem fl_of (h : ∀ B g a w, RelG GL B σ g a w → ∃ s y, (∀ w', (execOp a.eval o).run P w' = .ok (.value y) w') ∧ s.Den g y ∧ K s []) : FloatR P GL o σ K := fun B g a w hr => by
  obtain ⟨s, y, h1, h2, h3⟩ := h B g a w hr
  exact ⟨[], s, y, [], fun w' _ => h1 w', (fun p hp => by cases hp), (fun p hp => by cases hp), h2, h3⟩

theorem fl_move {x : Operand} {s : SV} (ho : o.op = .move x) (hx : evO GL σ.sl x = some s) (hK : K s []) : FloatR P GL o σ K := fl_of fun B g a w hr => ⟨s, a.eval x, fun w' => by simp [execOp, ho], hr.evo hx, hK⟩
theorem mv {x : Operand} {s : SV} (hK : K s []) (ho : o.op = .move x := by exact rfl) (hx : evO GL σ.sl x = some s := by exact rfl) : FloatR P GL o σ K := fl_move ho hx hK
theorem fl_assign {x : Operand} {s : SV} (ho : o.op = .assign x) (hx : evO GL σ.sl x = some s) (hK : K s []) : FloatR P GL o σ K := fl_of fun B g a w hr => ⟨s, a.eval x, fun w' => by simp [execOp, ho], hr.evo hx, hK⟩

theorem asg {x : Operand} {s : SV} (hK : K s []) (ho : o.op = .assign x := by exact rfl) (hx : evO GL σ.sl x = some s := by exact rfl) : FloatR P GL o σ K := fl_assign ho hx hK
theorem fl_pick_t {c x y : Operand} {s : SV} (ho : o.op = .pick c x y) (hc : evO GL σ.sl c = some (.d (.v (.bool true)))) (hx : evO GL σ.sl x = some s) (hK : K s []) : FloatR P GL o σ K := fl_of fun B g a w hr => by
  have h1 : a.eval c = .bool true := hr.evo hc
  exact ⟨s, a.eval x, fun w' => by simp [execOp, ho, h1, asBool], hr.evo hx, hK⟩
theorem f_pick_t {c x y : Operand} {s : SV} (hK : K s []) (ho : o.op = .pick c x y := by exact rfl) (hc : evO GL σ.sl c = some (.d (.v (.bool true))) := by exact rfl) (hx : evO GL σ.sl x = some s := by exact rfl) : FloatR P GL o σ K := fl_pick_t ho hc hx hK
theorem fl_pick_f {c x y : Operand} {s : SV} (ho : o.op = .pick c x y) (hc : evO GL σ.sl c = some (.d (.v (.bool false)))) (hy : evO GL σ.sl y = some s) (hK : K s []) : FloatR P GL o σ K := fl_of fun B g a w hr => by
  have h1 : a.eval c = .bool false := hr.evo hc
  exact ⟨s, a.eval y, fun w' => by simp [execOp, ho, h1, asBool], hr.evo hy, hK⟩
theorem f_pick_f {c x y : Operand} {s : SV} (hK : K s []) (ho : o.op = .pick c x y := by exact rfl) (hc : evO GL σ.sl c = some (.d (.v (.bool false))) := by exact rfl) (hy : evO GL σ.sl y = some s := by exact rfl) : FloatR P GL o σ K := fl_pick_f ho hc hy hK
theorem fl_pick_b {c x y : Operand} {b p q : Bool} (ho : o.op = .pick c x y) (hc : evO GL σ.sl c = some (.d (.v (.bool b)))) (hx : evO GL σ.sl x = some (.d (.v (.bool p)))) (hy : evO GL σ.sl y = some (.d (.v (.bool q))))
    (hK : K (.d (.v (.bool (if b then p else q)))) []) : FloatR P GL o σ K := fl_of fun B g a w hr => by
  have h1 : a.eval c = .bool b := hr.evo hc
  have h2 : a.eval x = .bool p := hr.evo hx
  have h3 : a.eval y = .bool q := hr.evo hy
  exact ⟨.d (.v (.bool (if b then p else q))), _, fun w' => by simp only [execOp, ho, h1, asBool, Sem.run_bind, Sem.run_pure, Result.andThen_ok]; rfl, by simp only [SV.Den, D.Den]; cases b <;> simp [h2, h3], hK⟩

theorem f_pick_b {c x y : Operand} {b p q : Bool} (hK : K (.d (.v (.bool (if b then p else q)))) []) (ho : o.op = .pick c x y := by exact rfl) (hc : evO GL σ.sl c = some (.d (.v (.bool b))) := by exact rfl) (hx : evO GL σ.sl x = some (.d (.v (.bool p))) := by exact rfl) (hy : evO GL σ.sl y = some (.d (.v (.bool q))) := by exact rfl) : FloatR P GL o σ K := fl_pick_b ho hc hx hy hK
theorem fl_nil_blk {x : Operand} {i off : Nat} (ho : o.op = .nilCheck x) (hx : evO GL σ.sl x = some (.blk i off)) (hK : K (.blk i off) []) : FloatR P GL o σ K := fl_of fun B g a w hr => by
  have h1 := hr.evo hx
  obtain ⟨b, hb, e⟩ := h1
  exact ⟨.blk i off, a.eval x, fun w' => by simp only [execOp, ho, e]; rfl, ⟨b, hb, e⟩, hK⟩
theorem ncb {x : Operand} {i off : Nat} (hK : K (.blk i off) []) (ho : o.op = .nilCheck x := by exact rfl) (hx : evO GL σ.sl x = some (.blk i off) := by exact rfl) : FloatR P GL o σ K := fl_nil_blk ho hx hK
theorem fl_nil_cp {x : Operand} {l : List D} (ho : o.op = .nilCheck x) (hx : evO GL σ.sl x = some (.d (.cp l))) (hK : K (.d (.cp l)) []) : FloatR P GL o σ K := fl_of fun B g a w hr => by
  have h1 := hr.evo hx
  obtain ⟨b, off, e, hl⟩ := h1
  exact ⟨.d (.cp l), a.eval x, fun w' => by simp only [execOp, ho, e]; rfl, ⟨b, off, e, hl⟩, hK⟩

theorem ncc {x : Operand} {l : List D} (hK : K (.d (.cp l)) []) (ho : o.op = .nilCheck x := by exact rfl) (hx : evO GL σ.sl x = some (.d (.cp l)) := by exact rfl) : FloatR P GL o σ K := fl_nil_cp ho hx hK
/-! two operands -/
theorem toList_inj {a b : ByteArray} (h : a.toList = b.toList) : a = b := by
  rw [ByteArray.toList_eq, ByteArray.toList_eq] at h
  have := Array.toList_inj.1 h
  cases a; cases b; simp_all
theorem str_beq (a b : ByteArray) : (a.toList == b.toList) = decide (a = b) := by
  rw [Bool.eq_iff_iff]; simp only [beq_iff_eq, decide_eq_true_eq]
  exact ⟨toList_inj, fun h => by rw [h]⟩
theorem run_eqGuard_plain {op : BinOp} {T : TypeId} {x y : Operand} {a b : Value} (ha : a.oneCell' = true) (hn : ¬ (a = .nilIface ∧ b = .nilIface)) (w : World) :
    (eqGuard op T x y a b).run P w = .ok () w := by
  unfold eqGuard
  cases a <;> cases b <;> first
    | (exfalso; exact hn ⟨rfl, rfl⟩)
    | (exfalso; simp [Value.oneCell'] at ha; done)
    | (cases op <;> rfl)

theorem fl_bin {op : BinOp} {T T' : TypeId} {x y : Operand} {va vb r : Value} (ho : o.op = .binOp op T x y T') (hx : evO GL σ.sl x = some (.d (.v va))) (hy : evO GL σ.sl y = some (.d (.v vb))) (ha : va.oneCell' = true) (hn : ¬ (va = .nilIface ∧ vb = .nilIface))
    (hrun : ∀ w, (binOp op T va vb).run P w = .ok r w) (hK : K (.d (.v r)) []) : FloatR P GL o σ K := fl_of fun B g a w hr => by
  have h1 : a.eval x = va := hr.evo hx
  have h2 : a.eval y = vb := hr.evo hy
  exact ⟨.d (.v r), r, fun w' => by simp only [execOp, ho, h1, h2, Sem.run_bind, run_eqGuard_plain ha hn, hrun, Result.andThen_ok]; rfl, rfl, hK⟩

section
variable {T T' : TypeId} {x y : Operand} {k : IntKind} {m n : Int}
theorem fl_lss (ho : o.op = .binOp .lss T x y T') (hx : evO GL σ.sl x = some (.d (.v (.int k m)))) (hy : evO GL σ.sl y = some (.d (.v (.int k n)))) (hK : K (.d (.v (.bool (decide (m < n))))) []) : FloatR P GL o σ K :=
  fl_bin ho hx hy rfl (by simp) (fun w => by simp [binOp, Op.intCmp]) hK
theorem ilt  (hK : K (.d (.v (.bool (decide (m < n))))) []) (ho : o.op = .binOp .lss T x y T' := by exact rfl) (hx : evO GL σ.sl x = some (.d (.v (.int k m))) := by exact rfl) (hy : evO GL σ.sl y = some (.d (.v (.int k n))) := by exact rfl) : FloatR P GL o σ K := fl_lss ho hx hy hK
theorem fl_leq (ho : o.op = .binOp .leq T x y T') (hx : evO GL σ.sl x = some (.d (.v (.int k m)))) (hy : evO GL σ.sl y = some (.d (.v (.int k n)))) (hK : K (.d (.v (.bool (decide (m ≤ n))))) []) : FloatR P GL o σ K :=
  fl_bin ho hx hy rfl (by simp) (fun w => by simp [binOp, Op.intCmp]) hK
theorem ile  (hK : K (.d (.v (.bool (decide (m ≤ n))))) []) (ho : o.op = .binOp .leq T x y T' := by exact rfl) (hx : evO GL σ.sl x = some (.d (.v (.int k m))) := by exact rfl) (hy : evO GL σ.sl y = some (.d (.v (.int k n))) := by exact rfl) : FloatR P GL o σ K := fl_leq ho hx hy hK
theorem fl_gtr (ho : o.op = .binOp .gtr T x y T') (hx : evO GL σ.sl x = some (.d (.v (.int k m)))) (hy : evO GL σ.sl y = some (.d (.v (.int k n)))) (hK : K (.d (.v (.bool (decide (n < m))))) []) : FloatR P GL o σ K :=
  fl_bin ho hx hy rfl (by simp) (fun w => by simp [binOp, Op.intCmp]) hK
theorem igt  (hK : K (.d (.v (.bool (decide (n < m))))) []) (ho : o.op = .binOp .gtr T x y T' := by exact rfl) (hx : evO GL σ.sl x = some (.d (.v (.int k m))) := by exact rfl) (hy : evO GL σ.sl y = some (.d (.v (.int k n))) := by exact rfl) : FloatR P GL o σ K := fl_gtr ho hx hy hK
theorem fl_geq (ho : o.op = .binOp .geq T x y T') (hx : evO GL σ.sl x = some (.d (.v (.int k m)))) (hy : evO GL σ.sl y = some (.d (.v (.int k n)))) (hK : K (.d (.v (.bool (decide (n ≤ m))))) []) : FloatR P GL o σ K :=
  fl_bin ho hx hy rfl (by simp) (fun w => by simp [binOp, Op.intCmp]) hK
theorem ige  (hK : K (.d (.v (.bool (decide (n ≤ m))))) []) (ho : o.op = .binOp .geq T x y T' := by exact rfl) (hx : evO GL σ.sl x = some (.d (.v (.int k m))) := by exact rfl) (hy : evO GL σ.sl y = some (.d (.v (.int k n))) := by exact rfl) : FloatR P GL o σ K := fl_geq ho hx hy hK
theorem fl_eql (ho : o.op = .binOp .eql T x y T') (hx : evO GL σ.sl x = some (.d (.v (.int k m)))) (hy : evO GL σ.sl y = some (.d (.v (.int k n)))) (hK : K (.d (.v (.bool (decide (m = n))))) []) : FloatR P GL o σ K :=
  fl_bin ho hx hy rfl (by simp) (fun w => by simp [binOp, Op.intCmp]; by_cases h : m = n <;> simp [h]) hK
theorem ieq  (hK : K (.d (.v (.bool (decide (m = n))))) []) (ho : o.op = .binOp .eql T x y T' := by exact rfl) (hx : evO GL σ.sl x = some (.d (.v (.int k m))) := by exact rfl) (hy : evO GL σ.sl y = some (.d (.v (.int k n))) := by exact rfl) : FloatR P GL o σ K := fl_eql ho hx hy hK
theorem fl_neq (ho : o.op = .binOp .neq T x y T') (hx : evO GL σ.sl x = some (.d (.v (.int k m)))) (hy : evO GL σ.sl y = some (.d (.v (.int k n)))) (hK : K (.d (.v (.bool (!decide (m = n))))) []) : FloatR P GL o σ K :=
  fl_bin ho hx hy rfl (by simp) (fun w => by simp [binOp, Op.intCmp, bne]; by_cases h : m = n <;> simp [h]) hK
theorem ine  (hK : K (.d (.v (.bool (!decide (m = n))))) []) (ho : o.op = .binOp .neq T x y T' := by exact rfl) (hx : evO GL σ.sl x = some (.d (.v (.int k m))) := by exact rfl) (hy : evO GL σ.sl y = some (.d (.v (.int k n))) := by exact rfl) : FloatR P GL o σ K := fl_neq ho hx hy hK
theorem wrapI {x : Int} (h1 : -9223372036854775808 ≤ x) (h2 : x ≤ 9223372036854775807) : IntKind.i64.wrap x = x := by
  have := IntWalk.i64_in x
  exact this (by omega)
theorem fl_add (ho : o.op = .binOp .add T x y T') (hx : evO GL σ.sl x = some (.d (.v (.int .i64 m)))) (hy : evO GL σ.sl y = some (.d (.v (.int .i64 n)))) (hb : -9223372036854775808 ≤ m + n ∧ m + n ≤ 9223372036854775807) (hK : K (.d (.v (.int .i64 (m + n)))) []) : FloatR P GL o σ K :=
  fl_bin ho hx hy rfl (by simp) (fun w => by simp [binOp, Op.intArith, wrapI hb.1 hb.2]) hK
theorem iad  (hK : K (.d (.v (.int .i64 (m + n)))) []) (ho : o.op = .binOp .add T x y T' := by exact rfl) (hx : evO GL σ.sl x = some (.d (.v (.int .i64 m))) := by exact rfl) (hy : evO GL σ.sl y = some (.d (.v (.int .i64 n))) := by exact rfl) (hb : -9223372036854775808 ≤ m + n ∧ m + n ≤ 9223372036854775807 := by omega) : FloatR P GL o σ K := fl_add ho hx hy hb hK
theorem fl_sub (ho : o.op = .binOp .sub T x y T') (hx : evO GL σ.sl x = some (.d (.v (.int .i64 m)))) (hy : evO GL σ.sl y = some (.d (.v (.int .i64 n)))) (hb : -9223372036854775808 ≤ m - n ∧ m - n ≤ 9223372036854775807) (hK : K (.d (.v (.int .i64 (m - n)))) []) : FloatR P GL o σ K :=
  fl_bin ho hx hy rfl (by simp) (fun w => by simp [binOp, Op.intArith, wrapI hb.1 hb.2]) hK
theorem isu  (hK : K (.d (.v (.int .i64 (m - n)))) []) (ho : o.op = .binOp .sub T x y T' := by exact rfl) (hx : evO GL σ.sl x = some (.d (.v (.int .i64 m))) := by exact rfl) (hy : evO GL σ.sl y = some (.d (.v (.int .i64 n))) := by exact rfl) (hb : -9223372036854775808 ≤ m - n ∧ m - n ≤ 9223372036854775807 := by omega) : FloatR P GL o σ K := fl_sub ho hx hy hb hK
theorem fl_mul (ho : o.op = .binOp .mul T x y T') (hx : evO GL σ.sl x = some (.d (.v (.int .i64 m)))) (hy : evO GL σ.sl y = some (.d (.v (.int .i64 n)))) (hb : -9223372036854775808 ≤ m * n ∧ m * n ≤ 9223372036854775807) (hK : K (.d (.v (.int .i64 (m * n)))) []) : FloatR P GL o σ K :=
  fl_bin ho hx hy rfl (by simp) (fun w => by simp [binOp, Op.intArith, wrapI hb.1 hb.2]) hK
theorem fl_rem (ho : o.op = .binOp .rem T x y T') (hx : evO GL σ.sl x = some (.d (.v (.int .i64 m)))) (hy : evO GL σ.sl y = some (.d (.v (.int .i64 n)))) (hb : 0 ≤ m ∧ 0 < n) (hK : K (.d (.v (.int .i64 (m % n)))) []) : FloatR P GL o σ K :=
  fl_bin ho hx hy rfl (by simp) (fun w => by
    have h1 : m.tmod n = m % n := Int.tmod_eq_emod_of_nonneg hb.1
    have h2 : ¬ n = 0 := by omega
    simp only [binOp, Op.intDiv, if_neg h2, h1]; rfl) hK
theorem f_rem  (hK : K (.d (.v (.int .i64 (m % n)))) []) (ho : o.op = .binOp .rem T x y T' := by exact rfl) (hx : evO GL σ.sl x = some (.d (.v (.int .i64 m))) := by exact rfl) (hy : evO GL σ.sl y = some (.d (.v (.int .i64 n))) := by exact rfl) (hb : 0 ≤ m ∧ 0 < n := by omega) : FloatR P GL o σ K := fl_rem ho hx hy hb hK
theorem fl_quo (ho : o.op = .binOp .quo T x y T') (hx : evO GL σ.sl x = some (.d (.v (.int .i64 m)))) (hy : evO GL σ.sl y = some (.d (.v (.int .i64 n)))) (hb : 0 ≤ m ∧ 0 < n ∧ m ≤ 9223372036854775807) (hK : K (.d (.v (.int .i64 (m / n)))) []) : FloatR P GL o σ K :=
  fl_bin ho hx hy rfl (by simp) (fun w => by
    have h1 : m.tdiv n = m / n := Int.tdiv_eq_ediv_of_nonneg hb.1
    have h2 : ¬ n = 0 := by omega
    have h5 : 0 ≤ m / n := Int.ediv_nonneg hb.1 (by omega)
    have h6 : m / n ≤ m := Int.ediv_le_self _ hb.1
    have h4 : IntKind.i64.wrap (m / n) = m / n := by generalize m / n = q at h5 h6 ⊢; exact wrapI (by omega) (by omega)
    simp only [binOp, Op.intDiv, if_neg h2, h1, h4]; rfl) hK
end
section
variable {T T' : TypeId} {x y : Operand} {s t : ByteArray}
theorem fl_seql (ho : o.op = .binOp .eql T x y T') (hx : evO GL σ.sl x = some (.d (.v (.string s)))) (hy : evO GL σ.sl y = some (.d (.v (.string t)))) (hK : K (.d (.v (.bool (decide (s = t))))) []) : FloatR P GL o σ K :=
  fl_bin ho hx hy rfl (by simp) (fun w => by simp only [binOp, Op.stringOp, str_beq]; rfl) hK
theorem seq1  (hK : K (.d (.v (.bool (decide (s = t))))) []) (ho : o.op = .binOp .eql T x y T' := by exact rfl) (hx : evO GL σ.sl x = some (.d (.v (.string s))) := by exact rfl) (hy : evO GL σ.sl y = some (.d (.v (.string t))) := by exact rfl) : FloatR P GL o σ K := fl_seql ho hx hy hK
theorem fl_sneq (ho : o.op = .binOp .neq T x y T') (hx : evO GL σ.sl x = some (.d (.v (.string s)))) (hy : evO GL σ.sl y = some (.d (.v (.string t)))) (hK : K (.d (.v (.bool (!decide (s = t))))) []) : FloatR P GL o σ K :=
  fl_bin ho hx hy rfl (by simp) (fun w => by simp only [binOp, Op.stringOp, str_beq]; rfl) hK
theorem sne  (hK : K (.d (.v (.bool (!decide (s = t))))) []) (ho : o.op = .binOp .neq T x y T' := by exact rfl) (hx : evO GL σ.sl x = some (.d (.v (.string s))) := by exact rfl) (hy : evO GL σ.sl y = some (.d (.v (.string t))) := by exact rfl) : FloatR P GL o σ K := fl_sneq ho hx hy hK
theorem fl_sadd (ho : o.op = .binOp .add T x y T') (hx : evO GL σ.sl x = some (.d (.v (.string s)))) (hy : evO GL σ.sl y = some (.d (.v (.string t)))) (hb : ((s.size + t.size : Nat) : Int) ≤ 9223372036854775807) (hK : K (.d (.v (.string (s ++ t)))) []) : FloatR P GL o σ K :=
  fl_bin ho hx hy rfl (by simp) (fun w => by
    have h2 : ¬ (((s.size + t.size : Nat) : Int) > IntKind.i64.max) := by show ¬ (9223372036854775807 < ((s.size + t.size : Nat) : Int)); omega
    simp only [binOp, Op.stringOp, h2, if_false]
    rfl) hK
theorem f_sadd  (hK : K (.d (.v (.string (s ++ t)))) []) (ho : o.op = .binOp .add T x y T' := by exact rfl) (hx : evO GL σ.sl x = some (.d (.v (.string s))) := by exact rfl) (hy : evO GL σ.sl y = some (.d (.v (.string t))) := by exact rfl) (hb : ((s.size + t.size : Nat) : Int) ≤ 9223372036854775807 := by omega) : FloatR P GL o σ K := fl_sadd ho hx hy hb hK
theorem fl_beql {p q : Bool} (hu : P.underlying T = some .bool) (ho : o.op = .binOp .eql T x y T') (hx : evO GL σ.sl x = some (.d (.v (.bool p)))) (hy : evO GL σ.sl y = some (.d (.v (.bool q)))) (hrun : ∀ w, (binOp .eql T (.bool p) (.bool q)).run P w = .ok (.bool (decide (p = q))) w) (hK : K (.d (.v (.bool (decide (p = q))))) []) : FloatR P GL o σ K :=
  fl_bin ho hx hy rfl (by simp) hrun hK
/-- a pointer that is somewhere, against nil -/
theorem fl_eq_nil {T : TypeId} {l : List D} {op : BinOp} (hu : P.underlying T = some (.pointer (P.pointee T))) (ho : o.op = .binOp op T x y T') (hx : (∃ i off, evO GL σ.sl x = some (.blk i off)) ∨ evO GL σ.sl x = some (.d (.cp l))) (hy : evO GL σ.sl y = some (.d (.v (.pointer none))))
    (h1 : op = .eql → K (.d (.v (.bool false))) []) (h2 : op = .neq → K (.d (.v (.bool true))) []) (hop : op = .eql ∨ op = .neq) : FloatR P GL o σ K := fl_of fun B g a w hr => by
  have h4 : a.eval y = .pointer none := hr.evo hy
  have h3 : ∃ n off, a.eval x = .pointer (some ⟨n, off, none⟩) := by
    rcases hx with ⟨i, off, hx⟩ | hx
    · obtain ⟨b, _, e⟩ := hr.evo hx; exact ⟨_, _, e⟩
    · obtain ⟨b, off, e, _⟩ := hr.evo hx; exact ⟨_, _, e⟩
  obtain ⟨n, off, e⟩ := h3
  have hg := fun w => run_eqGuard_plain (P := P) (op := op) (T := T) (x := x) (y := y) (a := .pointer (some ⟨n, off, none⟩)) (b := .pointer none) rfl (by simp) w
  rcases hop with rfl | rfl
  · exact ⟨.d (.v (.bool false)), _, fun w' => by simp only [execOp, ho, e, h4, Sem.run_bind, hg, Result.andThen_ok, run_eql_pointer_nil _ T _ hu]; rfl, rfl, h1 rfl⟩
  · exact ⟨.d (.v (.bool true)), _, fun w' => by simp only [execOp, ho, e, h4, Sem.run_bind, hg, Result.andThen_ok, run_neq_pointer_nil _ T _ hu]; rfl, rfl, h2 rfl⟩
end
theorem fl_not {T : TypeId} {x : Operand} {b : Bool} (ho : o.op = .unOp .not T x) (hx : evO GL σ.sl x = some (.d (.v (.bool b)))) (hK : K (.d (.v (.bool (!b)))) []) : FloatR P GL o σ K := fl_of fun B g a w hr => by
  have h1 : a.eval x = .bool b := hr.evo hx
  exact ⟨.d (.v (.bool (!b))), _, fun w' => by simp only [execOp, ho, h1, Op.unary]; rfl, rfl, hK⟩
theorem f_not {T : TypeId} {x : Operand} {b : Bool} (hK : K (.d (.v (.bool (!b)))) []) (ho : o.op = .unOp .not T x := by exact rfl) (hx : evO GL σ.sl x = some (.d (.v (.bool b))) := by exact rfl) : FloatR P GL o σ K := fl_not ho hx hK
theorem fl_neg {T : TypeId} {x : Operand} {k : IntKind} {n : Int} (ho : o.op = .unOp .neg T x) (hx : evO GL σ.sl x = some (.d (.v (.int k n)))) (hK : K (.d (.v (.int k (k.wrap (0 - n))))) []) : FloatR P GL o σ K := fl_of fun B g a w hr => by
  have h1 : a.eval x = .int k n := hr.evo hx
  exact ⟨.d (.v (.int k (k.wrap (0 - n)))), .int k (k.wrap (0 - n)), fun w' => by simp [execOp, ho, h1, Op.unary, Op.intArith], rfl, hK⟩
theorem fl_neg64 {T : TypeId} {x : Operand} {n : Int} (ho : o.op = .unOp .neg T x) (hx : evO GL σ.sl x = some (.d (.v (.int .i64 n)))) (hb : -9223372036854775808 ≤ -n ∧ -n ≤ 9223372036854775807) (hK : K (.d (.v (.int .i64 (-n)))) []) : FloatR P GL o σ K := fl_of fun B g a w hr => by
  have h1 : a.eval x = .int .i64 n := hr.evo hx
  have h2 : IntKind.i64.wrap (0 - n) = -n := by rw [show (0 : Int) - n = -n by omega]; exact wrapI hb.1 hb.2
  exact ⟨.d (.v (.int .i64 (-n))), .int .i64 (-n), fun w' => by simp [execOp, ho, h1, Op.unary, Op.intArith, wrapI hb.1 hb.2], rfl, hK⟩
theorem f_neg64 {T : TypeId} {x : Operand} {n : Int} (hK : K (.d (.v (.int .i64 (-n)))) []) (ho : o.op = .unOp .neg T x := by exact rfl) (hx : evO GL σ.sl x = some (.d (.v (.int .i64 n))) := by exact rfl) (hb : -9223372036854775808 ≤ -n ∧ -n ≤ 9223372036854775807 := by omega) : FloatR P GL o σ K := fl_neg64 ho hx hb hK
theorem fl_conv {s d : TypeId} {x : Operand} {k k' : IntKind} {n : Int} (hd : P.underlying d = some (.int k')) (hs : (P.underlying s).isSome = true) (ho : o.op = .convert s d x) (hx : evO GL σ.sl x = some (.d (.v (.int k n)))) (hK : K (.d (.v (.int k' (k'.wrap n)))) []) : FloatR P GL o σ K := fl_of fun B g a w hr => by
  have h1 : a.eval x = .int k n := hr.evo hx
  obtain ⟨ds, hds⟩ := Option.isSome_iff_exists.1 hs
  exact ⟨.d (.v (.int k' (k'.wrap n))), .int k' (k'.wrap n), fun w' => by simp [execOp, ho, h1, convert, run_underlying hds, run_underlying hd, Conv.intToInt], rfl, hK⟩

/-! addresses -/
theorem flds_out {T : TypeId} {f o sz : Nat} {ag : Bool} (h : (tiOf P T).flds[f]? = some (o, sz, ag)) : ∃ fs fd, P.underlying T = some (.struct fs) ∧ fs[f]? = some fd ∧ fd.offset = o ∧
    ((P.info? fd.type).map (·.size)).getD 0 = sz ∧ isAggD (P.underlying fd.type) = ag := by
  unfold tiOf at h
  simp only at h
  split at h
  · rename_i fs hfs
    rw [List.getElem?_map] at h
    cases hf : fs.toList[f]? with
    | none => rw [hf] at h; cases h
    | some fd =>
      rw [hf] at h
      simp only [Option.map_some, Option.some.injEq, Prod.mk.injEq] at h
      exact ⟨fs, fd, hfs, by simpa using hf, h.1, h.2.1, h.2.2⟩
  · simp at h
theorem run_fieldAt {T : TypeId} {f o sz : Nat} {ag : Bool} (h : (tiOf P T).flds[f]? = some (o, sz, ag)) (hsz : sz ≠ 0) (b off : Nat) (w : World) :
    (Instr.fieldAt T (.pointer (some ⟨b, off, none⟩)) f).run P w = .ok (.pointer (some ⟨b, off + o, none⟩)) w := by
  obtain ⟨fs, fd, hu, hfd, rfl, hs, _⟩ := flds_out h
  have hsize : ∃ i, P.info? fd.type = some i ∧ i.size ≠ 0 := by
    cases hi : P.info? fd.type with
    | none => rw [hi] at hs; simp at hs; exact absurd hs.symm hsz
    | some i => rw [hi] at hs; simp at hs; exact ⟨i, rfl, by omega⟩
  obtain ⟨i, hi, hi0⟩ := hsize
  simp [Instr.fieldAt, run_underlying hu, hfd, Instr.sureAddr, fieldPlace, sizeOf, typeInfo, hi, hi0, addr_add]

/-- the n-th of a list, and what lies from there on, each as it stands -/
def dropO {α : Type} : Nat → List α → Option (List α)
  | 0, l => some l
  | n + 1, [] => none
  | n + 1, _ :: r => dropO n r
theorem dropO_eq {α : Type} : ∀ {n : Nat} {l r : List α}, dropO n l = some r → l.drop n = r ∧ n ≤ l.length
  | 0, l, r, h => by simp [dropO] at h; subst h; simp
  | n + 1, [], r, h => by cases h
  | n + 1, x :: l, r, h => by have := dropO_eq (n := n) (l := l) h; exact ⟨by simpa using this.1, by simp; exact this.2⟩
def takeO {α : Type} : Nat → List α → Option (List α)
  | 0, _ => some []
  | n + 1, [] => none
  | n + 1, x :: r => (takeO n r).bind fun l => some (x :: l)
theorem takeO_eq {α : Type} : ∀ {n : Nat} {l r : List α}, takeO n l = some r → l.take n = r ∧ n ≤ l.length
  | 0, l, r, h => by simp [takeO] at h; subst h; simp
  | n + 1, [], r, h => by cases h
  | n + 1, x :: l, r, h => by
    simp only [takeO, Option.bind_eq_some_iff, Option.some.injEq] at h
    obtain ⟨r', h1, rfl⟩ := h
    have := takeO_eq (n := n) (l := l) h1
    exact ⟨by simpa using this.1, by simp; exact this.2⟩

theorem fl_field_blk {T : TypeId} {x : Operand} {f i off : Nat} {ti : TI} (hT : tiOf P T = ti) {o1 sz : Nat} {ag : Bool} {r : List (Nat × Nat × Bool)} (hf : dropO f ti.flds = some ((o1, sz, ag) :: r)) (hsz : Nat.beq sz 0 = false) (ho : o.op = .fieldAddr T x f) (hx : evO GL σ.sl x = some (.blk i off)) (hK : K (.blk i (off + o1)) []) : FloatR P GL o σ K := fl_of fun B g a w hr => by
  have hf2 : (tiOf P T).flds[f]? = some (o1, sz, ag) := by
    have := dropO_eq hf
    rw [hT]
    have h2 := congrArg List.head? this.1
    simpa using h2
  obtain ⟨b, hb, h1⟩ := hr.evo hx
  exact ⟨.blk i (off + o1), _, fun w' => by simp only [execOp, ho, h1, Sem.run_bind, run_fieldAt hf2 (by intro h; rw [h] at hsz; cases hsz), Result.andThen_ok]; rfl, ⟨b, hb, rfl⟩, hK⟩
theorem fdb {T : TypeId} {x : Operand} {f i off : Nat} {ti : TI} {o1 sz : Nat} {ag : Bool} {r : List (Nat × Nat × Bool)} (hT : tiOf P T = ti) (hK : K (.blk i (off + o1)) []) (ho : o.op = .fieldAddr T x f := by exact rfl) (hx : evO GL σ.sl x = some (.blk i off) := by exact rfl) (hf : dropO f ti.flds = some ((o1, sz, ag) :: r) := by exact rfl) (hsz : Nat.beq sz 0 = false := by exact rfl) : FloatR P GL o σ K := fl_field_blk hT hf hsz ho hx hK
theorem fl_field_cp {T : TypeId} {x : Operand} {f : Nat} {l l' : List D} {ti : TI} (hT : tiOf P T = ti) {o1 sz : Nat} {ag : Bool} {r : List (Nat × Nat × Bool)} (hf : dropO f ti.flds = some ((o1, sz, ag) :: r)) (hsz : Nat.beq sz 0 = false) (ho : o.op = .fieldAddr T x f) (hx : evO GL σ.sl x = some (.d (.cp l))) (hl : dropO o1 l = some l') (hK : K (.d (.cp l')) []) : FloatR P GL o σ K := fl_of fun B g a w hr => by
  have hf2 : (tiOf P T).flds[f]? = some (o1, sz, ag) := by
    have := dropO_eq hf
    rw [hT]
    have h2 := congrArg List.head? this.1
    simpa using h2
  obtain ⟨b, off, h1, hd⟩ := hr.evo hx
  refine ⟨.d (.cp l'), _, fun w' => by simp only [execOp, ho, h1, Sem.run_bind, run_fieldAt hf2 (by intro h; rw [h] at hsz; cases hsz), Result.andThen_ok]; rfl, ⟨b, off + o1, rfl, ?_⟩, hK⟩
  rw [← (dropO_eq hl).1]; exact hd.drop _

theorem fdc {T : TypeId} {x : Operand} {f : Nat} {l l' : List D} {ti : TI} {o1 sz : Nat} {ag : Bool} {r : List (Nat × Nat × Bool)} (hT : tiOf P T = ti) (hK : K (.d (.cp l')) []) (ho : o.op = .fieldAddr T x f := by exact rfl) (hx : evO GL σ.sl x = some (.d (.cp l)) := by exact rfl) (hf : dropO f ti.flds = some ((o1, sz, ag) :: r) := by exact rfl) (hsz : Nat.beq sz 0 = false := by exact rfl) (hl : dropO o1 l = some l' := by exact rfl) : FloatR P GL o σ K := fl_field_cp hT hf hsz ho hx hl hK
theorem fl_index_of {T : TypeId} {x i : Operand} {k : Nat} {ls : List (List D)} {j : Int} {kd : IntKind} {e : List D} (hu : P.underlying T = some (.slice (tiOf P T).elem)) {ti : TI} (hT : tiOf P (tiOf P T).elem = ti) (hok : ti.ok = true) (hs : ti.size = k) (ho : o.op = .indexAddr T x i)
    (hx : evO GL σ.sl x = some (.d (.sl k ls)) ∨ ∃ i, evO GL σ.sl x = some (.own i k ls)) (hi : evO GL σ.sl i = some (.d (.v (.int kd j)))) (h0 : 0 ≤ j) (he : ls[j.toNat]? = some e) (hK : K (.d (.cp e)) []) : FloatR P GL o σ K := fl_of fun B g a w hr => by
  have hxx : (D.sl k ls).Den g.m (a.eval x) := by
    rcases hx with hx | ⟨i, hx⟩
    · exact hr.evo hx
    · exact own_sl (hr.evo hx)
  obtain ⟨ad, cap, h1, hc, hd⟩ := hxx
  have hj := (List.getElem?_eq_some_iff.1 he).1
  obtain ⟨b, off, rfl, hd2⟩ := hd (by intro h; subst h; simp at he)
  have h2 : a.eval i = .int kd j := hr.evo hi
  rw [← hT] at hok
  obtain ⟨inf, d, hi', hd', hs', _⟩ := ti_ok hok
  refine ⟨.d (.cp e), .pointer (some ⟨b, off + j.toNat * k, none⟩), fun w' => ?_, ⟨b, _, rfl, (hd2.get he).2⟩, hK⟩
  have h3 : j < (ls.length : Int) := by omega
  rw [hT, hs] at hs'
  simp [execOp, ho, h1, h2, Instr.indexAt, run_underlying hu, asIntOf, h0, h3, sizeOf, typeInfo, hi', ← hs', addr_add]

theorem fl_index {T : TypeId} {x i : Operand} {k : Nat} {ls : List (List D)} {j : Int} {kd : IntKind} {e : List D} {ti : TI} (hu : P.underlying T = some (.slice (tiOf P T).elem)) (hT : tiOf P (tiOf P T).elem = ti) (hok : ti.ok = true) (hs : ti.size = k) (ho : o.op = .indexAddr T x i) (hx : evO GL σ.sl x = some (.d (.sl k ls))) (hi : evO GL σ.sl i = some (.d (.v (.int kd j)))) (h0 : 0 ≤ j) (he : ls[j.toNat]? = some e) (hK : K (.d (.cp e)) []) : FloatR P GL o σ K :=
  fl_index_of hu hT hok hs ho (.inl hx) hi h0 he hK
theorem ixs {T : TypeId} {x i : Operand} {k : Nat} {ls : List (List D)} {j : Int} {kd : IntKind} {e : List D} {ti : TI} (hu : P.underlying T = some (.slice (tiOf P T).elem)) (hT : tiOf P (tiOf P T).elem = ti) (hK : K (.d (.cp e)) []) (ho : o.op = .indexAddr T x i := by exact rfl) (hx : evO GL σ.sl x = some (.d (.sl k ls)) := by exact rfl) (hi : evO GL σ.sl i = some (.d (.v (.int kd j))) := by exact rfl) (hok : ti.ok = true := by exact rfl) (hs : ti.size = k := by exact rfl) (h0 : 0 ≤ j := by omega) (he : ls[j.toNat]? = some e := by omega) : FloatR P GL o σ K := fl_index hu hT hok hs ho hx hi h0 he hK
theorem fl_index_own {T : TypeId} {x i : Operand} {k n : Nat} {ls : List (List D)} {j : Int} {kd : IntKind} {e : List D} {ti : TI} (hu : P.underlying T = some (.slice (tiOf P T).elem)) (hT : tiOf P (tiOf P T).elem = ti) (hok : ti.ok = true) (hs : ti.size = k) (ho : o.op = .indexAddr T x i) (hx : evO GL σ.sl x = some (.own n k ls)) (hi : evO GL σ.sl i = some (.d (.v (.int kd j)))) (h0 : 0 ≤ j) (he : ls[j.toNat]? = some e) (hK : K (.d (.cp e)) []) : FloatR P GL o σ K :=
  fl_index_of hu hT hok hs ho (.inr ⟨n, hx⟩) hi h0 he hK

theorem ixo {T : TypeId} {x i : Operand} {k n : Nat} {ls : List (List D)} {j : Int} {kd : IntKind} {e : List D} {ti : TI} (hu : P.underlying T = some (.slice (tiOf P T).elem)) (hT : tiOf P (tiOf P T).elem = ti) (hK : K (.d (.cp e)) []) (ho : o.op = .indexAddr T x i := by exact rfl) (hx : evO GL σ.sl x = some (.own n k ls) := by exact rfl) (hi : evO GL σ.sl i = some (.d (.v (.int kd j))) := by exact rfl) (hok : ti.ok = true := by exact rfl) (hs : ti.size = k := by exact rfl) (h0 : 0 ≤ j := by omega) (he : ls[j.toNat]? = some e := by omega) : FloatR P GL o σ K := fl_index_own hu hT hok hs ho hx hi h0 he hK
def byteAt (s : ByteArray) (i : Nat) : Int := (s.data.getD i 0).toNat
theorem fl_byte {T : TypeId} {x i : Operand} {s : ByteArray} {j : Int} {kd : IntKind} (hu : P.underlying T = some .string) (ho : o.op = .index T x i) (hx : evO GL σ.sl x = some (.d (.v (.string s)))) (hi : evO GL σ.sl i = some (.d (.v (.int kd j)))) (h01 : 0 ≤ j ∧ j < s.size) (hK : K (.d (.v (.int .u8 (byteAt s j.toNat)))) []) : FloatR P GL o σ K := fl_of fun B g a w hr => by
  obtain ⟨h0, h1⟩ := h01
  have h2 : a.eval x = .string s := hr.evo hx
  have h3 : a.eval i = .int kd j := hr.evo hi
  refine ⟨.d (.v (.int .u8 (byteAt s j.toNat))), .int .u8 (byteAt s j.toNat), fun w' => ?_, rfl, hK⟩
  have hd : j.toNat < s.data.size := by have : s.data.size = s.size := rfl; omega
  simp only [execOp, ho, h2, h3, Sem.run_bind, run_index_string w' T s kd j hu, dif_pos (And.intro h0 h1), Result.andThen_ok, byteAt, Array.getD, hd, dite_true]
  rfl

theorem byt {T : TypeId} {x i : Operand} {s : ByteArray} {j : Int} {kd : IntKind} (hu : P.underlying T = some .string) (hK : K (.d (.v (.int .u8 (byteAt s j.toNat)))) []) (ho : o.op = .index T x i := by exact rfl) (hx : evO GL σ.sl x = some (.d (.v (.string s))) := by exact rfl) (hi : evO GL σ.sl i = some (.d (.v (.int kd j))) := by exact rfl) (h01 : 0 ≤ j ∧ j < s.size := by omega) : FloatR P GL o σ K := fl_byte hu ho hx hi h01 hK
theorem run_bound {kd : IntKind} {i : Int} {y : Nat} {c : BoundsCode} (h0 : 0 ≤ i) (h1 : i ≤ y) (w : World) : (Instr.sliceBound (.int kd i) y c).run P w = .ok i.toNat w := by
  simp [Instr.sliceBound, asIntOf, h0, h1]
theorem fl_sub_lh {T : TypeId} {x lo hi : Operand} {s : ByteArray} {l h : Int} {k1 k2 : IntKind} (hu : P.underlying T = some .string) (ho : o.op = .slice T x (some lo) (some hi) none) (hx : evO GL σ.sl x = some (.d (.v (.string s)))) (hl : evO GL σ.sl lo = some (.d (.v (.int k1 l)))) (hh : evO GL σ.sl hi = some (.d (.v (.int k2 h)))) (hb : 0 ≤ l ∧ l ≤ h ∧ h ≤ s.size)
    (hK : K (.d (.v (.string (s.extract l.toNat h.toNat)))) []) : FloatR P GL o σ K := fl_of fun B g a w hr => by
  obtain ⟨h0, h1, h2⟩ := hb
  have e1 : a.eval x = .string s := hr.evo hx
  have e2 : a.eval lo = .int k1 l := hr.evo hl
  have e3 : a.eval hi = .int k2 h := hr.evo hh
  refine ⟨.d (.v (.string (s.extract l.toNat h.toNat))), _, fun w' => ?_, rfl, hK⟩
  simp [execOp, ho, e1, e2, e3, Instr.sliceAt, Instr.slice, run_underlying hu, Instr.sliceBounds, run_bound (P := P) (i := _) (y := _) (by omega : (0:Int) ≤ _) h2]
  rw [run_bound (by omega) (by omega)]
  simp
theorem f_sub_lh {T : TypeId} {x lo hi : Operand} {s : ByteArray} {l h : Int} {k1 k2 : IntKind} (hu : P.underlying T = some .string) (hK : K (.d (.v (.string (s.extract l.toNat h.toNat)))) []) (ho : o.op = .slice T x (some lo) (some hi) none := by exact rfl) (hx : evO GL σ.sl x = some (.d (.v (.string s))) := by exact rfl) (hl : evO GL σ.sl lo = some (.d (.v (.int k1 l))) := by exact rfl) (hh : evO GL σ.sl hi = some (.d (.v (.int k2 h))) := by exact rfl) (hb : 0 ≤ l ∧ l ≤ h ∧ h ≤ s.size := by omega) : FloatR P GL o σ K := fl_sub_lh hu ho hx hl hh hb hK
theorem fl_sub_l {T : TypeId} {x lo : Operand} {s : ByteArray} {l : Int} {k1 : IntKind} (hu : P.underlying T = some .string) (ho : o.op = .slice T x (some lo) none none) (hx : evO GL σ.sl x = some (.d (.v (.string s)))) (hl : evO GL σ.sl lo = some (.d (.v (.int k1 l)))) (hb : 0 ≤ l ∧ l ≤ s.size)
    (hK : K (.d (.v (.string (s.extract l.toNat s.size)))) []) : FloatR P GL o σ K := fl_of fun B g a w hr => by
  obtain ⟨h0, h1⟩ := hb
  have e1 : a.eval x = .string s := hr.evo hx
  have e2 : a.eval lo = .int k1 l := hr.evo hl
  refine ⟨.d (.v (.string (s.extract l.toNat s.size))), _, fun w' => ?_, rfl, hK⟩
  simp [execOp, ho, e1, e2, Instr.sliceAt, Instr.slice, run_underlying hu, Instr.sliceBounds]
  rw [run_bound (by omega) (by omega)]
  simp
theorem fl_sub_h {T : TypeId} {x hi : Operand} {s : ByteArray} {h : Int} {k2 : IntKind} (hu : P.underlying T = some .string) (ho : o.op = .slice T x none (some hi) none) (hx : evO GL σ.sl x = some (.d (.v (.string s)))) (hh : evO GL σ.sl hi = some (.d (.v (.int k2 h)))) (hb : 0 ≤ h ∧ h ≤ s.size)
    (hK : K (.d (.v (.string (s.extract 0 h.toNat)))) []) : FloatR P GL o σ K := fl_of fun B g a w hr => by
  obtain ⟨h0, h1⟩ := hb
  have e1 : a.eval x = .string s := hr.evo hx
  have e2 : a.eval hi = .int k2 h := hr.evo hh
  refine ⟨.d (.v (.string (s.extract 0 h.toNat))), _, fun w' => ?_, rfl, hK⟩
  simp [execOp, ho, e1, e2, Instr.sliceAt, Instr.slice, run_underlying hu, Instr.sliceBounds]
  rw [run_bound (by omega) (by omega)]
  simp

def nthO {α : Type} : Nat → List α → Option α
  | _, [] => none
  | 0, x :: _ => some x
  | n + 1, _ :: r => nthO n r
theorem nthO_eq {α : Type} : ∀ {n : Nat} {l : List α} {x : α}, nthO n l = some x → l[n]? = some x
  | 0, [], _, h => by cases h
  | _ + 1, [], _, h => by cases h
  | 0, y :: l, x, h => by simpa [nthO] using h
  | n + 1, y :: l, x, h => by simpa using nthO_eq (n := n) (l := l) h
theorem fl_extract {x : Operand} {i : Nat} {l : List SV} {s : SV} (ho : o.op = .extract x i) (hx : evO GL σ.sl x = some (.tup l)) (hi : nthO i l = some s) (hK : K s []) : FloatR P GL o σ K := fl_of fun B g a w hr => by
  obtain ⟨vs, h1, hd⟩ := hr.evo hx
  obtain ⟨y, hy, hdy⟩ := hd.get (nthO_eq hi)
  exact ⟨s, y, fun w' => by simp [execOp, ho, h1, Instr.extract, hy], hdy, hK⟩

theorem ex1 {x : Operand} {i : Nat} {l : List SV} {s : SV} (hK : K s []) (ho : o.op = .extract x i := by exact rfl) (hx : evO GL σ.sl x = some (.tup l) := by exact rfl) (hi : nthO i l = some s := by exact rfl) : FloatR P GL o σ K := fl_extract ho hx hi hK
theorem fl_extract_d {x : Operand} {i : Nat} {l : List D} {s : D} (ho : o.op = .extract x i) (hx : evO GL σ.sl x = some (.d (.tup l))) (hi : nthO i l = some s) (hK : K (.d s) []) : FloatR P GL o σ K := fl_of fun B g a w hr => by
  obtain ⟨vs, h1, hd⟩ := hr.evo hx
  obtain ⟨y, hy, hdy⟩ := hd.get (nthO_eq hi)
  exact ⟨.d s, y, fun w' => by simp [execOp, ho, h1, Instr.extract, hy], hdy, hK⟩

theorem ex2 {x : Operand} {i : Nat} {l : List D} {s : D} (hK : K (.d s) []) (ho : o.op = .extract x i := by exact rfl) (hx : evO GL σ.sl x = some (.d (.tup l)) := by exact rfl) (hi : nthO i l = some s := by exact rfl) : FloatR P GL o σ K := fl_extract_d ho hx hi hK
theorem fl_len_of {T : TypeId} {x : Operand} {k : Nat} {ls : List (List D)} {ty : Array TypeId} (hu : P.underlying T = some (.slice (tiOf P T).elem)) (ho : o.op = .call { callee := .builtin .len, args := #[x], argTypes := #[T] })
    (hx : evO GL σ.sl x = some (.d (.sl k ls)) ∨ ∃ i, evO GL σ.sl x = some (.own i k ls)) (hK : K (.d (.v (.int .i64 ls.length))) []) : FloatR P GL o σ K := fl_of fun B g a w hr => by
  have hxx : (D.sl k ls).Den g.m (a.eval x) := by
    rcases hx with hx | ⟨i, hx⟩
    · exact hr.evo hx
    · exact own_sl (hr.evo hx)
  obtain ⟨ad, cap, h1, hc, hd⟩ := hxx
  exact ⟨.d (.v (.int .i64 ls.length)), .int .i64 ls.length, fun w' => by simp [execOp, ho, h1, resolve, invoke, builtin, Builtin.len_, run_underlying hu, goInt], rfl, hK⟩
theorem fl_len {T : TypeId} {x : Operand} {k : Nat} {ls : List (List D)} (hu : P.underlying T = some (.slice (tiOf P T).elem)) (ho : o.op = .call { callee := .builtin .len, args := #[x], argTypes := #[T] })
    (hx : evO GL σ.sl x = some (.d (.sl k ls))) (hK : K (.d (.v (.int .i64 ls.length))) []) : FloatR P GL o σ K := fl_len_of (ty := #[]) hu ho (.inl hx) hK
theorem le1 {T : TypeId} {x : Operand} {k : Nat} {ls : List (List D)} (hu : P.underlying T = some (.slice (tiOf P T).elem)) (hK : K (.d (.v (.int .i64 ls.length))) []) (ho : o.op = .call { callee := .builtin .len, args := #[x], argTypes := #[T] } := by exact rfl) (hx : evO GL σ.sl x = some (.d (.sl k ls)) := by exact rfl) : FloatR P GL o σ K := fl_len hu ho hx hK
theorem fl_len_own {T : TypeId} {x : Operand} {i k : Nat} {ls : List (List D)} (hu : P.underlying T = some (.slice (tiOf P T).elem)) (ho : o.op = .call { callee := .builtin .len, args := #[x], argTypes := #[T] })
    (hx : evO GL σ.sl x = some (.own i k ls)) (hK : K (.d (.v (.int .i64 ls.length))) []) : FloatR P GL o σ K := fl_len_of (ty := #[]) hu ho (.inr ⟨i, hx⟩) hK
theorem le2 {T : TypeId} {x : Operand} {i k : Nat} {ls : List (List D)} (hu : P.underlying T = some (.slice (tiOf P T).elem)) (hK : K (.d (.v (.int .i64 ls.length))) []) (ho : o.op = .call { callee := .builtin .len, args := #[x], argTypes := #[T] } := by exact rfl) (hx : evO GL σ.sl x = some (.own i k ls) := by exact rfl) : FloatR P GL o σ K := fl_len_own hu ho hx hK
theorem fl_len_s {T : TypeId} {x : Operand} {s : ByteArray} (hu : P.underlying T = some .string) (ho : o.op = .call { callee := .builtin .len, args := #[x], argTypes := #[T] })
    (hx : evO GL σ.sl x = some (.d (.v (.string s)))) (hK : K (.d (.v (.int .i64 s.size))) []) : FloatR P GL o σ K := fl_of fun B g a w hr => by
  have h1 : a.eval x = .string s := hr.evo hx
  exact ⟨.d (.v (.int .i64 s.size)), .int .i64 s.size, fun w' => by simp [execOp, ho, h1, resolve, invoke, builtin, Builtin.len_, run_underlying hu, goInt], rfl, hK⟩
theorem le3 {T : TypeId} {x : Operand} {s : ByteArray} (hu : P.underlying T = some .string) (hK : K (.d (.v (.int .i64 s.size))) []) (ho : o.op = .call { callee := .builtin .len, args := #[x], argTypes := #[T] } := by exact rfl) (hx : evO GL σ.sl x = some (.d (.v (.string s))) := by exact rfl) : FloatR P GL o σ K := fl_len_s hu ho hx hK
theorem fl_len_nil {T : TypeId} {x : Operand} {n c : Nat} (hu : P.underlying T = some (.slice (tiOf P T).elem)) (ho : o.op = .call { callee := .builtin .len, args := #[x], argTypes := #[T] })
    (hx : evO GL σ.sl x = some (.d (.v (.slice none n c)))) (hK : K (.d (.v (.int .i64 n))) []) : FloatR P GL o σ K := fl_of fun B g a w hr => by
  have h1 : a.eval x = .slice none n c := hr.evo hx
  exact ⟨.d (.v (.int .i64 n)), .int .i64 n, fun w' => by simp [execOp, ho, h1, resolve, invoke, builtin, Builtin.len_, run_underlying hu, goInt], rfl, hK⟩
theorem le4 {T : TypeId} {x : Operand} {n c : Nat} (hu : P.underlying T = some (.slice (tiOf P T).elem)) (hK : K (.d (.v (.int .i64 n))) []) (ho : o.op = .call { callee := .builtin .len, args := #[x], argTypes := #[T] } := by exact rfl) (hx : evO GL σ.sl x = some (.d (.v (.slice none n c))) := by exact rfl) : FloatR P GL o σ K := fl_len_nil hu ho hx hK
theorem fl_max {x y : Operand} {ts : Array TypeId} {m n : Int} (ho : o.op = .call { callee := .builtin .max, args := #[x, y], argTypes := ts }) (hx : evO GL σ.sl x = some (.d (.v (.int .i64 m)))) (hy : evO GL σ.sl y = some (.d (.v (.int .i64 n)))) (hK : K (.d (.v (.int .i64 (max m n)))) []) : FloatR P GL o σ K := fl_of fun B g a w hr => by
  have e1 : a.eval x = .int .i64 m := hr.evo hx
  have e2 : a.eval y = .int .i64 n := hr.evo hy
  have e3 : (if n > m then n else m) = max m n := by split <;> omega
  exact ⟨.d (.v (.int .i64 (max m n))), .int .i64 (max m n), fun w' => by
    simp only [execOp, ho, resolve, invoke, builtin, Builtin.max_, Builtin.max2, Sem.run_bind, Sem.run_pure, Result.andThen_ok, List.map_toArray, List.map_cons, List.map_nil, e1, e2, List.foldlM_cons, List.foldlM_nil, e3], rfl, hK⟩
theorem f_max {x y : Operand} {ts : Array TypeId} {m n : Int} (hK : K (.d (.v (.int .i64 (max m n)))) []) (ho : o.op = .call { callee := .builtin .max, args := #[x, y], argTypes := ts } := by exact rfl) (hx : evO GL σ.sl x = some (.d (.v (.int .i64 m))) := by exact rfl) (hy : evO GL σ.sl y = some (.d (.v (.int .i64 n))) := by exact rfl) : FloatR P GL o σ K := fl_max ho hx hy hK
end
end Go.Vd
