/-
  What is proved here: rules under short names; over any program.
-/
import Derived.Test.YtneaancanfpdhaaGreatDoorY15
set_option linter.unusedSimpArgs false
set_option linter.unusedVariables false
namespace Go.Vd
open Go Go.RowKit

theorem nrm : (∀ (p : Prop) [Decidable p], (decide p = true) = p) ∧ (∀ (p : Prop) [Decidable p], (decide p = false) = ¬ p) ∧ (∀ b : Bool, ((!b) = true) = (b = false)) ∧ (∀ b : Bool, ((!b) = false) = (b = true)) ∧ ((!true) = false) ∧ ((!false) = true)
    ∧ (∀ a b : Int, (¬ a < b) = (b ≤ a)) ∧ (∀ a b : Int, (¬ a ≤ b) = (b < a)) ∧ (∀ a b : Bool, ((a && b) = true) = (a = true ∧ b = true)) ∧ (∀ a b : Bool, ((a || b) = true) = (a = true ∨ b = true)) ∧ (∀ a b : Bool, ((a && b) = false) = (a = false ∨ b = false)) ∧ (∀ a b : Bool, ((a || b) = false) = (a = false ∧ b = false))
    ∧ ((false = true) = False) ∧ ((true = false) = False) ∧ ((¬ True) = False) ∧ ((¬ False) = True) ∧ (∀ [Decidable True], decide True = true) ∧ (∀ [Decidable False], decide False = false)
    ∧ (∀ p : Prop, (True ∧ p) = p) ∧ (∀ p : Prop, (p ∧ True) = p) ∧ (∀ p : Prop, (False ∧ p) = False) ∧ (∀ p : Prop, (p ∧ False) = False) ∧ (∀ p : Prop, (True ∨ p) = True) ∧ (∀ p : Prop, (p ∨ True) = True) ∧ (∀ p : Prop, (False ∨ p) = p) ∧ (∀ p : Prop, (p ∨ False) = p)
    ∧ (∀ b : Bool, (true && b) = b) ∧ (∀ b : Bool, (false && b) = false) ∧ (∀ b : Bool, (b && true) = b) ∧ (∀ b : Bool, (b && false) = false) ∧ (∀ b : Bool, (true || b) = true) ∧ (∀ b : Bool, (false || b) = b) ∧ (∀ b : Bool, (b || true) = true) ∧ (∀ b : Bool, (b || false) = b)
    ∧ (∀ n : Nat, (n : Int).toNat = n) ∧ (∀ n : Nat, ((n : Int) + 1).toNat = n + 1) := by
  repeat' apply And.intro
  all_goals first
    | rfl
    | (intros; simp; done)
    | (intro a b; exact propext Int.not_lt)
    | (intro a b; exact propext Int.not_le)
    | (intros; omega)
    | (intro a b; cases a <;> cases b <;> simp)

section
variable {P : Program} {GL : Nat → List D} {n0 : Nat} {Pn : PnS}

/-- a region at the head of the rest -/
theorem sr {id : Nat} {l : List Oper} {c2 : Code} {Q : Ex → St → Prop} {σ : St} (h : OpsR P GL n0 Pn l l (Ex.seq (fun σ' => Runs P GL n0 Pn c2 Q σ') Q) σ) : Runs P GL n0 Pn (.seq (.region id l.toArray false) c2) Q σ := runs_seq (runs_region h)
theorem nx {ops : List Oper} {c2 : Code} {Q : Ex → St → Prop} {σ : St} (h : Runs P GL n0 Pn c2 Q σ) : OpsR P GL n0 Pn ops [] (Ex.seq (fun σ' => Runs P GL n0 Pn c2 Q σ') Q) σ := ops_nil (seq_normal h)
theorem kp (L : List Nat) {c : Code} {Q : Ex → St → Prop} {n : Nat} {sl sl' : List (Nat × SV)} {ob : List Ob} (h : Runs P GL n0 Pn c Q ⟨n, sl', ob⟩) (hk : keepO sl L = some sl' := by exact rfl) : Runs P GL n0 Pn c Q ⟨n, sl, ob⟩ := runs_keep L hk h
theorem cd {c : Operand} {c1 c2 : Code} {Q : Ex → St → Prop} {σ : St} {b : Bool} (h1 : b = true → Runs P GL n0 Pn c1 Q σ) (h2 : b = false → Runs P GL n0 Pn c2 Q σ) (hc : evO GL σ.sl c = some (.d (.v (.bool b))) := by exact rfl) : Runs P GL n0 Pn (.cond c c1 c2) Q σ := runs_cond hc h1 h2
theorem cdf {c : Operand} {c1 c2 : Code} {Q : Ex → St → Prop} {σ : St} {b : Bool} (h2 : b = false → Runs P GL n0 Pn c2 Q σ) (h1 : b = true → Runs P GL n0 Pn c1 Q σ) (hc : evO GL σ.sl c = some (.d (.v (.bool b))) := by exact rfl) : Runs P GL n0 Pn (.cond c c1 c2) Q σ := runs_cond hc h1 h2
theorem asp {l : List Oper} {fuel : Nat} {listed : Array Bool} {L : List (Nat × Nat)} {Q : Ex → St → Prop} {n : Nat} {sl : List (Nat × SV)} {ob : List Ob} (d : Nat) {b : Bool}
    (h1 : b = true → AnyR P GL n0 Pn l fuel listed L Q ⟨n, (d, .d (.v (.bool true))) :: sl, ob⟩) (h2 : b = false → AnyR P GL n0 Pn l fuel listed L Q ⟨n, (d, .d (.v (.bool false))) :: sl, ob⟩) (hb : slo d sl = some (.d (.v (.bool b))) := by exact rfl) : AnyR P GL n0 Pn l fuel listed L Q ⟨n, sl, ob⟩ := any_split d hb h1 h2
theorem aspf {l : List Oper} {fuel : Nat} {listed : Array Bool} {L : List (Nat × Nat)} {Q : Ex → St → Prop} {n : Nat} {sl : List (Nat × SV)} {ob : List Ob} (d : Nat) {b : Bool}
    (h2 : b = false → AnyR P GL n0 Pn l fuel listed L Q ⟨n, (d, .d (.v (.bool false))) :: sl, ob⟩) (h1 : b = true → AnyR P GL n0 Pn l fuel listed L Q ⟨n, (d, .d (.v (.bool true))) :: sl, ob⟩) (hb : slo d sl = some (.d (.v (.bool b))) := by exact rfl) : AnyR P GL n0 Pn l fuel listed L Q ⟨n, sl, ob⟩ := any_split d hb h1 h2

/-- calls of which one knows what they answer -/
theorem ck {o : Oper} {n t : Nat} {sl sl1 : List (Nat × SV)} {ob ob1 obr obn ob' : List Ob} {K : St → Prop} {f : FuncId} {args : Array Operand} {ts : Array TypeId} {obc : List Ob} {argsc svs m : List SV} {r r' : SV} (hc : callable P f = true) (ho : o.op = .call { callee := .value (.func f), args := args, argTypes := ts }) (ha : evL GL sl args.toList = some svs) (ht : Tri P GL f obc argsc fun out ob2 => out = .ret r ∧ ob2 = ob') (ix : List Nat) (hra : renL ix argsc = some m) (hfit : ObFits ob ix obc ix) (hfa : FitL ob svs m)
    (hK : K ⟨n, (t, r') :: sl1, obn⟩) (hdst : o.dst = some t := by exact rfl) (htn : Nat.blt t n = true := by exact rfl) (hnd : nodupB ix = true := by exact rfl) (hno : noIt obc = true := by exact rfl) (hit : noItOns ix ob = true := by exact rfl)
    (e1 : renOb (names ix ob.length (ob'.length - ix.length)) ob' = some obr := by exact rfl) (e2 : kObL ix ob = some ob1 := by exact rfl) (e3 : mergeO ix ob1 obr = some obn := by exact rfl) (e4 : kSlL ix sl = some sl1 := by exact rfl) (e5 : r.ren (names ix ob.length (ob'.length - ix.length)) = some r' := by exact rfl) : OpR P GL n0 Pn (· ∈ ix) o ⟨n, sl, ob⟩ K :=
  op_callo hc ho ha hdst htn ht ix hfit hnd hno hit hra hfa (fun s ob2 hq => by
    obtain ⟨h1, rfl⟩ := hq
    cases h1
    exact ⟨_, _, _, _, _, e1, e2, e3, e4, e5, hK⟩) (fun s ob2 hq => by cases hq.1)
theorem ck0 {o : Oper} {n : Nat} {sl sl1 : List (Nat × SV)} {ob ob1 obr obn ob' : List Ob} {K : St → Prop} {f : FuncId} {args : Array Operand} {ts : Array TypeId} {obc : List Ob} {argsc svs m : List SV} {r r' : SV} (hc : callable P f = true) (ho : o.op = .call { callee := .value (.func f), args := args, argTypes := ts }) (ha : evL GL sl args.toList = some svs) (ht : Tri P GL f obc argsc fun out ob2 => out = .ret r ∧ ob2 = ob') (ix : List Nat) (hra : renL ix argsc = some m) (hfit : ObFits ob ix obc ix) (hfa : FitL ob svs m)
    (hK : K ⟨n, sl1, obn⟩) (hdst : o.dst = none := by exact rfl) (hnd : nodupB ix = true := by exact rfl) (hno : noIt obc = true := by exact rfl) (hit : noItOns ix ob = true := by exact rfl)
    (e1 : renOb (names ix ob.length (ob'.length - ix.length)) ob' = some obr := by exact rfl) (e2 : kObL ix ob = some ob1 := by exact rfl) (e3 : mergeO ix ob1 obr = some obn := by exact rfl) (e4 : kSlL ix sl = some sl1 := by exact rfl) (e5 : r.ren (names ix ob.length (ob'.length - ix.length)) = some r' := by exact rfl) : OpR P GL n0 Pn (· ∈ ix) o ⟨n, sl, ob⟩ K :=
  op_callo0 hc ho ha hdst ht ix hfit hnd hno hit hra hfa (fun s ob2 hq => by
    obtain ⟨h1, rfl⟩ := hq
    cases h1
    exact ⟨_, _, _, _, _, e1, e2, e3, e4, e5, hK⟩) (fun s ob2 hq => by cases hq.1)
theorem cv {o : Oper} {n t : Nat} {sl : List (Nat × SV)} {ob : List Ob} {K : St → Prop} {f : FuncId} {args : Array Operand} {ts : Array TypeId} {argsc : List D} {svs : List SV} {d : D} (hc : callable P f = true) (ho : o.op = .call { callee := .value (.func f), args := args, argTypes := ts }) (ha : evL GL sl args.toList = some svs) (ht : TriD P GL f argsc (· = d)) (hfa : FitL ob svs (argsc.map .d)) (hK : K ⟨n, (t, .d d) :: sl, ob⟩)
    (hdst : o.dst = some t := by exact rfl) (htn : Nat.blt t n = true := by exact rfl) : OpR P GL n0 Pn (fun _ => False) o ⟨n, sl, ob⟩ K :=
  op_call hc ho ha hdst htn ht hfa fun d' hd => by cases hd; exact hK

/-! fits -/
theorem fir {ob : List Ob} {s : SV} {l m : List SV} (h : FitL ob l m) : FitL ob (s :: l) (s :: m) := .cons (.refl s) h
theorem fid {ob : List Ob} {s : SV} {d : D} {l m : List SV} (h : FitL ob l m) (hd : s.toD = some d := by exact rfl) : FitL ob (s :: l) (.d d :: m) := .cons (.toD hd) h
theorem fiz {ob : List Ob} : FitL ob [] [] := .nil
theorem fni {ob : List Ob} {k : Nat} {l m : List SV} (h : FitL ob l m) : FitL ob (.d (.v (.slice none 0 0)) :: l) (.d (.sl k []) :: m) := .cons .nilD h
theorem boz {ob : List Ob} {ρ : List Nat} : ObFits ob ρ [] [] := .nil
theorem boc {ob : List Ob} {ρ : List Nat} {r : List Ob} {i : Nat} {is : List Nat} {lc l : List SV} {ty : TypeId} (hr : ObFits ob ρ r is) (hi : nthO i ob = some (.cells l ty) := by exact rfl) (h : renL ρ lc = some l := by exact rfl) : ObFits ob ρ (.cells lc ty :: r) (i :: is) := .cons hi (.cells h (FitL.rfl _)) hr
theorem boe {ob : List Ob} {ρ : List Nat} {r : List Ob} {i : Nat} {is : List Nat} {lc l m : List SV} {ty : TypeId} (hf : FitL ob l m) (hr : ObFits ob ρ r is) (hi : nthO i ob = some (.cells l ty) := by exact rfl) (h : renL ρ lc = some m := by exact rfl) : ObFits ob ρ (.cells lc ty :: r) (i :: is) := .cons hi (.cells h hf) hr
theorem bor {ob : List Ob} {ρ : List Nat} {r : List Ob} {i k : Nat} {is : List Nat} {e : TypeId} (hr : ObFits ob ρ r is) (hi : nthO i ob = some (.row e k) := by exact rfl) : ObFits ob ρ (.row e k :: r) (i :: is) := .cons hi .row hr
theorem bon {ob : List Ob} {ρ : List Nat} {r : List Ob} {i k : Nat} {is : List Nat} {e : TypeId} (hr : ObFits ob ρ r is) (hi : nthO i ob = some (.nilrow e k) := by exact rfl) : ObFits ob ρ (.row e k :: r) (i :: is) := .cons hi .nrow hr
theorem bonn {ob : List Ob} {ρ : List Nat} {r : List Ob} {i k : Nat} {is : List Nat} {e : TypeId} (hr : ObFits ob ρ r is) (hi : nthO i ob = some (.nilrow e k) := by exact rfl) : ObFits ob ρ (.nilrow e k :: r) (i :: is) := .cons hi .nnrow hr
theorem bom {ob : List Ob} {ρ : List Nat} {r : List Ob} {i : Nat} {is : List Nat} {f : ByteArray → Option Int} (hr : ObFits ob ρ r is) (hi : nthO i ob = some (.mapI f) := by exact rfl) : ObFits ob ρ (.mapI f :: r) (i :: is) := .cons hi .mapI hr
theorem bod {ob : List Ob} {ρ : List Nat} {r : List Ob} {o : Ob} {i : Nat} {is : List Nat} (hr : ObFits ob ρ r is) (hi : nthO i ob = some o := by exact rfl) : ObFits ob ρ (.dead :: r) (i :: is) := .cons hi .dead hr
/-! slots -/
theorem slz {ob : List Ob} {ρ : List Nat} {sl : List (Nat × SV)} : SlFit ob ρ sl [] := .nil
theorem slx {ob : List Ob} {ρ : List Nat} {sl : List (Nat × SV)} {t : Nat} {s s' : SV} {r : List (Nat × SV)} (h : s.ren ρ = some s') (hf : Fit ob (slk t sl) s') (hr : SlFit ob ρ sl r) : SlFit ob ρ sl ((t, s) :: r) := .cons h hf hr
theorem sly {ob : List Ob} {ρ : List Nat} {sl : List (Nat × SV)} {t : Nat} {s : SV} {r : List (Nat × SV)} (hr : SlFit ob ρ sl r) (h : s.ren ρ = some (slk t sl) := by exact rfl) : SlFit ob ρ sl ((t, s) :: r) := .cons h (.refl _) hr
theorem mo {n : Nat} {sl sl' : List (Nat × SV)} {ob ob' : List Ob} {ρ : List Nat} (hob : ObFits ob ρ ob' ρ) (hsl : SlFit ob ρ sl sl') (hp : pre 0 n0 ρ = true := by exact rfl) (hnd : nodupB ρ = true := by exact rfl) (hno : noIt ob' = true := by exact rfl) : Meets n0 ⟨n, sl, ob⟩ ⟨n, sl', ob'⟩ ρ := meets_of hp hnd hno hob hsl
end
end Go.Vd
