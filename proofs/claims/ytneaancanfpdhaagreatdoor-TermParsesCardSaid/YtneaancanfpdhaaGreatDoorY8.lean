/-
  What is proved here: rules for regions, branches, blocks, loops, calls and whole functions; over any program.
-/
import Derived.Test.YtneaancanfpdhaaGreatDoorY7
namespace Go.Vd
open Go Go.RowKit

inductive Ex where
  | normal
  | exit (id : Nat)
  | goto (l : Nat)
  | ret

/-- what is wanted of a panic: what is thrown, the slots, the objects; and what will do instead, at a function's very end -/
structure PnS where
  pn : SV → List (Nat × SV) → List Ob → Prop
  esc : Bs → Exit → Act → World → Prop
/-- the same where no slot is known -/
abbrev PnS.dr (Pn : PnS) : PnS := ⟨fun s _ ob => Pn.pn s [] ob, fun _ _ _ _ => False⟩
def PanOk (GL : Nat → List D) (B : Bs) (Pn : PnS) (c : List PanicEntry) (a : Act) (w : World) : Prop :=
  ∃ g sl ob v s, c = [{ v := v, recovered := false }] ∧ StoreOk GL ob g w ∧ Stp B ob g w ∧ s.Den g v ∧ (∀ t, (slk t sl).Den g (a.tmps.getD t undef)) ∧ Pn.pn s sl ob

def liftQ (GL : Nat → List D) (B : Bs) (Pn : PnS) (Q : Ex → St → Prop) : Exit → Act → World → Prop
  | .normal, a, w => ∃ σ, Rel GL B σ a w ∧ Q .normal σ
  | .exit id, a, w => ∃ σ, Rel GL B σ a w ∧ Q (.exit id) σ
  | .goto l, a, w => ∃ σ, Rel GL B σ a w ∧ Q (.goto l) σ
  | .ret, a, w => Pn.esc B .ret a w ∨ ∃ σ, Rel GL B σ a w ∧ Q .ret σ
  | .panic c, a, w => Pn.esc B (.panic c) a w ∨ (a.defers = B.df ∧ PanOk GL B Pn c a w)
  | .outgrown, _, _ => False

/-- code c, begun in any state that σ describes, ends as Q (or Pn) says -/
def Runs (P : Program) (GL : Nat → List D) (n0 : Nat) (Pn : PnS) (c : Code) (Q : Ex → St → Prop) (σ : St) : Prop :=
  ∀ B : Bs, B.n0 = n0 → ∀ a w, Rel GL B σ a w → c.wp P (liftQ GL B Pn Q) a w

def Ex.seq (K : St → Prop) (Q : Ex → St → Prop) : Ex → St → Prop
  | .normal, σ => K σ
  | e, σ => Q e σ
def Ex.inBlock (id : Nat) (Q : Ex → St → Prop) : Ex → St → Prop
  | .exit j, σ => if j = id then Q .normal σ else Q (.exit j) σ
  | e, σ => Q e σ

/-- one operation -/
def OpR (P : Program) (GL : Nat → List D) (n0 : Nat) (Pn : PnS) (T : Nat → Prop) (o : Oper) (σ : St) (K : St → Prop) : Prop :=
  ∀ B : Bs, B.n0 = n0 → ∀ g a w, RelG GL B σ g a w → ∀ (next : Act → World → Prop) (Q : Exit → Act → World → Prop),
    (∀ σ' g' a' w', RelG GL B σ' g' a' w' → Keep T σ.ob g w g' w' → K σ' → next a' w') → (∀ c w', PanOk GL B Pn c a w' → Q (.panic c) a w') → o.wp P a w next Q
def OpsR (P : Program) (GL : Nat → List D) (n0 : Nat) (Pn : PnS) (ops l : List Oper) (Q : Ex → St → Prop) (σ : St) : Prop :=
  ∀ B : Bs, B.n0 = n0 → ∀ a w, Rel GL B σ a w → wpList P ops.toArray (liftQ GL B Pn Q) l a w

section
variable {P : Program} {GL : Nat → List D} {n0 : Nat} {Pn : PnS}

theorem op_float {o : Oper} {σ : St} {K : St → Prop} {T : Nat → Prop} {t : Nat} (hd : o.dst = some t) (ht : Nat.blt t σ.n = true) (h : FloatR P GL o σ fun s _ => K ⟨σ.n, (t, s) :: σ.sl, σ.ob⟩) : OpR P GL n0 Pn T o σ K := fun B hB g a w hr next Q hK hP => by
  obtain ⟨Hc, s, y, L, hrun, hc, _, hden, hk⟩ := h B g a w hr
  unfold Oper.wp
  rw [hrun w hc]
  show next (a.put o.dst y) w
  rw [hd]
  exact hK _ _ _ _ (hr.put ht hden) (Keep.refl _ _ _ _) hk

theorem ops_nil {ops : List Oper} {Q : Ex → St → Prop} {σ : St} (h : Q .normal σ) : OpsR P GL n0 Pn ops [] Q σ := fun B hB a w hr => wpList_nil ⟨σ, hr, h⟩
theorem ops_cons {ops rest : List Oper} {o : Oper} {Q : Ex → St → Prop} {σ : St} {T : Nat → Prop} (hg : o.guard = none) (h : OpR P GL n0 Pn T o σ fun σ' => OpsR P GL n0 Pn ops rest Q σ') : OpsR P GL n0 Pn ops (o :: rest) Q σ := fun B hB a w ⟨g, hr⟩ => by
  refine wpList_step fun K hK => ?_
  simp only [Region.wanted, hg, if_true]
  exact h B hB g a w hr _ _ (fun σ' g' a' w' hr' _ hk => hK _ _ (hk B hB a' w' ⟨g', hr'⟩)) (fun c w' hp => .inr ⟨hr.defers, hp⟩)
theorem oc {ops rest : List Oper} {o : Oper} {Q : Ex → St → Prop} {σ : St} {T : Nat → Prop} (h : OpR P GL n0 Pn T o σ fun σ' => OpsR P GL n0 Pn ops rest Q σ') (hg : o.guard = none := by exact rfl) : OpsR P GL n0 Pn ops (o :: rest) Q σ := ops_cons hg h
theorem ops_fl {ops rest : List Oper} {o : Oper} {Q : Ex → St → Prop} {n : Nat} {sl : List (Nat × SV)} {ob : List Ob} {t : Nat} (hg : o.guard = none) (hd : o.dst = some t) (ht : Nat.blt t n = true)
    (h : FloatR P GL o ⟨n, sl, ob⟩ fun s _ => OpsR P GL n0 Pn ops rest Q ⟨n, (t, s) :: sl, ob⟩) : OpsR P GL n0 Pn ops (o :: rest) Q ⟨n, sl, ob⟩ :=
  ops_cons (T := fun _ => False) hg (op_float hd ht h)

theorem o1 {ops rest : List Oper} {o : Oper} {Q : Ex → St → Prop} {n : Nat} {sl : List (Nat × SV)} {ob : List Ob} {t : Nat} (h : FloatR P GL o ⟨n, sl, ob⟩ fun s _ => OpsR P GL n0 Pn ops rest Q ⟨n, (t, s) :: sl, ob⟩) (hg : o.guard = none := by exact rfl) (hd : o.dst = some t := by exact rfl) (ht : Nat.blt t n = true := by exact rfl) : OpsR P GL n0 Pn ops (o :: rest) Q ⟨n, sl, ob⟩ := ops_fl hg hd ht h
def dstOf (ops : List Oper) (j : Nat) : Option Tmp := (ops[j]?).bind (·.dst)
theorem wanted_of {ops : Array Oper} {o : Oper} {j d : Nat} {want b : Bool} {a : Act} (hg : o.guard = some (j, want)) (hd : dstOf ops.toList j = some d) (hb : a.tmps.getD d undef = .bool b) :
    Region.wanted o (yielded ops a.tmps) = (b == want) := by
  have h1 : (ops[j]?).bind (·.dst) = some d := by simpa [dstOf] using hd
  have h2 : a.tmps[d]? = some (.bool b) := by
    by_cases hs : d < a.tmps.size
    · simp [hs] at hb; simp [hs, hb]
    · simp [hs] at hb; cases hb
  simp only [Region.wanted, hg, yielded, h1, Option.bind_some, h2]
  cases b <;> cases want <;> rfl
theorem wanted_undef {ops : Array Oper} {o : Oper} {j d : Nat} {want : Bool} {a : Act} {t : Array Value} (hg : o.guard = some (j, want)) (hd : dstOf ops.toList j = some d) (hb : a.tmps.getD d undef = .tuple t) :
    Region.wanted o (yielded ops a.tmps) = false := by
  have h1 : (ops[j]?).bind (·.dst) = some d := by simpa [dstOf] using hd
  cases h2 : a.tmps[d]? with
  | none => simp only [Region.wanted, hg, yielded, h1, Option.bind_some, h2]; try rfl
  | some v =>
    have hv : v = .tuple t := by
      rw [Array.getD_eq_getD_getElem?, h2] at hb; simpa using hb
    subst hv
    simp only [Region.wanted, hg, yielded, h1, Option.bind_some, h2]
    try rfl

/-- the operation, its guard being met -/
def Oper.bare (o : Oper) : Oper := { o with guard := none }
theorem ops_guard_yes {ops rest : List Oper} {o : Oper} {Q : Ex → St → Prop} {n : Nat} {sl : List (Nat × SV)} {ob : List Ob} {j d : Nat} {want : Bool} (hg : o.guard = some (j, want)) (hd : dstOf ops j = some d) (hb : slo d sl = some (.d (.v (.bool want))))
    (h : OpsR P GL n0 Pn ops ({ o with guard := none } :: rest) Q ⟨n, sl, ob⟩) : OpsR P GL n0 Pn ops (o :: rest) Q ⟨n, sl, ob⟩ := fun B hB a w ⟨g, hr⟩ => by
  have hbv : a.tmps.getD d undef = .bool want := by have := hr.slots d; rw [slo_slk hb] at this; exact this
  have h1 := h B hB a w ⟨g, hr⟩
  unfold wpList at h1 ⊢
  rw [wanted_of hg hd hbv, if_pos (by simp)]
  have hw : Region.wanted { o with guard := none } (yielded ops.toArray a.tmps) = true := rfl
  rw [if_pos hw] at h1
  exact h1
theorem ops_guard_no {ops rest : List Oper} {o : Oper} {Q : Ex → St → Prop} {n : Nat} {sl : List (Nat × SV)} {ob : List Ob} {j d t : Nat} {want : Bool} (hg : o.guard = some (j, want)) (hd : dstOf ops j = some d) (hb : slo d sl = some (.d (.v (.bool (!want))))) (hdst : o.dst = some t) (ht : Nat.blt t n = true)
    (h : OpsR P GL n0 Pn ops rest Q ⟨n, (t, .d (.v undef)) :: sl, ob⟩) : OpsR P GL n0 Pn ops (o :: rest) Q ⟨n, sl, ob⟩ := fun B hB a w ⟨g, hr⟩ => by
  have hbv : a.tmps.getD d undef = .bool (!want) := by have := hr.slots d; rw [slo_slk hb] at this; exact this
  unfold wpList
  rw [wanted_of hg hd hbv, if_neg (by cases want <;> simp), hdst]
  exact h B hB _ w ⟨g, hr.put ht rfl⟩
theorem ops_guard_no0 {ops rest : List Oper} {o : Oper} {Q : Ex → St → Prop} {n : Nat} {sl : List (Nat × SV)} {ob : List Ob} {j d : Nat} {want : Bool} (hg : o.guard = some (j, want)) (hd : dstOf ops j = some d) (hb : slo d sl = some (.d (.v (.bool (!want))))) (hdst : o.dst = none)
    (h : OpsR P GL n0 Pn ops rest Q ⟨n, sl, ob⟩) : OpsR P GL n0 Pn ops (o :: rest) Q ⟨n, sl, ob⟩ := fun B hB a w ⟨g, hr⟩ => by
  have hbv : a.tmps.getD d undef = .bool (!want) := by have := hr.slots d; rw [slo_slk hb] at this; exact this
  unfold wpList
  rw [wanted_of hg hd hbv, if_neg (by cases want <;> simp), hdst]
  exact h B hB _ w ⟨g, hr⟩
theorem ops_guard_undef {ops rest : List Oper} {o : Oper} {Q : Ex → St → Prop} {n : Nat} {sl : List (Nat × SV)} {ob : List Ob} {j d t : Nat} {want : Bool} (hg : o.guard = some (j, want)) (hd : dstOf ops j = some d) (hb : slo d sl = some (.d (.v undef))) (hdst : o.dst = some t) (ht : Nat.blt t n = true)
    (h : OpsR P GL n0 Pn ops rest Q ⟨n, (t, .d (.v undef)) :: sl, ob⟩) : OpsR P GL n0 Pn ops (o :: rest) Q ⟨n, sl, ob⟩ := fun B hB a w ⟨g, hr⟩ => by
  have hbv : a.tmps.getD d undef = undef := by have := hr.slots d; rw [slo_slk hb] at this; exact this
  unfold wpList
  rw [wanted_undef hg hd (t := #[]) (by rw [hbv]; rfl), if_neg (by simp), hdst]
  exact h B hB _ w ⟨g, hr.put ht rfl⟩
theorem gud {ops rest : List Oper} {o : Oper} {Q : Ex → St → Prop} {n : Nat} {sl : List (Nat × SV)} {ob : List Ob} {j d t : Nat} {want : Bool} (h : OpsR P GL n0 Pn ops rest Q ⟨n, (t, .d (.v undef)) :: sl, ob⟩) (hg : o.guard = some (j, want) := by exact rfl) (hd : dstOf ops j = some d := by exact rfl) (hdst : o.dst = some t := by exact rfl) (hb : slo d sl = some (.d (.v undef)) := by exact rfl) (ht : Nat.blt t n = true := by exact rfl) : OpsR P GL n0 Pn ops (o :: rest) Q ⟨n, sl, ob⟩ := ops_guard_undef hg hd hb hdst ht h
/-- a guard that is not known yet: both ways -/
theorem ops_split {ops l : List Oper} {Q : Ex → St → Prop} {n : Nat} {sl : List (Nat × SV)} {ob : List Ob} (d : Nat) {b : Bool} (hb : slo d sl = some (.d (.v (.bool b))))
    (h1 : b = true → OpsR P GL n0 Pn ops l Q ⟨n, (d, .d (.v (.bool true))) :: sl, ob⟩) (h2 : b = false → OpsR P GL n0 Pn ops l Q ⟨n, (d, .d (.v (.bool false))) :: sl, ob⟩) : OpsR P GL n0 Pn ops l Q ⟨n, sl, ob⟩ := fun B hB a w ⟨g, hr⟩ => by
  have hbv : a.tmps.getD d undef = .bool b := by have := hr.slots d; rw [slo_slk hb] at this; exact this
  cases b with
  | true => exact h1 rfl B hB a w ⟨g, hr.known (t := d) hbv⟩
  | false => exact h2 rfl B hB a w ⟨g, hr.known (t := d) hbv⟩

theorem runs_region {id : Nat} {l : List Oper} {Q : Ex → St → Prop} {σ : St} (h : OpsR P GL n0 Pn l l Q σ) : Runs P GL n0 Pn (.region id l.toArray false) Q σ :=
  fun B hB _ _ hr => wp_region_list (by simpa using h B hB _ _ hr)

/-! of the slots, those that are wanted -/
def keepO (sl : List (Nat × SV)) : List Nat → Option (List (Nat × SV))
  | [] => some []
  | t :: r => (keepO sl r).bind fun l => match slo t sl with
    | some s => some ((t, s) :: l)
    | none => some l
theorem keepO_slk {sl : List (Nat × SV)} : ∀ {L : List Nat} {l : List (Nat × SV)}, keepO sl L = some l → ∀ t, slk t l = slk t sl ∨ slk t l = .junk
  | [], l, h, t => by simp [keepO] at h; subst h; exact .inr rfl
  | k :: r, l, h, t => by
    simp only [keepO, Option.bind_eq_some_iff] at h
    obtain ⟨l', h1, h2⟩ := h
    have ih := keepO_slk h1 t
    split at h2
    · rename_i s hs
      simp only [Option.some.injEq] at h2; subst h2
      rw [slk_cons]
      split
      · rename_i e; subst e; exact .inl (slo_slk hs).symm
      · exact ih
    · simp only [Option.some.injEq] at h2; subst h2; exact ih
theorem runs_keep (L : List Nat) {c : Code} {Q : Ex → St → Prop} {n : Nat} {sl sl' : List (Nat × SV)} {ob : List Ob} (hk : keepO sl L = some sl') (h : Runs P GL n0 Pn c Q ⟨n, sl', ob⟩) : Runs P GL n0 Pn c Q ⟨n, sl, ob⟩ := fun B hB a w ⟨g, hr⟩ =>
  h B hB a w ⟨g, hr.defers, hr.size, fun t => by
    show (slk t sl').Den g _
    rcases keepO_slk hk t with e | e
    · rw [e]; exact hr.slots t
    · rw [e]; trivial, hr.store, hr.stp⟩

theorem runs_seq {c1 c2 : Code} {Q : Ex → St → Prop} {σ : St} (h : Runs P GL n0 Pn c1 (Ex.seq (fun σ' => Runs P GL n0 Pn c2 Q σ') Q) σ) : Runs P GL n0 Pn (.seq c1 c2) Q σ :=
  fun B hB a w hr => wp_seq (wp_mono (h B hB a w hr) fun e a w hl => by
    cases e with
    | normal => obtain ⟨σ, hr, hk⟩ := hl; exact hk B hB a w hr
    | exit id => exact hl
    | goto l => exact hl
    | ret => exact hl
    | panic c => exact hl
    | outgrown => exact hl)
theorem seq_normal {c2 : Code} {Q Q' : Ex → St → Prop} {σ : St} (h : Runs P GL n0 Pn c2 Q σ) : Ex.seq (fun σ' => Runs P GL n0 Pn c2 Q σ') Q' .normal σ := h
theorem seq_exit {K : St → Prop} {Q : Ex → St → Prop} {σ : St} {id : Nat} (h : Q (.exit id) σ) : Ex.seq K Q (.exit id) σ := h
theorem seq_ret {K : St → Prop} {Q : Ex → St → Prop} {σ : St} (h : Q .ret σ) : Ex.seq K Q .ret σ := h
theorem inb_normal {Q : Ex → St → Prop} {σ : St} {id : Nat} (h : Q .normal σ) : Ex.inBlock id Q .normal σ := h
theorem inb_ret {Q : Ex → St → Prop} {σ : St} {id : Nat} (h : Q .ret σ) : Ex.inBlock id Q .ret σ := h
theorem inb_exit {Q : Ex → St → Prop} {σ : St} {id : Nat} (h : Q .normal σ) : Ex.inBlock id Q (.exit id) σ := by simp only [Ex.inBlock, if_true]; exact h
theorem inb_other {Q : Ex → St → Prop} {σ : St} {id j : Nat} (hj : Nat.beq j id = false) (h : Q (.exit j) σ) : Ex.inBlock id Q (.exit j) σ := by
  have : j ≠ id := fun e => by subst e; simp at hj
  simp only [Ex.inBlock, if_neg this]; exact h
theorem runs_skip {Q : Ex → St → Prop} {σ : St} (h : Q .normal σ) : Runs P GL n0 Pn .skip Q σ := fun _ _ _ _ hr => wp_skip ⟨σ, hr, h⟩
theorem runs_ret {Q : Ex → St → Prop} {σ : St} (h : Q .ret σ) : Runs P GL n0 Pn .ret Q σ := fun _ _ _ _ hr => wp_ret (.inr ⟨σ, hr, h⟩)
theorem runs_exit {id : Nat} {Q : Ex → St → Prop} {σ : St} (h : Q (.exit id) σ) : Runs P GL n0 Pn (.exit id) Q σ := fun _ _ _ _ hr => wp_exit ⟨σ, hr, h⟩
theorem runs_block {id : Nat} {c : Code} {Q : Ex → St → Prop} {σ : St} (h : Runs P GL n0 Pn c (Ex.inBlock id Q) σ) : Runs P GL n0 Pn (.block id c) Q σ :=
  fun B hB a w hr => wp_block (wp_mono (h B hB a w hr) fun e a w hl => by
    cases e with
    | normal => exact hl
    | exit j =>
      obtain ⟨σ, hr, hk⟩ := hl
      simp only [Ex.inBlock] at hk
      simp only [Exit.inBlock]
      split at hk
      · rename_i e; rw [if_pos e]; exact ⟨σ, hr, hk⟩
      · rename_i e; rw [if_neg e]; exact ⟨σ, hr, hk⟩
    | goto l => exact hl
    | ret => exact hl
    | panic c => exact hl
    | outgrown => exact hl)
theorem runs_cond {c : Operand} {c1 c2 : Code} {Q : Ex → St → Prop} {σ : St} {b : Bool} (hc : evO GL σ.sl c = some (.d (.v (.bool b)))) (h1 : b = true → Runs P GL n0 Pn c1 Q σ) (h2 : b = false → Runs P GL n0 Pn c2 Q σ) :
    Runs P GL n0 Pn (.cond c c1 c2) Q σ := fun B hB a w hr => by
  obtain ⟨g, hr'⟩ := hr
  have he : a.eval c = .bool b := hr'.evo hc
  cases b
  · exact wp_cond_false he (h2 rfl B hB a w ⟨g, hr'⟩)
  · exact wp_cond_true he (h1 rfl B hB a w ⟨g, hr'⟩)

/-! one state may be looked at as another -/
inductive SlFit (ob : List Ob) (ρ : List Nat) (sl : List (Nat × SV)) : List (Nat × SV) → Prop
  | nil : SlFit ob ρ sl []
  | cons {t : Nat} {s s' : SV} {r : List (Nat × SV)} (h : s.ren ρ = some s') (hf : Fit ob (slk t sl) s') (hr : SlFit ob ρ sl r) : SlFit ob ρ sl ((t, s) :: r)
def pre : Nat → Nat → List Nat → Bool
  | _, 0, _ => true
  | _, _ + 1, [] => false
  | k, n + 1, i :: r => cond (Nat.beq i k) (pre (k + 1) n r) false
theorem pre_get : ∀ {n k : Nat} {ρ : List Nat}, pre k n ρ = true → ∀ i, i < n → ρ[i]? = some (k + i)
  | 0, k, ρ, h, i, hi => by omega
  | n + 1, k, [], h, i, hi => by cases h
  | n + 1, k, j :: r, h, i, hi => by
    simp only [pre] at h
    cases hb : Nat.beq j k with
    | false => rw [hb] at h; cases h
    | true =>
      rw [hb] at h
      have e : j = k := by simpa using hb
      subst e
      cases i with
      | zero => simp
      | succ i => have := pre_get (n := n) (k := j + 1) h i (by omega); simp only [List.getElem?_cons_succ, this]; congr 1; omega
def nodupB : List Nat → Bool
  | [] => true
  | i :: r => cond (inIx r i) false (nodupB r)
theorem nodupB_eq : ∀ {l : List Nat}, nodupB l = true → l.Nodup
  | [], _ => List.nodup_nil
  | i :: r, h => by
    simp only [nodupB] at h
    cases hb : inIx r i with
    | true => rw [hb] at h; cases h
    | false =>
      rw [hb] at h
      exact List.nodup_cons.2 ⟨fun hm => (by rw [inIx_iff.2 hm] at hb; cases hb), nodupB_eq h⟩
structure Meets (n0 : Nat) (σ σ' : St) (ρ : List Nat) : Prop where
  n : σ'.n = σ.n
  pre : pre 0 n0 ρ = true
  nd : nodupB ρ = true
  its : ∀ (j i : Nat) f dn cur, σ'.ob[j]? = some (.itI i f dn cur) → σ'.ob[i]? = some (.mapI f)
  ob : ObFits σ.ob ρ σ'.ob ρ
  sl : SlFit σ.ob ρ σ.sl σ'.sl

theorem slFit_look {ob : List Ob} {g g' : Gh} {w : World} {ρ : List Nat} {sl : List (Nat × SV)} (hs : StoreOk GL ob g w) (hb : RenB ρ g' g) {l : List (Nat × SV)} (h : SlFit ob ρ sl l) (t : Nat) {y : Value} (hd : (slk t sl).Den g y) : (slk t l).Den g' y := by
  induction h with
  | nil => trivial
  | cons h1 h2 _ ih =>
    rw [slk_cons]
    split
    · rename_i e; subst e
      exact SV.ren_back hb _ h1 (h2.den hs hd)
    · exact ih

theorem stp_sub {B : Bs} {ob obc : List Ob} {ρ : List Nat} {g : Gh} {w : World} (hn0 : B.n0 = n0) (hp : pre 0 n0 ρ = true) (h : Stp B ob g w) (hs : StoreOk GL ob g w) (hf : ObFits ob ρ obc ρ) (hnd : ρ.Nodup) (hno : ∀ (j i : Nat) f dn cur, obc[j]? = some (.itI i f dn cur) → obc[i]? = some (.mapI f)) :
    Stp B obc ⟨g.m, ρ.map fun i => g.gs.getD i (.loc 0)⟩ w := by
  refine ⟨h.fr, h.mem, h.new, fun i o p b h1 h2 h3 => ?_, fun i b hi hb => ?_⟩
  · obtain ⟨i', k, o', p', _, e2, e3, e4⟩ := (hs.sub hf hnd hno).2.2 b ⟨i, o, p, h1, h2, h3⟩
    exact h.own i' o' p' b e2 e3 e4
  · have := pre_get hp i (by omega)
    rw [Nat.zero_add] at this
    show (ρ.map _)[i]? = _
    rw [List.getElem?_map, this]
    simp [List.getD_eq_getElem?_getD, h.at' i b hi hb]

theorem Meets.rel {B : Bs} (hn0 : B.n0 = n0) {σ σ' : St} {ρ : List Nat} (h : Meets n0 σ σ' ρ) {a : Act} {w : World} (hr : Rel GL B σ a w) : Rel GL B σ' a w := by
  obtain ⟨g, hr⟩ := hr
  have hnd := nodupB_eq h.nd
  have hsub := hr.store.sub h.ob hnd h.its
  exact ⟨_, hr.defers, by rw [h.n]; exact hr.size, fun t => slFit_look hr.store hsub.2.1 h.sl t (hr.slots t), hsub.1, stp_sub hn0 h.pre hr.stp hr.store h.ob hnd h.its⟩

/-- σ is one of a family -/
def Back {ι : Type} (n0 : Nat) (S : ι → St) (I : ι → Prop) (σ : St) : Prop := ∃ i ρ, I i ∧ Meets n0 σ (S i) ρ
theorem seq_back {ι : Type} {S : ι → St} {I : ι → Prop} {Q' : Ex → St → Prop} {σ : St} (h : Back n0 S I σ) : Ex.seq (fun σ' => Back n0 S I σ') Q' .normal σ := h

theorem runs_loop {c : Code} {Q : Ex → St → Prop} {σ : St} {ι : Type} (S : ι → St) (Inv : ι → Prop) (m : ι → Nat) (h0 : Back n0 S Inv σ)
    (h : ∀ i, Inv i → Runs P GL n0 Pn c (Ex.seq (fun σ' => Back n0 S (fun j => Inv j ∧ m j < m i) σ') Q) (S i)) : Runs P GL n0 Pn (.loop c) Q σ := fun B hB a w hr => by
  obtain ⟨i, ρ, hI, hi⟩ := h0
  refine wp_loop_rounds (m i + 1) ?_
  have key : ∀ (n : Nat) (i : ι), m i < n → Inv i → ∀ a w, Rel GL B (S i) a w → Code.rounds P c (liftQ GL B Pn Q) n a w := by
    intro n
    induction n with
    | zero => intro i hi; omega
    | succ n ih =>
      intro i hlt hI a w hr
      refine wp_mono (h i hI B hB a w hr) fun e a' w' hl => ?_
      cases e with
      | normal =>
        obtain ⟨σ', hr', j, ρ, ⟨hj1, hj2⟩, hj3⟩ := hl
        exact ih j (by omega) hj1 a' w' (hj3.rel hB hr')
      | exit id => exact hl
      | goto l => exact hl
      | ret => exact hl
      | panic c => exact hl
      | outgrown => exact hl
  exact key _ i (Nat.lt_succ_self _) hI a w (hi.rel hB hr)

/-- the ways through c1 meet again, in one of a family of states -/
theorem runs_cut {c1 c2 : Code} {Q : Ex → St → Prop} {σ : St} {ι : Type} (S : ι → St) (Inv : ι → Prop) (h1 : Runs P GL n0 Pn c1 (Ex.seq (fun σ' => Back n0 S Inv σ') Q) σ) (h2 : ∀ i, Inv i → Runs P GL n0 Pn c2 Q (S i)) : Runs P GL n0 Pn (.seq c1 c2) Q σ :=
  fun B hB a w hr => wp_seq (wp_mono (h1 B hB a w hr) fun e a' w' hl => by
    cases e with
    | normal =>
      obtain ⟨σ', hr', j, ρ, hj, hj2⟩ := hl
      exact h2 j hj B hB a' w' (hj2.rel hB hr')
    | exit id => exact hl
    | goto l => exact hl
    | ret => exact hl
    | panic c => exact hl
    | outgrown => exact hl)
theorem runs_meets {c : Code} {Q : Ex → St → Prop} {σ : St} (σ' : St) (ρ : List Nat) (hm : Meets n0 σ σ' ρ) (h : Runs P GL n0 Pn c Q σ') : Runs P GL n0 Pn c Q σ := fun B hB a w hr => h B hB a w (hm.rel hB hr)

/-! calls -/
theorem op_call_of {o : Oper} {σ : St} {K : St → Prop} {f : FuncId} {obc : List Ob} {argsc : List SV} {Q : Out → List Ob → Prop} (ht : Tri P GL f obc argsc Q) (ix : List Nat) {svs m : List SV} (hrun : ∀ B g a w, RelG GL B σ g a w → ∃ vs, (execOp a.eval o).run P w = .ok (.enter f ⟨vs⟩) w ∧ SDenL g svs vs)
    (hfit : ObFits σ.ob ix obc ix) (hnd : nodupB ix = true) (hno : noIt obc = true) (hit : ∀ i ∈ ix, ∀ (j : Nat) f dn cur, σ.ob[j]? ≠ some (.itI i f dn cur)) (hra : renL ix argsc = some m) (hfa : FitL σ.ob svs m)
    (hret : ∀ s ob', Q (.ret s) ob' → ∃ obr ob1 obn sl1 s', renOb (names ix σ.ob.length (ob'.length - ix.length)) ob' = some obr ∧ kObL ix σ.ob = some ob1 ∧ mergeO ix ob1 obr = some obn ∧ kSlL ix σ.sl = some sl1 ∧ s.ren (names ix σ.ob.length (ob'.length - ix.length)) = some s' ∧
      (∀ t, o.dst = some t → Nat.blt t σ.n = true ∧ K ⟨σ.n, (t, s') :: sl1, obn⟩) ∧ (o.dst = none → K ⟨σ.n, sl1, obn⟩))
    (hpan : ∀ s ob', Q (.pan s) ob' → ∃ obr ob1 obn sl1 s', renOb (names ix σ.ob.length (ob'.length - ix.length)) ob' = some obr ∧ kObL ix σ.ob = some ob1 ∧ mergeO ix ob1 obr = some obn ∧ kSlL ix σ.sl = some sl1 ∧ s.ren (names ix σ.ob.length (ob'.length - ix.length)) = some s' ∧ Pn.pn s' sl1 obn) :
    OpR P GL n0 Pn (· ∈ ix) o σ K := fun B hB g a w hr next Q' hK hP => by
  obtain ⟨vs, hrun, hd⟩ := hrun B g a w hr
  have hnd' := nodupB_eq hnd
  have hsub := hr.store.sub hfit hnd' (fun j i f dn cur hj => absurd hj (noIt_get hno j i f dn cur))
  have hd2 := renL_back hsub.2.1 _ hra (hfa.den hr.store hd)
  unfold Oper.wp
  rw [hrun, Oper.upon_enter]
  refine (ht _ w vs hsub.1 hd2).mono fun e w' he => ?_
  obtain ⟨g', ob', hs, hst, hle, hno', he⟩ := he
  cases e with
  | returned v =>
    obtain ⟨s, hs1, hq⟩ := he
    obtain ⟨obr, ob1, obn, sl1, s', e1, e2, e3, e4, e5, e6, e7⟩ := hret s ob' hq
    obtain ⟨gn, hrel, hkeep, hden⟩ := hr.after hfit hnd' hno hit hs hst hle hno' e1 e2 e3 e4
    cases hdst : o.dst with
    | none => exact hK _ _ _ _ hrel hkeep (e7 hdst)
    | some t =>
      obtain ⟨e8, e9⟩ := e6 t hdst
      exact hK _ _ _ _ (hrel.put (s := s') e8 (hden s s' v e5 hs1)) hkeep e9
  | panicked c =>
    obtain ⟨v, s, rfl, hs1, hq⟩ := he
    obtain ⟨obr, ob1, obn, sl1, s', e1, e2, e3, e4, e5, e6⟩ := hpan s ob' hq
    obtain ⟨gn, hrel, hkeep, hden⟩ := hr.after hfit hnd' hno hit hs hst hle hno' e1 e2 e3 e4
    exact hP _ _ ⟨gn, sl1, obn, v, s', rfl, hrel.store, hrel.stp, hden s s' v e5 hs1, hrel.slots, e6⟩
  | outgrown => exact he.elim

def evL (GL : Nat → List D) (sl : List (Nat × SV)) : List Operand → Option (List SV)
  | [] => some []
  | x :: r => (evO GL sl x).bind fun s => (evL GL sl r).bind fun l => some (s :: l)
theorem evL_den {B : Bs} {σ : St} {g : Gh} {a : Act} {w : World} (hr : RelG GL B σ g a w) : ∀ {l : List Operand} {ss : List SV}, evL GL σ.sl l = some ss → SDenL g ss (l.map a.eval)
  | [], ss, h => by simp [evL] at h; subst h; rfl
  | x :: r, ss, h => by
    simp only [evL, Option.bind_eq_some_iff, Option.some.injEq] at h
    obtain ⟨s, h1, l, h2, rfl⟩ := h
    exact ⟨_, _, rfl, hr.evo h1, evL_den hr h2⟩
def callable (P : Program) (f : FuncId) : Bool :=
  match P.funcs[f]? with
  | some fn => fn.name != "runtime.NumGoroutine" && fn.body.isSome
  | none => false
theorem run_callFunc {f : FuncId} (h : callable P f = true) (args : Array Value) (w : World) : (callFunc f args).run P w = .ok (.enter f args) w := by
  unfold callable at h
  split at h
  · rename_i fn hf
    simp only [Bool.and_eq_true, bne_iff_ne, ne_eq] at h
    have h1 : (fn.name == "runtime.NumGoroutine") = false := by simpa using h.1
    have h2 : fn.body.isNone = false := by cases hb : fn.body <;> simp_all
    simp only [callFunc, Sem.run_bind, run_program, Result.andThen_ok, hf, h1, h2, Bool.false_eq_true, if_false]
    rfl
  · cases h
/-- a call of a function by its name -/
theorem run_call_f {o : Oper} {σ : St} {f : FuncId} {args : Array Operand} {ts : Array TypeId} {svs : List SV} (hc : callable P f = true) (ho : o.op = .call { callee := .value (.func f), args := args, argTypes := ts }) (ha : evL GL σ.sl args.toList = some svs) :
    ∀ B g a w, RelG GL B σ g a w → ∃ vs, (execOp a.eval o).run P w = .ok (.enter f ⟨vs⟩) w ∧ SDenL g svs vs := fun B g a w hr => by
  refine ⟨args.toList.map a.eval, ?_, evL_den hr ha⟩
  have hrun : (execOp a.eval o).run P w = (callFunc f ⟨args.toList.map a.eval⟩).run P w := by
    simp only [execOp, ho, resolve, Act.eval, Deferred.ofValue, Sem.run_bind, Sem.run_pure, Result.andThen_ok, invoke]
    congr 2
    apply Array.ext'
    simp
  rw [hrun, run_callFunc hc]
/-- a call of a closure -/
theorem run_call_c {o : Oper} {σ : St} {f : FuncId} {x : Operand} {first caps svs svs1 svs2 : List SV} {args : Array Operand} {ts : Array TypeId} (hc : callable P f = true) (hnf : ∀ f', x ≠ .func f') (ho : o.op = .call { callee := .value x, args := args, argTypes := ts })
    (hx : evO GL σ.sl x = some (.fn (.func f) first caps)) (ha : evL GL σ.sl args.toList = some svs) (h1 : appO first svs = some svs1) (h2 : appO svs1 caps = some svs2) :
    ∀ B g a w, RelG GL B σ g a w → ∃ vs, (execOp a.eval o).run P w = .ok (.enter f ⟨vs⟩) w ∧ SDenL g svs2 vs := fun B g a w hr => by
  obtain ⟨vs, us, e, d1, d2⟩ := hr.evo hx
  refine ⟨(vs ++ args.toList.map a.eval) ++ us, ?_, ?_⟩
  · have hrun : (execOp a.eval o).run P w = (callFunc f ⟨(vs ++ args.toList.map a.eval) ++ us⟩).run P w := by
      simp only [execOp, ho, resolve, e, Deferred.ofValue, Sem.run_bind, Sem.run_pure, Result.andThen_ok, invoke]
      congr 2
      apply Array.ext'
      simp
    rw [hrun, run_callFunc hc]
  · rw [appO_eq h2, appO_eq h1]
    exact (d1.append (evL_den hr ha)).append d2

/-! the end of a function -/
def fromRes (GL : Nat → List D) (P : Program) (σ : St) : ResultVar → SV → Prop
  | .tmp t, s => slo t σ.sl = some s
  | .cell x T, s => ∃ i off l ty l1 cs ti, slo x σ.sl = some (.blk i off) ∧ nthO i σ.ob = some (.cells l ty) ∧ tiOf P T = ti ∧ ti.ok = true ∧ dropO off l = some l1 ∧ takeO ti.size l1 = some cs ∧ fromO ti.agg cs = some s
def fromRess (GL : Nat → List D) (P : Program) (σ : St) : List ResultVar → List SV → Prop
  | [], l => l = []
  | r :: rs, l => ∃ s l', l = s :: l' ∧ fromRes GL P σ r s ∧ fromRess GL P σ rs l'
def retSV : List SV → SV
  | [s] => s
  | l => .tup l
def retOf : List Value → Value
  | [v] => v
  | vs => .tuple ⟨vs⟩
/-- what a function hands over: a part of its objects under the caller's names -/
def Leave (n0 : Nat) (Q : SV → List Ob → Prop) (s : SV) (ob : List Ob) : Prop :=
  ∃ ρ s' ob' t, pre 0 n0 ρ = true ∧ nodupB ρ = true ∧ noIt ob' = true ∧ ObFits ob ρ ob' ρ ∧ SV.ren ρ s' = some t ∧ Fit ob s t ∧ Q s' ob'
def Fin (P : Program) (GL : Nat → List D) (n0 : Nat) (rs : List ResultVar) (Q : Out → List Ob → Prop) (σ : St) : Prop :=
  ∃ l, fromRess GL P σ rs l ∧ Leave n0 (fun s ob => Q (.ret s) ob) (retSV l) σ.ob
def fin (P : Program) (GL : Nat → List D) (n0 : Nat) (rs : List ResultVar) (Q : Out → List Ob → Prop) : Ex → St → Prop
  | .normal, σ => Fin P GL n0 rs Q σ
  | .ret, σ => Fin P GL n0 rs Q σ
  | _, _ => False
theorem fin_ret {rs : List ResultVar} {Q : Out → List Ob → Prop} {σ : St} (h : Fin P GL n0 rs Q σ) : fin P GL n0 rs Q .ret σ := h
theorem fin_normal {rs : List ResultVar} {Q : Out → List Ob → Prop} {σ : St} (h : Fin P GL n0 rs Q σ) : fin P GL n0 rs Q .normal σ := h

def resOne (tmps : Array Value) : ResultVar → Sem Value
  | .tmp t => pure (tmps.getD t undef)
  | .cell x t => do loadVar t (← asAddr (tmps.getD x undef))
theorem results_eq (fn : Func) (tmps : Array Value) : results fn tmps = (do let vs ← fn.results.mapM (resOne tmps); pure (if h : vs.size = 1 then vs[0] else .tuple vs)) := by
  have h : ∀ f g : ResultVar → Sem Value, (∀ r, f r = g r) → (do let vs ← fn.results.mapM f; pure (if h : vs.size = 1 then vs[0] else .tuple vs) : Sem Value) = (do let vs ← fn.results.mapM g; pure (if h : vs.size = 1 then vs[0] else .tuple vs)) :=
    fun f g h => by rw [funext h]
  exact h _ _ fun r => by cases r <;> rfl

theorem fromRess_run {B : Bs} {σ : St} {g : Gh} {a : Act} {w : World} (hr : RelG GL B σ g a w) : ∀ {rs : List ResultVar} {l : List SV}, fromRess GL P σ rs l → ∃ vs, (rs.mapM (resOne a.tmps)).run P w = .ok vs w ∧ SDenL g l vs := by
  intro rs
  induction rs with
  | nil => intro l h; simp only [fromRess] at h; subst h; exact ⟨[], rfl, rfl⟩
  | cons r rs ih =>
    intro l h
    obtain ⟨s, l', rfl, h1, h2⟩ := h
    obtain ⟨vs, hrun, hd⟩ := ih h2
    cases r with
    | tmp t =>
      refine ⟨a.tmps.getD t undef :: vs, ?_, ⟨_, _, rfl, ?_, hd⟩⟩
      · simp only [List.mapM_cons, resOne, Sem.run_bind, Sem.run_pure, Result.andThen_ok, hrun]
      · have := hr.slots t; rw [slo_slk h1] at this; exact this
    | cell x T =>
      obtain ⟨i, off, l0, ty, l1, cs, ti, e1, e2, rfl, e4, e5, e6, e7⟩ := h1
      have hx := hr.slots x
      rw [slo_slk e1] at hx
      obtain ⟨b, hb, hx⟩ := hx
      obtain ⟨us, hh, hd0, hm⟩ := hr.store.obs i _ _ (nthO_eq e2) hb
      have hl' := dropO_eq e5
      have hc' := takeO_eq e6
      have hd2 : SDenL g cs ((us.drop off).take (tiOf P T).size) := by rw [← hc'.1, ← hl'.1]; exact (hd0.drop off).take _
      have hlen : ((us.drop off).take (tiOf P T).size).length = (tiOf P T).size := by rw [hd2.length, ← hc'.1]; simp; omega
      have hld := run_loadVar_cells (P := P) e4 (w := w) (b := b) (off := off) hlen (fun j y hj => by
          rw [List.getElem?_take] at hj
          split at hj
          · rw [List.getElem?_drop] at hj
            simp only [World.cell?, hh]
            simpa using hj
          · cases hj) (fun hag => by
          rw [hag] at e7
          have e := fromO_one e7
          match h9 : (us.drop off).take (tiOf P T).size, hd2.length.trans e with
          | [y], _ => exact ⟨y, rfl⟩)
      refine ⟨_ :: vs, ?_, ⟨_, _, rfl, fromO_den e7 hd2, hd⟩⟩
      have ha : (asAddr (.pointer (some ⟨b, off, none⟩))).run P w = .ok ⟨b, off, none⟩ w := rfl
      simp only [List.mapM_cons, resOne, Sem.run_bind, hx, ha, Sem.run_pure, Result.andThen_ok, hld, hrun]

theorem retSV_den {g : Gh} : ∀ {l : List SV} {vs : List Value}, SDenL g l vs → (retSV l).Den g (retOf vs)
  | [], _, h => by cases h; exact ⟨[], rfl, rfl⟩
  | [s], _, ⟨x, l', e, h1, h2⟩ => by cases h2; subst e; exact h1
  | s :: t :: r, _, ⟨x, l', e, h1, ⟨y, l2, e2, h2, h3⟩⟩ => by subst e e2; exact ⟨_, rfl, x, _, rfl, h1, y, _, rfl, h2, h3⟩

theorem Fin.run {B : Bs} (hB : B.n0 = n0) {fn : Func} {Q : Out → List Ob → Prop} {σ : St} {a : Act} {w : World} (hr : Rel GL B σ a w) (h : Fin P GL n0 fn.results.toList Q σ) :
    ∃ v, (results fn a.tmps).run P w = .ok v w ∧ ∃ g' ob', StoreOk GL ob' g' w ∧ Stp B ob' g' w ∧ n0 ≤ ob'.length ∧ noIt ob' = true ∧ ∃ s, s.Den g' v ∧ Q (.ret s) ob' := by
  obtain ⟨g, hr⟩ := hr
  obtain ⟨l, h1, ρ, s', ob', t, hpre, hnd, hno, hfit, hren, hf, hq⟩ := h
  obtain ⟨vs, hrun, hd⟩ := fromRess_run hr h1
  have hnd' := nodupB_eq hnd
  have hno2 : ∀ (j i : Nat) f dn cur, ob'[j]? = some (.itI i f dn cur) → ob'[i]? = some (.mapI f) := fun j i f dn cur hj => absurd hj (noIt_get hno j i f dn cur)
  have hsub := hr.store.sub hfit hnd' hno2
  refine ⟨retOf vs, ?_, _, ob', hsub.1, stp_sub hB hpre hr.stp hr.store hfit hnd' hno2, ?_, hno, s', SV.ren_back hsub.2.1 s' hren (hf.den hr.store (retSV_den hd)), hq⟩
  · rw [results_eq]
    simp only [Array.mapM_eq_mapM_toList, Sem.run_bind, Sem.run_map, hrun, Result.andThen_ok, Sem.run_pure]
    congr 1
    match vs with
    | [] => rfl
    | [v] => rfl
    | v :: u :: r => simp [retOf]
  · have h5 := hfit.get.1
    rw [h5]
    rcases Nat.lt_or_ge ρ.length n0 with h6 | h6
    · have := pre_get hpre ρ.length h6
      simp at this
    · exact h6

def slots : Nat → List SV → List (Nat × SV)
  | _, [] => []
  | k, s :: r => (k, s) :: slots (k + 1) r
theorem slk_slots {g : Gh} : ∀ {ss : List SV} {vs : List Value} (k : Nat), SDenL g ss vs → ∀ t, k ≤ t → ∀ {y : Value}, (∀ x, vs[t - k]? = some x → y = x) → (slk t (slots k ss)).Den g y
  | [], vs, k, d, t, hkt, y, h => trivial
  | s :: r, _, k, ⟨x, l', e, dx, dl⟩, t, hkt, y, h => by
    subst e
    unfold slots
    rw [slk_cons]
    split
    · rename_i ek; subst ek
      have := h x (by simp)
      subst this; exact dx
    · rename_i ek
      refine slk_slots (k + 1) dl t (by omega) (fun z hz => h z ?_)
      have : t - k = t - (k + 1) + 1 := by omega
      rw [this]; simpa using hz

abbrev pnL (n0 : Nat) (Q : Out → List Ob → Prop) : PnS := ⟨fun s _ ob => Leave n0 (fun s ob' => Q (.pan s) ob') s ob, fun _ _ _ _ => False⟩
/-- what is promised of a call's end, begun at B -/
def triPost (GL : Nat → List D) (B : Bs) (Q : Out → List Ob → Prop) (e : Ending) (w' : World) : Prop :=
  ∃ g' ob', StoreOk GL ob' g' w' ∧ Stp ⟨B.g, B.w, B.X, B.n0, []⟩ ob' g' w' ∧ B.n0 ≤ ob'.length ∧ noIt ob' = true ∧
      (match e with
       | .returned v => ∃ s, s.Den g' v ∧ Q (.ret s) ob'
       | .panicked c => ∃ v s, c = [{ v := v, recovered := false }] ∧ s.Den g' v ∧ Q (.pan s) ob'
       | .outgrown => False)
/-- a function's begin -/
theorem rel_begin {ob : List Ob} {args : List SV} {g : Gh} {w : World} {vs : List Value} {n : Nat} (hn : args.length ≤ n) (hs : StoreOk GL ob g w) (hd : SDenL g args vs) :
    RelG GL ⟨g, w, blocksOf ob g, ob.length, []⟩ ⟨n, slots 0 args, ob⟩ g { tmps := (⟨vs⟩ : Array Value) ++ Array.replicate (n - (⟨vs⟩ : Array Value).size) undef, defers := [] } w := by
  refine ⟨rfl, by have := hd.length; simp; omega, fun t => ?_, hs, ⟨Fr.refl _ _, Mle.refl _, fun b o x h1 h2 => ?_, fun i o p b h1 h2 h3 => .inl ⟨i, o, p, h1, h2, h3⟩, fun _ _ _ h => h⟩⟩
  · refine slk_slots 0 hd t (Nat.zero_le _) fun x hx => ?_
    have hx' : vs[t]? = some x := by simpa using hx
    have ht : t < vs.length := (List.getElem?_eq_some_iff.1 hx').1
    simp only [Array.getD_eq_getD_getElem?]
    rw [Array.getElem?_append_left (by simpa using ht)]
    simp [hx']
  · simp only at h2; rw [h2] at h1; cases h1
theorem Stp.forget {B : Bs} {ob : List Ob} {g : Gh} {w : World} (h : Stp B ob g w) (ds : List Deferred) : Stp ⟨B.g, B.w, B.X, B.n0, ds⟩ ob g w := ⟨h.fr, h.mem, h.new, h.own, h.at'⟩
theorem pan_post {B : Bs} {Q : Out → List Ob → Prop} {c : List PanicEntry} {a : Act} {w : World} (hp : PanOk GL B (pnL B.n0 Q) c a w) : triPost GL B Q (.panicked c) w := by
  obtain ⟨g1, sl1, ob1, v, s, rfl, hs1, hst1, hd1, _, ρ, s', ob', t, hpre, hnd, hno, hfit, hren, hf1, hq⟩ := hp
  have hnd' := nodupB_eq hnd
  have hno2 : ∀ (j i : Nat) f dn cur, ob'[j]? = some (.itI i f dn cur) → ob'[i]? = some (.mapI f) := fun j i f dn cur hj => absurd hj (noIt_get hno j i f dn cur)
  have hsub := hs1.sub hfit hnd' hno2
  refine ⟨_, ob', hsub.1, (stp_sub rfl hpre hst1 hs1 hfit hnd' hno2).forget [], ?_, hno, v, s', rfl, SV.ren_back hsub.2.1 s' hren (hf1.den hs1 hd1), hq⟩
  rw [hfit.get.1]
  rcases Nat.lt_or_ge ρ.length B.n0 with h6 | h6
  · have := pre_get hpre ρ.length h6
    simp at this
  · exact h6
theorem fin_post {B : Bs} (hB : B.n0 = n0) {fn : Func} {Q : Out → List Ob → Prop} {σ : St} {a : Act} {w : World} (hr : Rel GL B σ a w) (h : Fin P GL n0 fn.results.toList Q σ) :
    ∃ v, (results fn a.tmps).run P w = .ok v w ∧ triPost GL B Q (.returned v) w := by
  subst hB
  obtain ⟨v, h1, g', ob', h2, h3, h4, h5, h6⟩ := Fin.run rfl hr h
  exact ⟨v, h1, g', ob', h2, h3.forget [], h4, h5, h6⟩
theorem wp_of_runs {B : Bs} (hd : B.df = []) {fn : Func} {c : Code} {Q : Out → List Ob → Prop} {rs : List ResultVar} (hrs : fn.results.toList = rs) {σ : St} (h : Runs P GL B.n0 (pnL B.n0 Q) c (fin P GL B.n0 rs Q) σ) {a : Act} {w : World} (hr : Rel GL B σ a w) :
    c.wp P (bodyPost P fn (triPost GL B Q)) a w := by
  subst hrs
  refine wp_mono (h _ rfl _ w hr) fun e a' w' hl => ?_
  have hfin : ∀ σ, Rel GL B σ a' w' → Fin P GL B.n0 fn.results.toList Q σ → a'.defers = [] ∧ ∃ v, (results fn a'.tmps).run P w' = .ok v w' ∧ triPost GL B Q (.returned v) w' :=
    fun σ hr hk => ⟨by obtain ⟨_, hr⟩ := hr; exact hr.defers.trans hd, fin_post rfl hr hk⟩
  cases e with
  | normal => obtain ⟨σ, hr', hk⟩ := hl; obtain ⟨h0, v, h1, h2⟩ := hfin σ hr' hk; exact ⟨h0, v, h1, h2⟩
  | ret =>
    rcases hl with hl | ⟨σ, hr', hk⟩
    · exact hl.elim
    · obtain ⟨h0, v, h1, h2⟩ := hfin σ hr' hk; exact ⟨h0, v, h1, h2⟩
  | exit id => obtain ⟨σ, hr', hk⟩ := hl; exact hk.elim
  | goto l => obtain ⟨σ, hr', hk⟩ := hl; exact hk.elim
  | panic c =>
    rcases hl with hl | ⟨h0, hp⟩
    · exact hl.elim
    · exact ⟨h0.trans hd, pan_post hp⟩
  | outgrown => exact hl.elim
theorem tri_of_runs {f : FuncId} {fn : Func} {c : Code} {ob : List Ob} {args : List SV} {Q : Out → List Ob → Prop} (hf : P.funcs[f]? = some fn) (hb : fn.body = some c) {n : Nat} (hnt : fn.ntmps = n) {rs : List ResultVar} (hrs : fn.results.toList = rs)
    (hn : args.length ≤ n) (h : Runs P GL ob.length (pnL ob.length Q) c (fin P GL ob.length rs Q) ⟨n, slots 0 args, ob⟩) : Tri P GL f ob args Q := by
  subst hnt
  intro g w vs hs hd
  refine calls_of_wp hf hb ?_
  exact wp_of_runs (B := ⟨g, w, blocksOf ob g, ob.length, []⟩) rfl hrs h ⟨g, rel_begin hn hs hd⟩
end
end Go.Vd
