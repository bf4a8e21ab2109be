/-
  What is proved here: rules for regions whose order is drawn: what only looks is taken first, the rest in its order; over any program.
-/
import Derived.Test.YtneaancanfpdhaaGreatDoorY9
import Derived.Still
import Derived.KernelRfl
namespace Go.Vd
open Go Go.RowKit

section
variable {P : Program} {ops : Array Oper} {Q : Exit → Act → World → Prop}

/-- does operation j wait for operation i? -/
def deps (ops : List Oper) (j i : Nat) : Bool := match nthO j ops with
  | some o => o.after.toList.any fun e => cond (Region.binds .any e) (Nat.beq e.on i) false
  | none => false
abbrev Hd := List (Nat × Addr × Value)
def CHt (Hc : Hd) (w : World) : Prop := ∀ p ∈ Hc, w.cell? p.2.1 = some p.2.2
def CHi (i : Nat) (Hc : Hd) (w : World) : Prop := ∀ p ∈ Hc, p.1 = i → w.cell? p.2.1 = some p.2.2
/-- what is still held behind operation j -/
def filt (ops : List Oper) (j : Nat) (Hc : Hd) : Hd := Hc.filter fun p => !deps ops j p.1

def wpH (P : Program) (ops : Array Oper) (Q : Exit → Act → World → Prop) : Nat → Hd → Array Bool → Act → World → Prop
  | 0, _, listed, a, w => Region.ready .any ops listed = [] ∧ Q .normal a w
  | fuel + 1, Hc, listed, a, w =>
    (Region.ready .any ops listed = [] → Q .normal a w) ∧
    ∀ i ∈ Region.ready .any ops listed, wpOp P ops Q i (fun a' w' => CHt (filt ops.toList i Hc) w' ∧ wpH P ops Q fuel (filt ops.toList i Hc) (listed.setIfInBounds i true) a' w') a w

theorem wpH_any : ∀ (fuel : Nat) (Hc : Hd) (listed : Array Bool) (a : Act) (w : World), wpH P ops Q fuel Hc listed a w → wpAny P .any ops Q fuel listed a w
  | 0, _, _, _, _, h => h
  | fuel + 1, Hc, listed, _, _, h => ⟨h.1, fun i hi => wpOp_mono (fun a' w' h' => wpH_any fuel _ _ a' w' h'.2) (h.2 i hi)⟩
theorem wpH_mono : ∀ (fuel : Nat) (Hc Hd' : Hd) (listed : Array Bool) (a : Act) (w : World), (∀ p ∈ Hc, p ∈ Hd') → wpH P ops Q fuel Hd' listed a w → wpH P ops Q fuel Hc listed a w
  | 0, _, _, _, _, _, _, h => h
  | fuel + 1, Hc, Hd', listed, _, _, hs, h => ⟨h.1, fun i hi => wpOp_mono (fun a' w' h' => by
      have hs2 : ∀ p ∈ filt ops.toList i Hc, p ∈ filt ops.toList i Hd' := fun p hp => by
        unfold filt at hp ⊢
        rw [List.mem_filter] at hp ⊢
        exact ⟨hs p hp.1, hp.2⟩
      exact ⟨fun p hp => h'.1 p (hs2 p hp), wpH_mono fuel _ _ _ a' w' hs2 h'.2⟩) (h.2 i hi)⟩

def Yields (P : Program) (ops : Array Oper) (i : Nat) (Hc : Hd) (o : Oper) (v : Value) (a : Act) : Prop :=
  (Region.wanted o (yielded ops a.tmps) = true ∧ ∀ w, CHi i Hc w → (execOp a.eval o).run P w = .ok (.value v) w) ∨ (Region.wanted o (yielded ops a.tmps) = false ∧ v = undef)

theorem Yields.of_same {i : Nat} {Hc : Hd} {o : Oper} {v : Value} {a a' : Act} (h : Yields P ops i Hc o v a) (he : execOp a'.eval o = execOp a.eval o)
    (hw : Region.wanted o (yielded ops a'.tmps) = Region.wanted o (yielded ops a.tmps)) : Yields P ops i Hc o v a' := by
  unfold Yields at *; rw [he, hw]; exact h
theorem Yields.filt {i j : Nat} {Hc : Hd} {o : Oper} {v : Value} {a : Act} (h : Yields P ops i Hc o v a) (hd : deps ops.toList j i = false) : Yields P ops i (filt ops.toList j Hc) o v a := by
  refine h.imp (fun ⟨h1, h2⟩ => ⟨h1, fun w hc => h2 w fun p hp e => hc p ?_ e⟩) (fun h => h)
  unfold Vd.filt
  rw [List.mem_filter]
  exact ⟨hp, by rw [e, hd]; rfl⟩

theorem Yields.op {Hc : Hd} {i : Nat} {o : Oper} {v : Value} {a : Act} {w : World} {K : Act → World → Prop} (hi : ops[i]? = some o) (hy : Yields P ops i Hc o v a) (hw : CHt Hc w) (h : K (a.put o.dst v) w) :
    wpOp P ops Q i K a w := by
  unfold wpOp
  simp only [hi]
  rcases hy with ⟨h1, h2⟩ | ⟨h1, rfl⟩
  · rw [if_pos h1]; left; unfold Oper.wp; rw [h2 w (fun p hp _ => hw p hp)]; exact h
  · rw [if_neg (by simp [h1])]; exact h

theorem wpOp_put {i : Nat} {Hc : Hd} {j : Nat} {oi oj : Oper} {v : Value} {w : World} (hQ : ∀ c (a : Act) d v w, Q (.panic c) (a.put d v) w → Q (.panic c) a w) (hj : ops[j]? = some oj) (hap : oi.apart ops oj = true)
    (hsi : ∀ cs b, oi.op ≠ .select cs b) (hsj : ∀ cs b, oj.op ≠ .select cs b) {K : Act → World → Prop} {a : Act}
    (hy : Yields P ops i Hc oi v a) (h : wpOp P ops Q j K (a.put oi.dst v) w) :
    wpOp P ops Q j (fun a' w' => Yields P ops i Hc oi v a' ∧ K (a'.put oi.dst v) w') a w := by
  obtain ⟨h1, h2, h3⟩ := Oper.apart_spec hap
  have keep : ∀ u, Yields P ops i Hc oi v (a.put oj.dst u) := fun u => hy.of_same (execOp_put oi hsi a oj.dst u h3) (wanted_put oi a oj.dst u h3)
  have keepd : ∀ d u, Yields P ops i Hc oi v (({ a with defers := d :: a.defers } : Act).put oj.dst u) := fun d u => by
    have hb : Yields P ops i Hc oi v ({ a with defers := d :: a.defers } : Act) := hy.of_same (execOp_congr oi hsi fun x _ => by cases x <;> rfl) rfl
    exact hb.of_same (execOp_put oi hsi _ oj.dst u h3) (wanted_put oi _ oj.dst u h3)
  unfold wpOp at *
  simp only [hj] at *
  rw [wanted_put oj a oi.dst v h1] at h
  split
  · rename_i hw
    simp only [hw, if_true] at h
    rcases h with h | h
    · left
      unfold Oper.wp at *
      rw [execOp_put oj hsj a oi.dst v h1] at h
      generalize (execOp a.eval oj).run P w = r at *
      cases r with
      | ok n w' =>
        cases n <;> simp only [Oper.upon] at h ⊢
        case value u => exact ⟨keep u, by rw [← Act.put_comm a v u h2]; exact h⟩
        case skip => exact ⟨keep _, by rw [← Act.put_comm a v undef h2]; exact h⟩
        case enter f args =>
          refine h.mono fun e w'' he => ?_
          cases e with
          | returned u => exact ⟨keep u, by rw [← Act.put_comm a v u h2]; exact he⟩
          | panicked c => exact hQ _ _ _ _ _ he
          | outgrown => exact he
        case defer d =>
          refine ⟨keepd d _, ?_⟩
          rw [← Act.put_comm _ v undef h2, ← Act.put_defers]
          exact h
        case row r args => exact Rows.mono h fun u w'' hu => ⟨keep u, by rw [← Act.put_comm a v u h2]; exact hu⟩
      | halt x w' =>
        cases x <;> simp only [Oper.upon] at h ⊢
        exact hQ _ _ _ _ _ h
    · right
      obtain ⟨hh, hl⟩ := h
      refine ⟨?_, hl⟩
      unfold Oper.asks at *
      rw [execOp_put oj hsj a oi.dst v h1] at hh
      exact hh
  · rename_i hw
    simp only [hw] at h
    exact ⟨keep _, by rw [← Act.put_comm a v undef h2]; exact h⟩

theorem wpH_first {i : Nat} {oi : Oper} {v : Value} (hQ : ∀ c (a : Act) d v w, Q (.panic c) (a.put d v) w → Q (.panic c) a w) (hi : ops[i]? = some oi)
    (hsel : ∀ (j : Nat) (o : Oper) cs b, ops[j]? = some o → o.op ≠ .select cs b) :
    ∀ (fuel : Nat) (Hc : Hd) (listed : Array Bool) (a : Act) (w : World),
      (∀ (j : Nat) (oj : Oper), ops[j]? = some oj → j ≠ i → listed.getD j true = false → (∀ e ∈ oj.after, Region.binds .any e = true → e.on ≠ i) → oi.apart ops oj = true) →
      i ∈ Region.ready .any ops listed → Yields P ops i Hc oi v a → CHt Hc w →
      wpH P ops Q fuel Hc (listed.setIfInBounds i true) (a.put oi.dst v) w → wpH P ops Q (fuel + 1) Hc listed a w := by
  intro fuel
  have hfsub : ∀ (Hc : Hd) (j : Nat) p, p ∈ filt ops.toList j Hc → p ∈ Hc := fun Hc j p hp => by unfold filt at hp; exact (List.mem_filter.1 hp).1
  induction fuel with
  | zero =>
    intro Hc listed a w _ hr hy hc H
    refine ⟨fun h => (by rw [h] at hr; cases hr), fun j hj => ?_⟩
    by_cases hji : j = i
    · subst hji; exact hy.op hi hc ⟨fun p hp => hc p (hfsub _ _ p hp), H⟩
    · have := ready_mono hj hji
      rw [H.1] at this
      cases this
  | succ fuel ih =>
    intro Hc listed a w hfree hr hy hc H
    refine ⟨fun h => (by rw [h] at hr; cases hr), fun j hj => ?_⟩
    by_cases hji : j = i
    · subst hji; exact hy.op hi hc ⟨fun p hp => hc p (hfsub _ _ p hp), wpH_mono _ _ _ _ _ _ (hfsub _ _) H⟩
    · have h1 := H.2 j (ready_mono hj hji)
      obtain ⟨hjun, oj, hoj, hall⟩ := mem_ready.1 hj
      have hnot : ∀ e ∈ oj.after, Region.binds .any e = true → e.on ≠ i := fun e he hb heq => by
        have h1 := hall e he hb
        have h0 := (mem_ready.1 hr).1
        rw [heq] at h1
        rcases Nat.lt_or_ge i listed.size with h' | h'
        · simp [h'] at h0 h1; rw [h0] at h1; cases h1
        · simp [Array.getElem?_eq_none h'] at h1
      have hdep : deps ops.toList j i = false := by
        unfold deps
        split
        · rename_i o ho
          have ho2 := nthO_eq ho
          have ho3 : ops[j]? = some o := by simpa using ho2
          rw [hoj] at ho3; cases ho3
          rw [List.any_eq_false]
          intro e he
          cases hb : Region.binds .any e with
          | false => simp
          | true => simpa using hnot e (by simpa using he) hb
        · rfl
      have h2 := wpOp_put hQ hoj (hfree j oj hoj hji hjun hnot) (fun cs b => hsel i oi cs b hi) (fun cs b => hsel j oj cs b hoj) hy h1
      have hfree' : ∀ (k : Nat) (ok : Oper), ops[k]? = some ok → k ≠ i → (listed.setIfInBounds j true).getD k true = false →
          (∀ e ∈ ok.after, Region.binds .any e = true → e.on ≠ i) → oi.apart ops ok = true := fun k ok hk hki hun hno => by
        refine hfree k ok hk hki ?_ hno
        by_cases hjk : j = k
        · subst hjk; exact hjun
        · rw [getD_set_ne true hjk] at hun; exact hun
      refine wpOp_mono (fun a' w' h3 => ⟨h3.2.1, ih _ (listed.setIfInBounds j true) a' w' hfree' (ready_mono hr (Ne.symm hji)) (h3.1.filt hdep) h3.2.1 ?_⟩) h2
      rw [Array.setIfInBounds_comm _ _ hji]
      exact h3.2.2
end

/-- what is held while an operation runs -/
def heldB (t : Nat → Bool) : List (Nat × Nat) → List Ob → Bool
  | [], _ => true
  | p :: r, ob => !(t p.2) && (match nthO p.2 ob with | some (.cells _ _) => true | _ => false) && heldB t r ob
theorem heldB_eq {t : Nat → Bool} {ob : List Ob} : ∀ {L : List (Nat × Nat)}, heldB t L ob = true → ∀ p ∈ L, t p.2 = false ∧ ∃ c ty, nthO p.2 ob = some (.cells c ty)
  | q :: r, h, p, hp => by
    simp only [heldB, Bool.and_eq_true, Bool.not_eq_true'] at h
    rcases List.mem_cons.1 hp with rfl | hp
    · refine ⟨h.1.1, ?_⟩
      have h2 := h.1.2
      split at h2
      · exact ⟨_, _, by assumption⟩
      · cases h2
    · exact heldB_eq h.2 p hp
theorem held0 {ob : List Ob} {L : List (Nat × Nat)} (h : heldB (fun _ => false) L ob = true) : ∀ p ∈ L, ¬ (fun _ : Nat => False) p.2 ∧ ∃ c ty, nthO p.2 ob = some (.cells c ty) := fun p hp => ⟨fun h => h, (heldB_eq h p hp).2⟩
theorem held1 {i : Nat} {ob : List Ob} {L : List (Nat × Nat)} (h : heldB (fun j => Nat.beq j i) L ob = true) : ∀ p ∈ L, ¬ (fun j => j = i) p.2 ∧ ∃ c ty, nthO p.2 ob = some (.cells c ty) := fun p hp =>
  ⟨fun e => (by have := (heldB_eq h p hp).1; simp only [e] at this; simp at this), (heldB_eq h p hp).2⟩
theorem heldx {ix : List Nat} {ob : List Ob} {L : List (Nat × Nat)} (h : heldB (inIx ix) L ob = true) : ∀ p ∈ L, ¬ (fun j => j ∈ ix) p.2 ∧ ∃ c ty, nthO p.2 ob = some (.cells c ty) := fun p hp =>
  ⟨fun e => (by have := (heldB_eq h p hp).1; rw [inIx_iff.2 e] at this; cases this), (heldB_eq h p hp).2⟩

section
variable {P : Program} {GL : Nat → List D} {n0 : Nat} {Pn : PnS}

/-- what is held: cells that stay, or cells of the objects in L, each with the operation that looks at it -/
def HeldT (g : Gh) (L : List (Nat × Nat)) (Hc : Hd) : Prop :=
  ∀ p ∈ Hc, p.2.1.spot = none ∧ (g.m p.2.1.block p.2.1.off = some p.2.2 ∨ ∃ k b, (p.1, k) ∈ L ∧ g.gs[k]? = some (.loc b) ∧ p.2.1.block = b)
def tagO (i : Nat) : List Nat → List (Nat × Nat) → Option (List (Nat × Nat))
  | [], L => some L
  | k :: r, L => (tagO i r L).bind fun l => some ((i, k) :: l)
theorem tagO_mem {i : Nat} : ∀ {r : List Nat} {L l : List (Nat × Nat)}, tagO i r L = some l → (∀ k ∈ r, (i, k) ∈ l) ∧ ∀ p ∈ L, p ∈ l
  | [], L, l, h => by simp [tagO] at h; subst h; simp
  | k :: r, L, l, h => by
    simp only [tagO, Option.bind_eq_some_iff, Option.some.injEq] at h
    obtain ⟨l', h1, rfl⟩ := h
    have ih := tagO_mem h1
    exact ⟨fun j hj => by rcases List.mem_cons.1 hj with rfl | hj; exact List.mem_cons_self; exact List.mem_cons_of_mem _ (ih.1 j hj), fun p hp => List.mem_cons_of_mem _ (ih.2 p hp)⟩
def filtO (ops : List Oper) (j : Nat) : List (Nat × Nat) → Option (List (Nat × Nat))
  | [] => some []
  | p :: r => (filtO ops j r).bind fun l => cond (deps ops j p.1) (some l) (some (p :: l))
theorem filtO_mem {ops : List Oper} {j : Nat} : ∀ {L l : List (Nat × Nat)}, filtO ops j L = some l → ∀ p ∈ L, deps ops j p.1 = false → p ∈ l
  | [], l, h, p, hp, _ => by cases hp
  | q :: r, l, h, p, hp, hd => by
    simp only [filtO, Option.bind_eq_some_iff] at h
    obtain ⟨l', h1, h2⟩ := h
    cases hb : deps ops j q.1 <;> rw [hb] at h2 <;> simp at h2 <;> subst h2
    · rcases List.mem_cons.1 hp with rfl | hp
      · exact List.mem_cons_self
      · exact List.mem_cons_of_mem _ (filtO_mem h1 p hp hd)
    · rcases List.mem_cons.1 hp with rfl | hp
      · rw [hb] at hd; cases hd
      · exact filtO_mem h1 p hp hd

def AnyR (P : Program) (GL : Nat → List D) (n0 : Nat) (Pn : PnS) (l : List Oper) (fuel : Nat) (listed : Array Bool) (L : List (Nat × Nat)) (Q : Ex → St → Prop) (σ : St) : Prop :=
  ∀ B : Bs, B.n0 = n0 → ∀ g a w Hc, RelG GL B σ g a w → CHt Hc w → HeldT g L Hc → wpH P l.toArray (liftQ GL B Pn.dr Q) fuel Hc listed a w

theorem liftQ_put {B : Bs} {Q : Ex → St → Prop} : ∀ c (a : Act) d v w, liftQ GL B Pn.dr Q (.panic c) (a.put d v) w → liftQ GL B Pn.dr Q (.panic c) a w := by
  intro c a d v w h
  rcases h with h | ⟨h1, g, sl, ob, x, s, h2, h3, h4, h5, _, h6⟩
  · exact h.elim
  · exact .inr ⟨by cases d <;> exact h1, g, [], ob, x, s, h2, h3, h4, h5, fun t => trivial, h6⟩
theorem liftQ_dr {B : Bs} {Q : Ex → St → Prop} : ∀ e a w, liftQ GL B Pn.dr Q e a w → liftQ GL B Pn Q e a w := by
  intro e a w h
  cases e with
  | normal => exact h
  | exit j => exact h
  | goto l => exact h
  | ret => exact .inr (h.resolve_left id)
  | panic c =>
    rcases h with h | ⟨h1, g, sl, ob, x, s, h2, h3, h4, h5, _, h6⟩
    · exact h.elim
    · exact .inr ⟨h1, g, [], ob, x, s, h2, h3, h4, h5, fun t => trivial, h6⟩
  | outgrown => exact h

theorem any_start {id : Nat} {l : List Oper} {Q : Ex → St → Prop} {σ : St} (hm : P.follows .mixedOrders = true) {fuel : Nat} {listed : Array Bool} (hf : l.length = fuel) (hl : Array.replicate fuel false = listed) (h : AnyR P GL n0 Pn l fuel listed [] Q σ) : Runs P GL n0 Pn (.region id l.toArray true) Q σ := fun B hB a w ⟨g, hr⟩ => by
  subst hf hl
  refine wp_mono (Q := liftQ GL B Pn.dr Q) ?_ liftQ_dr
  refine wp_region_any hm ?_
  have hr' : RelG GL B σ g a { w with drawn := w.drawn + 1 } := ⟨hr.defers, hr.size, hr.slots, ⟨hr.store.len, fun i o p h1 h2 => by have := hr.store.obs i o p h1 h2; cases o <;> cases p <;> exact this, hr.store.its, hr.store.disj, hr.store.sat, hr.store.glob⟩,
    ⟨⟨hr.stp.fr.os, hr.stp.fr.tape, hr.stp.fr.output, hr.stp.fr.size, hr.stp.fr.block⟩, hr.stp.mem, hr.stp.new, hr.stp.own, hr.stp.at'⟩⟩
  have := h B hB g a _ [] hr' (fun p hp => by cases hp) (fun p hp => by cases hp)
  simpa using wpH_any _ _ _ _ _ this

theorem a_start {id : Nat} {l : List Oper} {Q : Ex → St → Prop} {σ : St} {fuel : Nat} {listed : Array Bool} (h : AnyR P GL n0 Pn l fuel listed [] Q σ) (hf : l.length = fuel := by exact rfl) (hl : Array.replicate fuel false = listed := by exact rfl) (hm : P.follows .mixedOrders = true := by omega) : Runs P GL n0 Pn (.region id l.toArray true) Q σ := any_start hm hf hl h
theorem any_fl_of {l : List Oper} {fuel t : Nat} {listed listed' : Array Bool} {L : List (Nat × Nat)} {Q : Ex → St → Prop} {n : Nat} {sl : List (Nat × SV)} {ob : List Ob} (i : Nat) {o : Oper} (ho : l[i]? = some o) (hw : ∀ B g a w, RelG GL B ⟨n, sl, ob⟩ g a w → Region.wanted o (yielded l.toArray a.tmps) = true) (hd : o.dst = some t) (ht : Nat.blt t n = true)
    (hb : ((Region.ready .any l.toArray listed).contains i && Region.free .any l.toArray listed i && Region.noSelect l.toArray) = true) (hl : listed.setIfInBounds i true = listed')
    (h : FloatR P GL o ⟨n, sl, ob⟩ fun s L' => ∃ L2, tagO i L' L = some L2 ∧ AnyR P GL n0 Pn l fuel listed' L2 Q ⟨n, (t, s) :: sl, ob⟩) : AnyR P GL n0 Pn l (fuel + 1) listed L Q ⟨n, sl, ob⟩ := fun B hB g a w Hc hr hc hheld => by
  subst hl
  simp only [Bool.and_eq_true] at hb
  obtain ⟨⟨hready, hfree⟩, hsel⟩ := hb
  have ho' : l.toArray[i]? = some o := by simpa using ho
  obtain ⟨Hi, s, y, L', hrun, hcw, hh, hden, L2, hL2, hk⟩ := h B g a w hr
  have htm := tagO_mem hL2
  have hcw2 : CHt (Hi.map (fun p => (i, p)) ++ Hc) w := fun p hp => (List.mem_append.1 hp).elim (fun hp => by
    obtain ⟨q, hq, rfl⟩ := List.mem_map.1 hp; exact hcw q hq) (hc p)
  have hh2 : HeldT g L2 (Hi.map (fun p => (i, p)) ++ Hc) := fun p hp => by
    rcases List.mem_append.1 hp with hp | hp
    · obtain ⟨q, hq, rfl⟩ := List.mem_map.1 hp
      obtain ⟨h1, h2⟩ := hh q hq
      exact ⟨h1, h2.imp (fun h => h) fun ⟨k, b, e1, e2⟩ => ⟨k, b, htm.1 k e1, e2⟩⟩
    · obtain ⟨h1, h2⟩ := hheld p hp
      exact ⟨h1, h2.imp (fun h => h) fun ⟨k, b, e1, e2⟩ => ⟨k, b, htm.2 _ e1, e2⟩⟩
  refine wpH_mono _ _ (Hi.map (fun p => (i, p)) ++ Hc) _ _ _ (fun p hp => List.mem_append.2 (.inr hp)) ?_
  refine wpH_first liftQ_put ho' (Region.noSelect_spec hsel) fuel _ listed a w (Region.free_spec ho' hfree) (by simpa using hready) (v := y) (.inl ⟨hw B g a w hr, fun w' hc' => hrun w' (fun p hp => hc' (i, p) (List.mem_append.2 (.inl (List.mem_map.2 ⟨p, hp, rfl⟩))) rfl)⟩) hcw2 ?_
  rw [hd]
  exact hk B hB g _ w _ (hr.put ht hden) hcw2 hh2

theorem any_fl {l : List Oper} {fuel t : Nat} {listed listed' : Array Bool} {L : List (Nat × Nat)} {Q : Ex → St → Prop} {n : Nat} {sl : List (Nat × SV)} {ob : List Ob} (i : Nat) {o : Oper} (ho : l[i]? = some o) (hg : o.guard = none) (hd : o.dst = some t) (ht : Nat.blt t n = true)
    (hb : ((Region.ready .any l.toArray listed).contains i && Region.free .any l.toArray listed i && Region.noSelect l.toArray) = true) (hl : listed.setIfInBounds i true = listed')
    (h : FloatR P GL o ⟨n, sl, ob⟩ fun s L' => ∃ L2, tagO i L' L = some L2 ∧ AnyR P GL n0 Pn l fuel listed' L2 Q ⟨n, (t, s) :: sl, ob⟩) : AnyR P GL n0 Pn l (fuel + 1) listed L Q ⟨n, sl, ob⟩ :=
  any_fl_of i ho (fun B g a w hr => by simp [Region.wanted, hg]) hd ht hb hl h
theorem A1 {l : List Oper} {fuel t : Nat} {listed listed' : Array Bool} {L : List (Nat × Nat)} {Q : Ex → St → Prop} {n : Nat} {sl : List (Nat × SV)} {ob : List Ob} {o : Oper} (i : Nat) (ho : l[i]? = some o) (h : FloatR P GL o ⟨n, sl, ob⟩ fun s L' => ∃ L2, tagO i L' L = some L2 ∧ AnyR P GL n0 Pn l fuel listed' L2 Q ⟨n, (t, s) :: sl, ob⟩) (hg : o.guard = none := by exact rfl) (hd : o.dst = some t := by exact rfl) (ht : Nat.blt t n = true := by exact rfl) (hb : ((Region.ready .any l.toArray listed).contains i && Region.free .any l.toArray listed i && Region.noSelect l.toArray) = true := by kernel_rfl) (hl : listed.setIfInBounds i true = listed' := by exact rfl) : AnyR P GL n0 Pn l (fuel + 1) listed L Q ⟨n, sl, ob⟩ := any_fl i ho hg hd ht hb hl h
theorem wanted_lit {B : Bs} {n : Nat} {sl : List (Nat × SV)} {ob : List Ob} {g : Gh} {a : Act} {w : World} {l : List Oper} {o : Oper} {j d : Nat} {want b : Bool} (hr : RelG GL B ⟨n, sl, ob⟩ g a w) (hg : o.guard = some (j, want)) (hd : dstOf l j = some d) (hb : slo d sl = some (.d (.v (.bool b)))) :
    Region.wanted o (yielded l.toArray a.tmps) = (b == want) := by
  have hbv : a.tmps.getD d undef = .bool b := by have := hr.slots d; rw [slo_slk hb] at this; exact this
  exact wanted_of hg (by simpa using hd) hbv
theorem any_fl_yes {l : List Oper} {fuel t : Nat} {listed listed' : Array Bool} {L : List (Nat × Nat)} {Q : Ex → St → Prop} {n : Nat} {sl : List (Nat × SV)} {ob : List Ob} (i : Nat) {o : Oper} {j d : Nat} {want : Bool} (ho : l[i]? = some o) (hg : o.guard = some (j, want)) (hj : dstOf l j = some d) (hlit : slo d sl = some (.d (.v (.bool want)))) (hd : o.dst = some t) (ht : Nat.blt t n = true)
    (hb : ((Region.ready .any l.toArray listed).contains i && Region.free .any l.toArray listed i && Region.noSelect l.toArray) = true) (hl : listed.setIfInBounds i true = listed')
    (h : FloatR P GL o ⟨n, sl, ob⟩ fun s L' => ∃ L2, tagO i L' L = some L2 ∧ AnyR P GL n0 Pn l fuel listed' L2 Q ⟨n, (t, s) :: sl, ob⟩) : AnyR P GL n0 Pn l (fuel + 1) listed L Q ⟨n, sl, ob⟩ :=
  any_fl_of i ho (fun B g a w hr => by rw [wanted_lit hr hg hj hlit]; simp) hd ht hb hl h
theorem A6 {l : List Oper} {fuel t : Nat} {listed listed' : Array Bool} {L : List (Nat × Nat)} {Q : Ex → St → Prop} {n : Nat} {sl : List (Nat × SV)} {ob : List Ob} {o : Oper} {j d : Nat} {want : Bool} (i : Nat) (ho : l[i]? = some o) (h : FloatR P GL o ⟨n, sl, ob⟩ fun s L' => ∃ L2, tagO i L' L = some L2 ∧ AnyR P GL n0 Pn l fuel listed' L2 Q ⟨n, (t, s) :: sl, ob⟩) (hg : o.guard = some (j, want) := by exact rfl) (hj : dstOf l j = some d := by exact rfl) (hd : o.dst = some t := by exact rfl) (hlit : slo d sl = some (.d (.v (.bool want))) := by exact rfl) (ht : Nat.blt t n = true := by exact rfl) (hb : ((Region.ready .any l.toArray listed).contains i && Region.free .any l.toArray listed i && Region.noSelect l.toArray) = true := by kernel_rfl) (hl : listed.setIfInBounds i true = listed' := by exact rfl) : AnyR P GL n0 Pn l (fuel + 1) listed L Q ⟨n, sl, ob⟩ := any_fl_yes i ho hg hj hlit hd ht hb hl h
theorem any_fl_no {l : List Oper} {fuel t : Nat} {listed listed' : Array Bool} {L : List (Nat × Nat)} {Q : Ex → St → Prop} {n : Nat} {sl : List (Nat × SV)} {ob : List Ob} (i : Nat) {o : Oper} {j d : Nat} {want : Bool} (ho : l[i]? = some o) (hg : o.guard = some (j, want)) (hj : dstOf l j = some d) (hlit : slo d sl = some (.d (.v (.bool (!want)))) ∨ slo d sl = some (.d (.v undef))) (hd : o.dst = some t) (ht : Nat.blt t n = true)
    (hb : ((Region.ready .any l.toArray listed).contains i && Region.free .any l.toArray listed i && Region.noSelect l.toArray) = true) (hl : listed.setIfInBounds i true = listed')
    (h : AnyR P GL n0 Pn l fuel listed' L Q ⟨n, (t, .d (.v undef)) :: sl, ob⟩) : AnyR P GL n0 Pn l (fuel + 1) listed L Q ⟨n, sl, ob⟩ := fun B hB g a w Hc hr hc hheld => by
  subst hl
  simp only [Bool.and_eq_true] at hb
  obtain ⟨⟨hready, hfree⟩, hsel⟩ := hb
  have ho' : l.toArray[i]? = some o := by simpa using ho
  have hw : Region.wanted o (yielded l.toArray a.tmps) = false := by
    rcases hlit with hlit | hlit
    · rw [wanted_lit hr hg hj hlit]; cases want <;> rfl
    · have hbv : a.tmps.getD d undef = undef := by have := hr.slots d; rw [slo_slk hlit] at this; exact this
      exact wanted_undef hg (by simpa using hj) (t := #[]) (by rw [hbv]; rfl)
  refine wpH_first liftQ_put ho' (Region.noSelect_spec hsel) fuel _ listed a w (Region.free_spec ho' hfree) (by simpa using hready) (v := undef) (.inr ⟨hw, rfl⟩) hc ?_
  rw [hd]
  exact h B hB g _ w _ (hr.put' (s := .d (.v undef)) ht rfl) hc hheld
theorem A7 {l : List Oper} {fuel t : Nat} {listed listed' : Array Bool} {L : List (Nat × Nat)} {Q : Ex → St → Prop} {n : Nat} {sl : List (Nat × SV)} {ob : List Ob} {o : Oper} {j d : Nat} {want : Bool} (i : Nat) (ho : l[i]? = some o) (h : AnyR P GL n0 Pn l fuel listed' L Q ⟨n, (t, .d (.v undef)) :: sl, ob⟩) (hg : o.guard = some (j, want) := by exact rfl) (hj : dstOf l j = some d := by exact rfl) (hd : o.dst = some t := by exact rfl) (ht : Nat.blt t n = true := by exact rfl) (hb : ((Region.ready .any l.toArray listed).contains i && Region.free .any l.toArray listed i && Region.noSelect l.toArray) = true := by kernel_rfl) (hl : listed.setIfInBounds i true = listed' := by exact rfl) (hlit : slo d sl = some (.d (.v (.bool (!want)))) ∨ slo d sl = some (.d (.v undef)) := by omega) : AnyR P GL n0 Pn l (fuel + 1) listed L Q ⟨n, sl, ob⟩ := any_fl_no i ho hg hj hlit hd ht hb hl h
theorem any_split {l : List Oper} {fuel : Nat} {listed : Array Bool} {L : List (Nat × Nat)} {Q : Ex → St → Prop} {n : Nat} {sl : List (Nat × SV)} {ob : List Ob} (d : Nat) {b : Bool} (hb : slo d sl = some (.d (.v (.bool b))))
    (h1 : b = true → AnyR P GL n0 Pn l fuel listed L Q ⟨n, (d, .d (.v (.bool true))) :: sl, ob⟩) (h2 : b = false → AnyR P GL n0 Pn l fuel listed L Q ⟨n, (d, .d (.v (.bool false))) :: sl, ob⟩) : AnyR P GL n0 Pn l fuel listed L Q ⟨n, sl, ob⟩ := fun B hB g a w Hc hr hc hh => by
  have hbv : a.tmps.getD d undef = .bool b := by have := hr.slots d; rw [slo_slk hb] at this; exact this
  cases b with
  | true => exact h1 rfl B hB g a w Hc (hr.known (t := d) hbv) hc hh
  | false => exact h2 rfl B hB g a w Hc (hr.known (t := d) hbv) hc hh

theorem a_split {l : List Oper} {fuel : Nat} {listed : Array Bool} {L : List (Nat × Nat)} {Q : Ex → St → Prop} {n : Nat} {sl : List (Nat × SV)} {ob : List Ob} {b : Bool} (d : Nat) (h1 : b = true → AnyR P GL n0 Pn l fuel listed L Q ⟨n, (d, .d (.v (.bool true))) :: sl, ob⟩) (h2 : b = false → AnyR P GL n0 Pn l fuel listed L Q ⟨n, (d, .d (.v (.bool false))) :: sl, ob⟩) (hb : slo d sl = some (.d (.v (.bool b))) := by exact rfl) : AnyR P GL n0 Pn l fuel listed L Q ⟨n, sl, ob⟩ := any_split d hb h1 h2
/-- the next step is operation i -/
def AnyO (P : Program) (GL : Nat → List D) (n0 : Nat) (Pn : PnS) (l : List Oper) (fuel : Nat) (listed : Array Bool) (L : List (Nat × Nat)) (Q : Ex → St → Prop) (σ : St) (i : Nat) : Prop :=
  ∀ B : Bs, B.n0 = n0 → ∀ g a w Hc, RelG GL B σ g a w → CHt Hc w → HeldT g L Hc →
    wpOp P l.toArray (liftQ GL B Pn.dr Q) i (fun a' w' => CHt (filt l i Hc) w' ∧ wpH P l.toArray (liftQ GL B Pn.dr Q) fuel (filt l i Hc) (listed.setIfInBounds i true) a' w') a w
def AllO (p : Nat → Prop) : List Nat → Prop
  | [] => True
  | i :: r => p i ∧ AllO p r
theorem AllO.mem {p : Nat → Prop} : ∀ {l : List Nat}, AllO p l → ∀ i ∈ l, p i
  | [], _, i, h => by cases h
  | j :: r, h, i, hi => by
    rcases List.mem_cons.1 hi with rfl | hi
    · exact h.1
    · exact h.2.mem i hi
theorem any_many {l : List Oper} {fuel : Nat} {listed : Array Bool} {L : List (Nat × Nat)} {Q : Ex → St → Prop} {σ : St} {rs : List Nat} (hrs : Region.ready .any l.toArray listed = rs) (hne : rs.isEmpty = false) (h : AllO (AnyO P GL n0 Pn l fuel listed L Q σ) rs) : AnyR P GL n0 Pn l (fuel + 1) listed L Q σ := fun B hB g a w Hc hr hc hh => by
  refine ⟨fun e => ?_, fun k hk => ?_⟩
  · rw [hrs] at e; subst e; cases hne
  · rw [hrs] at hk
    exact h.mem k hk B hB g a w Hc hr hc hh
theorem any_o_of {l : List Oper} {fuel : Nat} {listed listed' : Array Bool} {L L2 : List (Nat × Nat)} {Q : Ex → St → Prop} {σ : St} {T : Nat → Prop} (i : Nat) {o : Oper} (ho : l[i]? = some o) (hw : ∀ B g a w, RelG GL B σ g a w → Region.wanted o (yielded l.toArray a.tmps) = true) (hl : listed.setIfInBounds i true = listed')
    (hf : filtO l i L = some L2) (hL : ∀ p ∈ L2, ¬ T p.2 ∧ ∃ c ty, nthO p.2 σ.ob = some (.cells c ty))
    (h : OpR P GL n0 Pn.dr T o σ fun σ' => AnyR P GL n0 Pn l fuel listed' L2 Q σ') : AnyO P GL n0 Pn l fuel listed L Q σ i := fun B hB g a w Hc hr hc hh => by
  subst hl
  have ho' : l.toArray[i]? = some o := by simpa using ho
  unfold wpOp
  simp only [ho', hw B g a w hr, if_true]
  left
  have hmem : ∀ p ∈ filt l i Hc, p ∈ Hc ∧ ∀ q, (p.1, q) ∈ L → (p.1, q) ∈ L2 := fun p hp => by
    unfold filt at hp
    obtain ⟨h1, h2⟩ := List.mem_filter.1 hp
    exact ⟨h1, fun q hq => filtO_mem hf _ hq (by simpa using h2)⟩
  refine h B hB g a w hr _ _ (fun σ' g' a' w' hr' hkeep hk => ?_) (fun c w' hp => .inr ⟨hr.defers, hp⟩)
  have hc' : CHt (filt l i Hc) w' := fun p hp => by
    obtain ⟨hp1, hp2⟩ := hmem p hp
    obtain ⟨h1, h2⟩ := hh p hp1
    have hcell := hc p hp1
    obtain ⟨pi, ⟨pb, po, ps⟩, pv⟩ := p
    simp only at h1 h2 hcell hp2 ⊢
    subst h1
    rcases h2 with h2 | ⟨j, b, e1, e2, e3⟩
    · exact (hr'.store.sat _ _ _ (hkeep.1 _ _ _ h2)).1
    · obtain ⟨f1, c, ty, f2⟩ := hL _ (hp2 j e1)
      obtain ⟨_, f4⟩ := hkeep.2 j b _ f1 (nthO_eq f2) e2 rfl
      subst e3
      rw [World.cell?_of_block (w := w) f4]; exact hcell
  have hh' : HeldT g' L2 (filt l i Hc) := fun p hp => by
    obtain ⟨hp1, hp2⟩ := hmem p hp
    obtain ⟨h1, h2⟩ := hh p hp1
    refine ⟨h1, h2.imp (hkeep.1 _ _ _) fun ⟨j, b, e1, e2, e3⟩ => ?_⟩
    obtain ⟨f1, c, ty, f2⟩ := hL _ (hp2 j e1)
    exact ⟨j, b, hp2 j e1, (hkeep.2 j b _ f1 (nthO_eq f2) e2 rfl).1, e3⟩
  exact ⟨by simpa using hc', by simpa using hk B hB g' a' w' _ hr' hc' hh'⟩
theorem any_st_of {l : List Oper} {fuel : Nat} {listed listed' : Array Bool} {L L2 : List (Nat × Nat)} {Q : Ex → St → Prop} {σ : St} {T : Nat → Prop} (i : Nat) {o : Oper} (ho : l[i]? = some o) (hw : ∀ B g a w, RelG GL B σ g a w → Region.wanted o (yielded l.toArray a.tmps) = true) (hrs : Region.ready .any l.toArray listed = [i]) (hl : listed.setIfInBounds i true = listed')
    (hf : filtO l i L = some L2) (hL : ∀ p ∈ L2, ¬ T p.2 ∧ ∃ c ty, nthO p.2 σ.ob = some (.cells c ty))
    (h : OpR P GL n0 Pn.dr T o σ fun σ' => AnyR P GL n0 Pn l fuel listed' L2 Q σ') : AnyR P GL n0 Pn l (fuel + 1) listed L Q σ :=
  any_many hrs rfl ⟨any_o_of i ho hw hl hf hL h, trivial⟩
theorem any_o {l : List Oper} {fuel : Nat} {listed listed' : Array Bool} {L L2 : List (Nat × Nat)} {Q : Ex → St → Prop} {σ : St} {T : Nat → Prop} (i : Nat) {o : Oper} (ho : l[i]? = some o) (hg : o.guard = none) (hl : listed.setIfInBounds i true = listed')
    (hf : filtO l i L = some L2) (hL : ∀ p ∈ L2, ¬ T p.2 ∧ ∃ c ty, nthO p.2 σ.ob = some (.cells c ty))
    (h : OpR P GL n0 Pn.dr T o σ fun σ' => AnyR P GL n0 Pn l fuel listed' L2 Q σ') : AnyO P GL n0 Pn l fuel listed L Q σ i :=
  any_o_of i ho (fun B g a w hr => by simp [Region.wanted, hg]) hl hf hL h
theorem A4 {l : List Oper} {fuel : Nat} {listed listed' : Array Bool} {L L2 : List (Nat × Nat)} {Q : Ex → St → Prop} {σ : St} {T : Nat → Prop} {o : Oper} (i : Nat) (ho : l[i]? = some o) (h : OpR P GL n0 Pn.dr T o σ fun σ' => AnyR P GL n0 Pn l fuel listed' L2 Q σ') (hg : o.guard = none := by exact rfl) (hl : listed.setIfInBounds i true = listed' := by exact rfl) (hf : filtO l i L = some L2 := by exact rfl) (hL : ∀ p ∈ L2, ¬ T p.2 ∧ ∃ c ty, nthO p.2 σ.ob = some (.cells c ty) := by first | exact held0 rfl | exact held1 rfl | exact heldx rfl) : AnyO P GL n0 Pn l fuel listed L Q σ i := any_o i ho hg hl hf hL h
theorem any_o_yes {l : List Oper} {fuel : Nat} {listed listed' : Array Bool} {L L2 : List (Nat × Nat)} {Q : Ex → St → Prop} {n : Nat} {sl : List (Nat × SV)} {ob : List Ob} {T : Nat → Prop} (i : Nat) {o : Oper} {j d : Nat} {want : Bool} (ho : l[i]? = some o) (hg : o.guard = some (j, want)) (hj : dstOf l j = some d) (hlit : slo d sl = some (.d (.v (.bool want)))) (hl : listed.setIfInBounds i true = listed')
    (hf : filtO l i L = some L2) (hL : ∀ p ∈ L2, ¬ T p.2 ∧ ∃ c ty, nthO p.2 ob = some (.cells c ty))
    (h : OpR P GL n0 Pn.dr T o ⟨n, sl, ob⟩ fun σ' => AnyR P GL n0 Pn l fuel listed' L2 Q σ') : AnyO P GL n0 Pn l fuel listed L Q ⟨n, sl, ob⟩ i :=
  any_o_of i ho (fun B g a w hr => by rw [wanted_lit hr hg hj hlit]; simp) hl hf hL h
theorem A5 {l : List Oper} {fuel : Nat} {listed listed' : Array Bool} {L L2 : List (Nat × Nat)} {Q : Ex → St → Prop} {n : Nat} {sl : List (Nat × SV)} {ob : List Ob} {T : Nat → Prop} {o : Oper} {j d : Nat} {want : Bool} (i : Nat) (ho : l[i]? = some o) (h : OpR P GL n0 Pn.dr T o ⟨n, sl, ob⟩ fun σ' => AnyR P GL n0 Pn l fuel listed' L2 Q σ') (hg : o.guard = some (j, want) := by exact rfl) (hj : dstOf l j = some d := by exact rfl) (hlit : slo d sl = some (.d (.v (.bool want))) := by exact rfl) (hl : listed.setIfInBounds i true = listed' := by exact rfl) (hf : filtO l i L = some L2 := by exact rfl) (hL : ∀ p ∈ L2, ¬ T p.2 ∧ ∃ c ty, nthO p.2 ob = some (.cells c ty) := by first | exact held0 rfl | exact held1 rfl | exact heldx rfl) : AnyO P GL n0 Pn l fuel listed L Q ⟨n, sl, ob⟩ i := any_o_yes i ho hg hj hlit hl hf hL h
theorem any_st {l : List Oper} {fuel : Nat} {listed listed' : Array Bool} {L L2 : List (Nat × Nat)} {Q : Ex → St → Prop} {σ : St} {T : Nat → Prop} (i : Nat) {o : Oper} (ho : l[i]? = some o) (hg : o.guard = none) (hrs : Region.ready .any l.toArray listed = [i]) (hl : listed.setIfInBounds i true = listed')
    (hf : filtO l i L = some L2) (hL : ∀ p ∈ L2, ¬ T p.2 ∧ ∃ c ty, nthO p.2 σ.ob = some (.cells c ty))
    (h : OpR P GL n0 Pn.dr T o σ fun σ' => AnyR P GL n0 Pn l fuel listed' L2 Q σ') : AnyR P GL n0 Pn l (fuel + 1) listed L Q σ :=
  any_st_of i ho (fun B g a w hr => by simp [Region.wanted, hg]) hrs hl hf hL h
theorem A2 {l : List Oper} {fuel : Nat} {listed listed' : Array Bool} {L L2 : List (Nat × Nat)} {Q : Ex → St → Prop} {σ : St} {T : Nat → Prop} {o : Oper} (i : Nat) (ho : l[i]? = some o) (h : OpR P GL n0 Pn.dr T o σ fun σ' => AnyR P GL n0 Pn l fuel listed' L2 Q σ') (hg : o.guard = none := by exact rfl) (hrs : Region.ready .any l.toArray listed = [i] := by kernel_rfl) (hl : listed.setIfInBounds i true = listed' := by exact rfl) (hf : filtO l i L = some L2 := by exact rfl) (hL : ∀ p ∈ L2, ¬ T p.2 ∧ ∃ c ty, nthO p.2 σ.ob = some (.cells c ty) := by first | exact held0 rfl | exact held1 rfl | exact heldx rfl) : AnyR P GL n0 Pn l (fuel + 1) listed L Q σ := any_st i ho hg hrs hl hf hL h
theorem any_st_yes {l : List Oper} {fuel : Nat} {listed listed' : Array Bool} {L L2 : List (Nat × Nat)} {Q : Ex → St → Prop} {n : Nat} {sl : List (Nat × SV)} {ob : List Ob} {T : Nat → Prop} (i : Nat) {o : Oper} {j d : Nat} {want : Bool} (ho : l[i]? = some o) (hg : o.guard = some (j, want)) (hj : dstOf l j = some d) (hlit : slo d sl = some (.d (.v (.bool want)))) (hrs : Region.ready .any l.toArray listed = [i]) (hl : listed.setIfInBounds i true = listed')
    (hf : filtO l i L = some L2) (hL : ∀ p ∈ L2, ¬ T p.2 ∧ ∃ c ty, nthO p.2 ob = some (.cells c ty))
    (h : OpR P GL n0 Pn.dr T o ⟨n, sl, ob⟩ fun σ' => AnyR P GL n0 Pn l fuel listed' L2 Q σ') : AnyR P GL n0 Pn l (fuel + 1) listed L Q ⟨n, sl, ob⟩ :=
  any_st_of i ho (fun B g a w hr => by rw [wanted_lit hr hg hj hlit]; simp) hrs hl hf hL h
theorem A3 {l : List Oper} {fuel : Nat} {listed listed' : Array Bool} {L L2 : List (Nat × Nat)} {Q : Ex → St → Prop} {n : Nat} {sl : List (Nat × SV)} {ob : List Ob} {T : Nat → Prop} {o : Oper} {j d : Nat} {want : Bool} (i : Nat) (ho : l[i]? = some o) (h : OpR P GL n0 Pn.dr T o ⟨n, sl, ob⟩ fun σ' => AnyR P GL n0 Pn l fuel listed' L2 Q σ') (hg : o.guard = some (j, want) := by exact rfl) (hj : dstOf l j = some d := by exact rfl) (hlit : slo d sl = some (.d (.v (.bool want))) := by exact rfl) (hrs : Region.ready .any l.toArray listed = [i] := by kernel_rfl) (hl : listed.setIfInBounds i true = listed' := by exact rfl) (hf : filtO l i L = some L2 := by exact rfl) (hL : ∀ p ∈ L2, ¬ T p.2 ∧ ∃ c ty, nthO p.2 ob = some (.cells c ty) := by first | exact held0 rfl | exact held1 rfl | exact heldx rfl) : AnyR P GL n0 Pn l (fuel + 1) listed L Q ⟨n, sl, ob⟩ := any_st_yes i ho hg hj hlit hrs hl hf hL h
theorem any_end {l : List Oper} {fuel : Nat} {listed : Array Bool} {L : List (Nat × Nat)} {Q : Ex → St → Prop} {σ : St} (hrs : Region.ready .any l.toArray listed = []) (h : Q .normal σ) : AnyR P GL n0 Pn l fuel listed L Q σ := fun B hB g a w Hc hr hc hh => by
  cases fuel with
  | zero => exact ⟨hrs, σ, ⟨g, hr⟩, h⟩
  | succ n => exact ⟨fun _ => ⟨σ, ⟨g, hr⟩, h⟩, fun i hi => by rw [hrs] at hi; cases hi⟩
theorem a_end {l : List Oper} {fuel : Nat} {listed : Array Bool} {L : List (Nat × Nat)} {Q : Ex → St → Prop} {σ : St} (h : Q .normal σ) (hrs : Region.ready .any l.toArray listed = [] := by kernel_rfl) : AnyR P GL n0 Pn l fuel listed L Q σ := any_end hrs h
end
end Go.Vd
