/-
  What is proved here: rules for loads and structs, and for the operations that make or write memory, over any program.
-/
import Derived.Test.YtneaancanfpdhaaGreatDoorY3
namespace Go.Vd
open Go Go.RowKit

/-! parts of a struct as cells -/
def oneD : D → Bool
  | .v (.agg _) => false
  | .v (.tuple _) => false
  | .agg _ => false
  | .tup _ => false
  | _ => true
def oneSV : SV → Bool
  | .d x => oneD x
  | .agg _ => false
  | .tup _ => false
  | .junk => false
  | _ => true
theorem oneD_den {m : Mem} {d : D} {x : Value} (h : oneD d = true) (hd : d.Den m x) : x.oneCell' = true := by
  cases d with
  | v y => simp only [D.Den] at hd; subst hd; cases x <;> first | rfl | cases h
  | agg l => cases h
  | tup l => cases h
  | sl k l => obtain ⟨a, c, rfl, _⟩ := hd; rfl
  | cp l => obtain ⟨b, off, rfl, _⟩ := hd; rfl
  | ifc T d => obtain ⟨y, rfl, _⟩ := hd; rfl
theorem oneSV_den {g : Gh} {s : SV} {x : Value} (h : oneSV s = true) (hd : s.Den g x) : x.oneCell' = true := by
  cases s with
  | d y => exact oneD_den h hd
  | blk i off => obtain ⟨b, _, rfl⟩ := hd; rfl
  | agg l => cases h
  | tup l => cases h
  | own i k ls => obtain ⟨b, c, _, rfl, _⟩ := hd; rfl
  | fn f a b => obtain ⟨vs, us, rfl, _⟩ := hd; rfl
  | ifc T s => obtain ⟨y, rfl, _⟩ := hd; rfl
  | map i => obtain ⟨b, _, rfl⟩ := hd; rfl
  | rp i => obtain ⟨b, cap, n, _, rfl⟩ := hd; rfl
  | junk => cases h
def allOneS : List SV → Bool
  | [] => true
  | s :: r => cond (oneSV s) (allOneS r) false
theorem allOneS_den {g : Gh} : ∀ {l : List SV} {vs : List Value}, allOneS l = true → SDenL g l vs → ∀ x ∈ vs, x.oneCell' = true
  | [], _, _, h, x, hx => by cases h; cases hx
  | s :: r, _, h, ⟨y, l', e, h1, h2⟩, x, hx => by
    subst e
    unfold allOneS at h
    cases hs : oneSV s with
    | false => rw [hs] at h; cases h
    | true =>
      rw [hs] at h
      cases hx with
      | head => exact oneSV_den hs h1
      | tail _ hx => exact allOneS_den h h2 x hx

def mapD : List D → Option (List SV)
  | [] => some []
  | d :: r => (mapD r).bind fun l => some (.d d :: l)
theorem mapD_eq : ∀ {l : List D} {r : List SV}, mapD l = some r → r = l.map SV.d
  | [], r, h => by simp [mapD] at h; simp [h]
  | d :: l, r, h => by
    simp only [mapD, Option.bind_eq_some_iff, Option.some.injEq] at h
    obtain ⟨r', h1, rfl⟩ := h
    simp [mapD_eq h1]
def mapVS : List Value → Option (List SV)
  | [] => some []
  | d :: r => (mapVS r).bind fun l => some (.d (.v d) :: l)
theorem mapVS_eq : ∀ {l : List Value} {r : List SV}, mapVS l = some r → r = l.map fun x => SV.d (.v x)
  | [], r, h => by simp [mapVS] at h; simp [h]
  | d :: l, r, h => by
    simp only [mapVS, Option.bind_eq_some_iff, Option.some.injEq] at h
    obtain ⟨r', h1, rfl⟩ := h
    simp [mapVS_eq h1]
/-- the cells that a value fills: agg: is it a struct or an array? -/
def cellsO (ag : Bool) (s : SV) : Option (List SV) :=
  cond ag (match s with | .agg cs => some cs | .d (.agg ds) => mapD ds | .d (.v (.agg arr)) => mapVS arr.toList | _ => none) (cond (oneSV s) (some [s]) none)
theorem cellsO_den {g : Gh} {ag : Bool} {s : SV} {x : Value} {cs : List SV} (h : cellsO ag s = some cs) (d : s.Den g x) : SDenL g cs x.cells.toList := by
  unfold cellsO at h
  cases ag with
  | false =>
    simp only [cond_false] at h
    cases h1 : oneSV s with
    | false => rw [h1] at h; cases h
    | true =>
      rw [h1] at h
      simp only [cond_true, Option.some.injEq] at h
      subst h
      rw [Value.cells_one (oneSV_den h1 d)]
      exact ⟨x, [], rfl, d, rfl⟩
  | true =>
    simp only [cond_true] at h
    split at h
    · simp only [Option.some.injEq] at h; subst h
      obtain ⟨l, rfl, hd⟩ := d; exact hd
    · rw [mapD_eq h]
      obtain ⟨l, rfl, hd⟩ := d
      exact SDenL.ofd hd
    · rw [mapVS_eq h]
      cases d
      exact SDenL.ofv _
    · cases h

def setO : Nat → List SV → List SV → Option (List SV)
  | 0, [], l => some l
  | 0, _ :: _, [] => none
  | 0, s :: r, _ :: l => (setO 0 r l).bind fun l' => some (s :: l')
  | n + 1, cs, [] => none
  | n + 1, cs, x :: l => (setO n cs l).bind fun l' => some (x :: l')
theorem setO_eq : ∀ {n : Nat} {cs l r : List SV}, setO n cs l = some r → n + cs.length ≤ l.length ∧ r = l.take n ++ cs ++ l.drop (n + cs.length)
  | 0, [], l, r, h => by simp [setO] at h; subst h; simp
  | 0, s :: cs, [], r, h => by cases h
  | 0, s :: cs, x :: l, r, h => by
    simp only [setO, Option.bind_eq_some_iff, Option.some.injEq] at h
    obtain ⟨r', h1, rfl⟩ := h
    have := setO_eq h1
    simp at this ⊢
    exact ⟨by omega, this.2⟩
  | n + 1, cs, [], r, h => by cases h
  | n + 1, cs, x :: l, r, h => by
    simp only [setO, Option.bind_eq_some_iff, Option.some.injEq] at h
    obtain ⟨r', h1, rfl⟩ := h
    have := setO_eq h1
    refine ⟨by simp; omega, ?_⟩
    rw [this.2, show n + 1 + cs.length = (n + cs.length) + 1 by omega]
    simp
theorem setO_den {g : Gh} {n : Nat} {cs l r : List SV} (h : setO n cs l = some r) {vs us : List Value} (hl : SDenL g l vs) (hc : SDenL g cs us) : SDenL g r (vs.take n ++ us ++ vs.drop (n + us.length)) := by
  obtain ⟨h1, rfl⟩ := setO_eq h
  rw [hc.length]
  exact ((hl.take n).append hc).append (hl.drop _)

section
variable {P : Program} {GL : Nat → List D} {o : Oper} {σ : St}

/-! loads -/
def fromO (ag : Bool) (cs : List SV) : Option SV := cond ag (some (.agg cs)) (match cs with | [s] => some s | _ => none)
theorem fromO_den {g : Gh} {ag : Bool} {cs : List SV} {s : SV} {vs : List Value} (h : fromO ag cs = some s) (hd : SDenL g cs vs) : s.Den g (if ag then .agg ⟨vs⟩ else vs.headD undef) := by
  unfold fromO at h
  cases ag with
  | true => simp only [cond_true, Option.some.injEq] at h; subst h; exact ⟨vs, rfl, hd⟩
  | false =>
    simp only [cond_false] at h
    split at h
    · simp only [Option.some.injEq] at h; subst h
      obtain ⟨x, l', rfl, h1, _⟩ := hd
      exact h1
    · cases h
theorem run_load_held {T : TypeId} {Hc : List (Addr × Value)} {b off : Nat} {xs : List Value} (hok : (tiOf P T).ok = true) (hl : xs.length = (tiOf P T).size) (h1 : (tiOf P T).agg = false → xs.length = 1)
    (hH : ∀ (j : Nat) x, xs[j]? = some x → ((⟨b, off + j, none⟩ : Addr), x) ∈ Hc) (w : World) (hc : CH Hc w) :
    (Instr.loadAt T (.pointer (some ⟨b, off, none⟩))).run P w = .ok (if (tiOf P T).agg then .agg ⟨xs⟩ else xs.headD undef) w := by
  have := run_loadVar_cells hok (w := w) (b := b) (off := off) hl (fun j x hj => hc _ (hH j x hj)) (fun hag => by
    have e := h1 hag
    match xs, e with
    | [y], _ => exact ⟨y, rfl⟩)
  simpa [Instr.loadAt, Instr.sureAddr] using this
theorem mem_zip {α : Type} (f : Value × Nat → α) {xs : List Value} {j : Nat} {x : Value} (h : xs[j]? = some x) : f (x, j) ∈ xs.zipIdx.map f := by
  refine List.mem_map.2 ⟨(x, j), ?_, rfl⟩
  rw [List.mem_zipIdx_iff_getElem?]
  exact h
theorem fromO_one {cs : List SV} {s : SV} (h : fromO false cs = some s) : cs.length = 1 := by
  unfold fromO at h
  simp only [cond_false] at h
  split at h
  · rfl
  · cases h

theorem fl_load_blk {T : TypeId} {x : Operand} {K : SV → List Nat → Prop} {i off : Nat} {l : List SV} {ty : TypeId} {l1 cs : List SV} {s : SV} {ti : TI} (hT : tiOf P T = ti) (hok : ti.ok = true) (ho : o.op = .load T x) (hx : evO GL σ.sl x = some (.blk i off)) (hi : nthO i σ.ob = some (.cells l ty))
    (hl : dropO off l = some l1) (hc : takeO ti.size l1 = some cs) (hs : fromO ti.agg cs = some s) (hK : K s [i]) : FloatR P GL o σ K := fun B g a w hr => by
  subst hT
  obtain ⟨b, hb, h1⟩ := hr.evo hx
  obtain ⟨vs, hh, hd, hm⟩ := hr.store.obs i _ _ (nthO_eq hi) hb
  have hl' := dropO_eq hl
  have hc' := takeO_eq hc
  have hd2 : SDenL g cs ((vs.drop off).take (tiOf P T).size) := by rw [← hc'.1, ← hl'.1]; exact (hd.drop off).take _
  have hlen : ((vs.drop off).take (tiOf P T).size).length = (tiOf P T).size := by rw [hd2.length, ← hc'.1]; simp; omega
  refine ⟨((vs.drop off).take (tiOf P T).size).zipIdx.map fun p => (⟨b, off + p.2, none⟩, p.1), s, _, [i], fun w' hcw => ?_, fun p hp => ?_, fun p hp => ?_, fromO_den hs hd2, hK⟩
  · have := run_load_held (P := P) hok hlen (fun hag => by rw [hag] at hs; have := fromO_one hs; rw [hd2.length, this]) (b := b) (off := off) (fun j y hj => mem_zip (fun p => ((⟨b, off + p.2, none⟩ : Addr), p.1)) hj) w' hcw
    simp only [execOp, ho, h1, Sem.run_bind, this, Result.andThen_ok, Sem.run_pure]
  · obtain ⟨⟨y, j⟩, hq, rfl⟩ := List.mem_map.1 hp
    rw [List.mem_zipIdx_iff_getElem?] at hq
    rw [List.getElem?_take] at hq
    split at hq
    · rw [List.getElem?_drop] at hq
      simp only [World.cell?, hh]
      simpa using hq
    · cases hq
  · obtain ⟨⟨y, j⟩, hq, rfl⟩ := List.mem_map.1 hp
    exact ⟨rfl, .inr ⟨i, b, by simp, hb, rfl⟩⟩

theorem ldb {T : TypeId} {x : Operand} {K : SV → List Nat → Prop} {i off : Nat} {l : List SV} {ty : TypeId} {l1 cs : List SV} {s : SV} {ti : TI} (hT : tiOf P T = ti) (hK : K s [i]) (ho : o.op = .load T x := by exact rfl) (hx : evO GL σ.sl x = some (.blk i off) := by exact rfl) (hi : nthO i σ.ob = some (.cells l ty) := by exact rfl) (hok : ti.ok = true := by exact rfl) (hl : dropO off l = some l1 := by exact rfl) (hc : takeO ti.size l1 = some cs := by exact rfl) (hs : fromO ti.agg cs = some s := by exact rfl) : FloatR P GL o σ K := fl_load_blk hT hok ho hx hi hl hc hs hK
theorem fl_load_cp {T : TypeId} {x : Operand} {K : SV → List Nat → Prop} {l ds : List D} {cs : List SV} {s : SV} {ti : TI} (hT : tiOf P T = ti) (hok : ti.ok = true) (ho : o.op = .load T x) (hx : evO GL σ.sl x = some (.d (.cp l)))
    (hc : takeO ti.size l = some ds) (hm : mapD ds = some cs) (hs : fromO ti.agg cs = some s) (hK : K s []) : FloatR P GL o σ K := fun B g a w hr => by
  subst hT
  obtain ⟨b, off, h1, hd⟩ := hr.evo hx
  have hc' := takeO_eq hc
  have hd2 := hd.take (tiOf P T).size
  rw [hc'.1] at hd2
  obtain ⟨vs, hv, hcell⟩ := hd2.vals
  have hlen : vs.length = (tiOf P T).size := by rw [hv.length, ← hc'.1]; simp; omega
  have hsd : SDenL g cs vs := by rw [mapD_eq hm]; exact SDenL.ofd hv
  refine ⟨vs.zipIdx.map fun p => (⟨b, off + p.2, none⟩, p.1), s, _, [], fun w' hcw => ?_, fun p hp => ?_, fun p hp => ?_, fromO_den hs hsd, hK⟩
  · have := run_load_held (P := P) hok hlen (fun hag => by rw [hag] at hs; have := fromO_one hs; rw [hsd.length, this]) (b := b) (off := off) (fun j y hj => mem_zip (fun p => ((⟨b, off + p.2, none⟩ : Addr), p.1)) hj) w' hcw
    simp only [execOp, ho, h1, Sem.run_bind, this, Result.andThen_ok, Sem.run_pure]
  · obtain ⟨⟨y, j⟩, hq, rfl⟩ := List.mem_map.1 hp
    rw [List.mem_zipIdx_iff_getElem?] at hq
    exact (hr.store.sat _ _ _ (hcell j y hq)).1
  · obtain ⟨⟨y, j⟩, hq, rfl⟩ := List.mem_map.1 hp
    rw [List.mem_zipIdx_iff_getElem?] at hq
    exact ⟨rfl, .inl (hcell j y hq)⟩

theorem ldc {T : TypeId} {x : Operand} {K : SV → List Nat → Prop} {l ds : List D} {cs : List SV} {s : SV} {ti : TI} (hT : tiOf P T = ti) (hK : K s []) (ho : o.op = .load T x := by exact rfl) (hx : evO GL σ.sl x = some (.d (.cp l)) := by exact rfl) (hok : ti.ok = true := by exact rfl) (hc : takeO ti.size l = some ds := by exact rfl) (hm : mapD ds = some cs := by exact rfl) (hs : fromO ti.agg cs = some s := by exact rfl) : FloatR P GL o σ K := fl_load_cp hT hok ho hx hc hm hs hK
theorem fl_load_all {T : TypeId} {x : Operand} {K : SV → List Nat → Prop} {l : List D} {ti : TI} (hT : tiOf P T = ti) (hok : ti.ok = true) (hag : ti.agg = true) (ho : o.op = .load T x) (hx : evO GL σ.sl x = some (.d (.cp l))) (hlen : l.length = ti.size) (hK : K (.d (.agg l)) []) : FloatR P GL o σ K := fun B g a w hr => by
  subst hT
  obtain ⟨b, off, h1, hd⟩ := hr.evo hx
  obtain ⟨vs, hv, hcell⟩ := hd.vals
  have hlen2 : vs.length = (tiOf P T).size := by rw [hv.length, hlen]
  refine ⟨vs.zipIdx.map fun p => (⟨b, off + p.2, none⟩, p.1), .d (.agg l), .agg ⟨vs⟩, [], fun w' hcw => ?_, fun p hp => ?_, fun p hp => ?_, ⟨vs, rfl, hv⟩, hK⟩
  · have := run_load_held (P := P) hok hlen2 (fun hag' => by rw [hag] at hag'; cases hag') (b := b) (off := off) (fun j y hj => mem_zip (fun p => ((⟨b, off + p.2, none⟩ : Addr), p.1)) hj) w' hcw
    rw [hag] at this
    simp only [execOp, ho, h1, Sem.run_bind, this, Result.andThen_ok, Sem.run_pure]
    rfl
  · obtain ⟨⟨y, j⟩, hq, rfl⟩ := List.mem_map.1 hp
    rw [List.mem_zipIdx_iff_getElem?] at hq
    exact (hr.store.sat _ _ _ (hcell j y hq)).1
  · obtain ⟨⟨y, j⟩, hq, rfl⟩ := List.mem_map.1 hp
    rw [List.mem_zipIdx_iff_getElem?] at hq
    exact ⟨rfl, .inl (hcell j y hq)⟩

theorem lda {T : TypeId} {x : Operand} {K : SV → List Nat → Prop} {l : List D} {ti : TI} (hT : tiOf P T = ti) (hK : K (.d (.agg l)) []) (ho : o.op = .load T x := by exact rfl) (hx : evO GL σ.sl x = some (.d (.cp l)) := by exact rfl) (hok : ti.ok = true := by exact rfl) (hag : ti.agg = true := by exact rfl) (hlen : l.length = ti.size := by omega) : FloatR P GL o σ K := fl_load_all hT hok hag ho hx hlen hK
/-! structs -/
def evPs (GL : Nat → List D) (sl : List (Nat × SV)) : List (Nat × Operand) → Option (List (Nat × SV))
  | [] => some []
  | (i, x) :: r => (evO GL sl x).bind fun s => (evPs GL sl r).bind fun l => some ((i, s) :: l)
def fillO (flds : List (Nat × Nat × Bool)) : List SV → List (Nat × SV) → Option (List SV)
  | cells, [] => some cells
  | cells, (i, s) :: r => (nthO i flds).bind fun f => (cellsO f.2.2 s).bind fun cs => cond (Nat.beq cs.length f.2.1) ((setO f.1 cs cells).bind fun c' => fillO flds c' r) none

theorem fill_den {g : Gh} {flds : List (Nat × Nat × Bool)} {place : Nat → Option (Nat × Nat)} (hp : ∀ (i : Nat) o sz ag, flds[i]? = some (o, sz, ag) → place i = some (o, sz)) (ρ : Operand → Value) {sl : List (Nat × SV)} (hρ : ∀ x s, evO GL sl x = some s → s.Den g (ρ x)) :
    ∀ {ps : List (Nat × Operand)} {es : List (Nat × SV)} {cs : List SV} {l : List Value} {out : List SV}, SDenL g cs l → evPs GL sl ps = some es → fillO flds cs es = some out →
      ∃ l', Instr.fill place ⟨l⟩ (ps.map fun p => (p.1, ρ p.2)) = some ⟨l'⟩ ∧ SDenL g out l' := by
  intro ps
  induction ps with
  | nil =>
    intro es cs l out hd he hf
    simp only [evPs, Option.some.injEq] at he; subst he
    simp only [fillO, Option.some.injEq] at hf; subst hf
    exact ⟨l, rfl, hd⟩
  | cons p r ih =>
    intro es cs l out hd he hf
    obtain ⟨i, x⟩ := p
    simp only [evPs, Option.bind_eq_some_iff, Option.some.injEq] at he
    obtain ⟨s, hs, es', hes, rfl⟩ := he
    simp only [fillO, Option.bind_eq_some_iff] at hf
    obtain ⟨⟨o, sz, ag⟩, hfl, cs1, hcs, hf⟩ := hf
    cases hb : Nat.beq cs1.length sz with
    | false => simp only [hb, cond_false] at hf; cases hf
    | true =>
      simp only [hb, cond_true, Option.bind_eq_some_iff] at hf
      obtain ⟨c', hset, hf⟩ := hf
      have hcd := cellsO_den hcs (hρ x s hs)
      have hcl := hcd.length
      have hll := hd.length
      have hsz : cs1.length = sz := by simpa using hb
      have h1 : (ρ x).cells.size = sz := by have : (ρ x).cells.toList.length = sz := by omega
                                            simpa using this
      have hset2 := setO_eq hset
      simp only [List.map_cons, Instr.fill, hp i o sz ag (nthO_eq hfl)]
      have h3 : (decide ((ρ x).cells.size ≠ sz) || decide (o + (ρ x).cells.size > (⟨l⟩ : Array Value).size)) = false := by simp; omega
      rw [h3]
      simp only [Bool.false_eq_true, if_false]
      have hfold : ((ρ x).cells.zipIdx.foldl (fun (cs : Array Value) (y : Value × Nat) => cs.setIfInBounds (o + y.2) y.1) ⟨l⟩) = ⟨l.take o ++ (ρ x).cells.toList ++ l.drop (o + (ρ x).cells.toList.length)⟩ := by
        have key : ∀ (vs : List Value) (k : Nat) (l : List Value), o + k + vs.length ≤ l.length → (vs.zipIdx k).foldl (fun (cs : Array Value) (y : Value × Nat) => cs.setIfInBounds (o + y.2) y.1) ⟨l⟩ = ⟨l.take (o + k) ++ vs ++ l.drop (o + k + vs.length)⟩ := by
          intro vs
          induction vs with
          | nil => intro k l hl; simp
          | cons v r ih2 =>
            intro k l hl
            simp only [List.length_cons] at hl
            have e1 : (⟨l⟩ : Array Value).setIfInBounds (o + k) v = ⟨l.set (o + k) v⟩ := by apply Array.ext'; simp
            simp only [List.zipIdx_cons, List.foldl_cons, e1]
            rw [ih2 (k + 1) _ (by simp; omega)]
            congr 1
            rw [List.take_set, List.drop_set]
            simp only [List.length_cons]
            rw [show o + (k + 1) = o + k + 1 by omega]
            rw [if_pos (by omega)]
            rw [List.take_add_one]
            have hlt : o + k < l.length := by omega
            rw [List.set_append]
            have hmin : min (o + k) l.length = o + k := by omega
            simp [hlt, hmin]
            rw [show o + k + 1 + r.length = o + k + (r.length + 1) by omega]
        rw [← Array.foldl_toList, Array.toList_zipIdx]
        exact key _ 0 l (by omega)
      obtain ⟨l', hl', hd'⟩ := ih (setO_den hset hd hcd) hes hf
      refine ⟨l', ?_, hd'⟩
      rw [← hl']
      exact congrArg (fun z => Instr.fill place z (r.map fun p => (p.1, ρ p.2))) hfold

theorem fl_build {T : TypeId} {ps : Array (Nat × Operand)} {K : SV → List Nat → Prop} {ti : TI} {z0 cs : List SV} {es : List (Nat × SV)} (hT : tiOf P T = ti) (hz : ti.zok = true) (hfk : ti.fok = true) (hfl : ti.fok = true) (ho : o.op = .build T ps) (he : evPs GL σ.sl ps.toList = some es)
    (hm : mapVS ti.zero = some z0) (hf : fillO ti.flds z0 es = some cs) (hK : K (.agg cs) []) : FloatR P GL o σ K := fl_of fun B g a w hr => by
  subst hT
  have hz' : ∃ i z, P.info? T = some i ∧ i.zero = some z ∧ (tiOf P T).zero = z.cells.toList := by
    simp only [tiOf, Option.isSome_iff_exists, Option.bind_eq_some_iff] at hz
    obtain ⟨z, i, hi, hzz⟩ := hz
    exact ⟨i, z, hi, hzz, by simp [tiOf, hi, hzz]⟩
  obtain ⟨i, z, hi, hzz, hze⟩ := hz'
  have hst : ∃ fs, P.underlying T = some (.struct fs) ∧ fs.toList.all (fun f => (P.info? f.type).isSome) = true := by
    unfold tiOf at hfl
    simp only at hfl
    split at hfl
    · rename_i fs hfs; exact ⟨fs, hfs, hfl⟩
    · cases hfl
  obtain ⟨fs, hfs, hall⟩ := hst
  have hpl : fs.toList.mapM (fun f => (P.info? f.type).map fun i => (f.offset, i.size)) = some (fs.toList.map fun f => (f.offset, ((P.info? f.type).map (·.size)).getD 0)) := by
    generalize fs.toList = l at hall
    induction l with
    | nil => rfl
    | cons f r ih =>
      simp only [List.all_cons, Bool.and_eq_true] at hall
      obtain ⟨i, hi⟩ := Option.isSome_iff_exists.1 hall.1
      simp [List.mapM_cons, hi, ih hall.2]
  have hflds : (tiOf P T).flds = fs.toList.map fun f => (f.offset, ((P.info? f.type).map (·.size)).getD 0, isAggD (P.underlying f.type)) := by simp [tiOf, hfs]
  have hz0 : SDenL g z0 z.cells.toList := by rw [mapVS_eq hm, hze]; exact SDenL.ofv _
  obtain ⟨l', hl', hd'⟩ := fill_den (g := g) (flds := (tiOf P T).flds) (place := ((fs.toList.map fun f => (f.offset, ((P.info? f.type).map (·.size)).getD 0)).toArray[·]?)) (fun i o sz ag hf => by
      rw [hflds, List.getElem?_map] at hf
      cases hfd : fs.toList[i]? with
      | none => rw [hfd] at hf; cases hf
      | some fd =>
        rw [hfd] at hf
        simp only [Option.map_some, Option.some.injEq, Prod.mk.injEq] at hf
        simp only [List.getElem?_toArray, List.getElem?_map, hfd, Option.map_some]
        rw [hf.1, hf.2.1]) a.eval (fun x s hx => hr.evo hx) hz0 he hf
  have hb : P.built T (ps.map fun p => (p.1, a.eval p.2)).toList = some ⟨l'⟩ := by
    unfold Program.built
    simp only [hi, hfs, hzz, hpl, Array.toList_map]
    exact hl'
  refine ⟨.agg cs, .agg ⟨l'⟩, fun w' => ?_, ⟨l', rfl, hd'⟩, hK⟩
  have := run_build w' T (ps.map fun p => (p.1, a.eval p.2)) ⟨l'⟩ hb
  simp only [execOp, ho, Sem.run_bind]
  rw [this]
  rfl
theorem bld {T : TypeId} {ps : Array (Nat × Operand)} {K : SV → List Nat → Prop} {ti : TI} {z0 cs : List SV} {es : List (Nat × SV)} (hT : tiOf P T = ti) (hK : K (.agg cs) []) (ho : o.op = .build T ps := by exact rfl) (hz : ti.zok = true := by exact rfl) (hfk : ti.fok = true := by exact rfl) (hfl : ti.fok = true := by exact rfl) (he : evPs GL σ.sl ps.toList = some es := by exact rfl) (hm : mapVS ti.zero = some z0 := by exact rfl) (hf : fillO ti.flds z0 es = some cs := by exact rfl) : FloatR P GL o σ K := fl_build hT hz hfk hfl ho he hm hf hK
end
end Go.Vd
