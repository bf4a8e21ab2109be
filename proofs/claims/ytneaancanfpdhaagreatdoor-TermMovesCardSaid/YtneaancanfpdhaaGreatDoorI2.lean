/-
  What is proved here, text by text: rules for the operations that make or write memory; over any program. rules for regions whose order is drawn: what only looks is taken first, the rest in its order; over any program. rules for tests that end early, for contracts of data alone, and for ends; over any program. rules for closures, for pointers and interfaces held against nil, and for what strings.Builder does; over any program. an object whose cells are all data becomes data itself; panics; interfaces; over any program. functions that defer calls, and calls that recover; over any program. interfaces against nil, type assertions; over any program. rules under short names; over any program. rules for maps from texts to numbers; over any program. texts, numbers and levels as data; what the reference's functions on them compute, in plain words. well-formed levels as a type of their own, what they are worth, and what the reference's counts say of them. No program in sight. what the reference's reader computes, in plain words.
-/
import Derived.Test.YtneaancanfpdhaaGreatDoorI1
import Derived.Still
import Derived.KernelRfl
import Derived.LaidEqlPtr
import Derived.Laws.Externs
import Derived.Lib.Builder
import Derived.Lib.UnsafeStr
import Derived.Defers
import Derived.Recover
import Derived.Carry
set_option linter.unusedSimpArgs false
set_option linter.unusedVariables false
namespace Go.Vd
open Go Go.RowKit
section
variable {P : Program} {GL : Nat → List D} {n0 : Nat} {Pn : PnS}
theorem RelG.put' {B : Bs} {n : Nat} {sl : List (Nat × SV)} {ob : List Ob} {g : Gh} {a : Act} {w : World} (h : RelG GL B ⟨n, sl, ob⟩ g a w) {t : Nat} (ht : Nat.blt t n = true) {s : SV} {x : Value} (hx : s.Den g x) : RelG GL B ⟨n, (t, s) :: sl, ob⟩ g (a.put (some t) x) w := h.put ht hx
theorem newcells_ok {g : Gh} {w : World} {cs : List SV} {vs : List Value} {ty : TypeId} {B : Bs} {σ : St} {a : Act} (hr : RelG GL B σ g a w) (hd : SDenL g cs vs) :
    RelG GL B ⟨σ.n, σ.sl, σ.ob ++ [.cells cs ty]⟩ ⟨g.m, g.gs ++ [.loc w.heap.size]⟩ a (w.alloc (.cells ⟨vs⟩ ty)) ∧ Keep (fun _ => False) σ.ob g w ⟨g.m, g.gs ++ [.loc w.heap.size]⟩ (w.alloc (.cells ⟨vs⟩ ty)) := by
  have hle : Gle g ⟨g.m, g.gs ++ [.loc w.heap.size]⟩ := ⟨Mle.refl _, fun i p hp => by
    show (g.gs ++ [_])[i]? = some p
    rw [List.getElem?_append_left (List.getElem?_eq_some_iff.1 hp).1]; exact hp⟩
  have hmn : ∀ o, g.m w.heap.size o = none := fun o => by
    cases hx : g.m w.heap.size o with
    | none => rfl
    | some x => have := hr.store.sat_lt hx; omega
  exact hr.new1 ((Fr.refl _ w).alloc _) (Mle.refl _) (fun b o x h1 h2 => by rw [h2] at h1; cases h1) ⟨vs, heap_alloc_new w _, SDenL.mono hle cs hd, hmn⟩ (fun b hb => by simp only [blkOf, Option.some.injEq] at hb; omega) (fun i f dn cur e => by cases e)
theorem blk_den {g : Gh} {ob : List Ob} {b : Nat} (hlen : ob.length = g.gs.length) : (SV.blk ob.length 0).Den ⟨g.m, g.gs ++ [.loc b]⟩ (.pointer (some ⟨b, 0, none⟩)) := ⟨b, by rw [hlen]; simp, rfl⟩
theorem op_alloc {o : Oper} {n t : Nat} {sl : List (Nat × SV)} {ob ob' : List Ob} {K : St → Prop} {T : Nat → Prop} {ty : TypeId} {ti : TI} {cs : List SV} {k : Nat} (hT : tiOf P ty = ti) (hz : ti.zok = true) (ho : o.op = .alloc ty) (hd : o.dst = some t) (ht : Nat.blt t n = true) (hm : mapVS ti.zero = some cs) (hl : ob.length = k) (hob : appO ob [.cells cs ty] = some ob')
    (h : K ⟨n, (t, .blk k 0) :: sl, ob'⟩) : OpR P GL n0 Pn T o ⟨n, sl, ob⟩ K := fun B hB g a w hr next Q hK hP => by
  subst hT hl
  rw [appO_eq hob] at h
  have hz' : ∃ i z, P.info? ty = some i ∧ i.zero = some z ∧ (tiOf P ty).zero = z.cells.toList := by
    simp only [tiOf, Option.isSome_iff_exists, Option.bind_eq_some_iff] at hz
    obtain ⟨z, i, hi, hzz⟩ := hz
    exact ⟨i, z, hi, hzz, by simp [tiOf, hi, hzz]⟩
  obtain ⟨i, z, hi, hzz, hze⟩ := hz'
  have hrun : (execOp a.eval o).run P w = .ok (.value (.pointer (some ⟨w.heap.size, 0, none⟩))) (w.alloc (.cells ⟨z.cells.toList⟩ ty)) := by
    simp [execOp, ho, Instr.alloc, zeroValue, typeInfo, hi, hzz, newVar, newRow]
  unfold Oper.wp
  rw [hrun]
  show next (a.put o.dst _) _
  rw [hd]
  obtain ⟨h1, h2⟩ := newcells_ok (ty := ty) hr (cs := cs) (vs := z.cells.toList) (by rw [mapVS_eq hm, hze]; exact SDenL.ofv _)
  exact hK _ _ _ _ (h1.put' (s := .blk ob.length 0) ht (blk_den hr.store.len)) ⟨h2.1, fun i b o _ => h2.2 i b o (fun x => x)⟩ h
theorem alc {o : Oper} {n t : Nat} {sl : List (Nat × SV)} {ob ob' : List Ob} {K : St → Prop} {T : Nat → Prop} {ty : TypeId} {ti : TI} {cs : List SV} {k : Nat} (hT : tiOf P ty = ti) (h : K ⟨n, (t, .blk k 0) :: sl, ob'⟩) (ho : o.op = .alloc ty := by exact rfl) (hd : o.dst = some t := by exact rfl) (hz : ti.zok = true := by exact rfl) (ht : Nat.blt t n = true := by exact rfl) (hm : mapVS ti.zero = some cs := by exact rfl) (hob : appO ob [.cells cs ty] = some ob' := by exact rfl) (hl : ob.length = k := by omega) : OpR P GL n0 Pn T o ⟨n, sl, ob⟩ K := op_alloc hT hz ho hd ht hm hl hob h
theorem op_box {o : Oper} {n t : Nat} {sl : List (Nat × SV)} {ob ob' : List Ob} {K : St → Prop} {T : Nat → Prop} {ty : TypeId} {x : Operand} {s : SV} {ti : TI} {cs : List SV} {k : Nat} (hT : tiOf P ty = ti) (ho : o.op = .box ty x) (hd : o.dst = some t) (ht : Nat.blt t n = true) (hx : evO GL sl x = some s) (hm : cellsO ti.agg s = some cs) (hl : ob.length = k) (hob : appO ob [.cells cs ty] = some ob')
    (h : K ⟨n, (t, .blk k 0) :: sl, ob'⟩) : OpR P GL n0 Pn T o ⟨n, sl, ob⟩ K := fun B hB g a w hr next Q hK hP => by
  subst hT hl
  rw [appO_eq hob] at h
  have hrun : (execOp a.eval o).run P w = .ok (.value (.pointer (some ⟨w.heap.size, 0, none⟩))) (w.alloc (.cells ⟨(a.eval x).cells.toList⟩ ty)) := by
    simp [execOp, ho, Instr.box, newVar, newRow]
  unfold Oper.wp
  rw [hrun]
  show next (a.put o.dst _) _
  rw [hd]
  obtain ⟨h1, h2⟩ := newcells_ok (ty := ty) hr (cs := cs) (vs := (a.eval x).cells.toList) (cellsO_den hm (hr.evo hx))
  exact hK _ _ _ _ (h1.put' (s := .blk ob.length 0) ht (blk_den hr.store.len)) ⟨h2.1, fun i b o _ => h2.2 i b o (fun x => x)⟩ h
theorem bx {o : Oper} {n t : Nat} {sl : List (Nat × SV)} {ob ob' : List Ob} {K : St → Prop} {T : Nat → Prop} {ty : TypeId} {x : Operand} {s : SV} {ti : TI} {cs : List SV} {k : Nat} (hT : tiOf P ty = ti) (h : K ⟨n, (t, .blk k 0) :: sl, ob'⟩) (ho : o.op = .box ty x := by exact rfl) (hd : o.dst = some t := by exact rfl) (hx : evO GL sl x = some s := by exact rfl) (ht : Nat.blt t n = true := by exact rfl) (hm : cellsO ti.agg s = some cs := by exact rfl) (hob : appO ob [.cells cs ty] = some ob' := by exact rfl) (hl : ob.length = k := by omega) : OpR P GL n0 Pn T o ⟨n, sl, ob⟩ K := op_box hT ho hd ht hx hm hl hob h
/-- no iterator goes over object i -/
def noItOn (i : Nat) : List Ob → Bool
  | [] => true
  | .itI j _ _ _ :: r => cond (Nat.beq j i) false (noItOn i r)
  | .cells _ _ :: r => noItOn i r
  | .row _ _ :: r => noItOn i r
  | .nilrow _ _ :: r => noItOn i r
  | .buf _ _ _ _ :: r => noItOn i r
  | .mapI _ :: r => noItOn i r
  | .dead :: r => noItOn i r
theorem noItOn_get {i : Nat} : ∀ {ob : List Ob}, noItOn i ob = true → ∀ (j : Nat) f dn cur, ob[j]? ≠ some (.itI i f dn cur)
  | [], _, j, f, dn, cur => by simp
  | o :: r, h, 0, f, dn, cur => by intro e; simp at e; subst e; simp [noItOn] at h
  | o :: r, h, j + 1, f, dn, cur => by
    have : noItOn i r = true := by
      cases o <;> simp only [noItOn] at h <;> try exact h
      rename_i j' _ _ _
      cases hb : Nat.beq j' i <;> rw [hb] at h
      · exact h
      · cases h
    simpa using noItOn_get this j f dn cur
def noItOns : List Nat → List Ob → Bool
  | [], _ => true
  | i :: r, ob => cond (noItOn i ob) (noItOns r ob) false
theorem noItOns_get : ∀ {ix : List Nat} {ob : List Ob}, noItOns ix ob = true → ∀ i ∈ ix, ∀ (j : Nat) f dn cur, ob[j]? ≠ some (.itI i f dn cur)
  | [], _, _, i, hi => by cases hi
  | k :: r, ob, h, i, hi => by
    simp only [noItOns] at h
    cases hb : noItOn k ob with
    | false => rw [hb] at h; cases h
    | true =>
      rw [hb] at h
      rcases List.mem_cons.1 hi with rfl | hi
      · exact noItOn_get hb
      · exact noItOns_get h i hi
theorem op_store {o : Oper} {n : Nat} {sl : List (Nat × SV)} {ob ob' : List Ob} {K : St → Prop} {ty ty0 : TypeId} {x y : Operand} {i off : Nat} {s : SV} {ti : TI} {cs l l' : List SV} (hT : tiOf P ty = ti) (hok : ti.ok = true) (ho : o.op = .store ty x y) (hd : o.dst = none) (hx : evO GL sl x = some (.blk i off)) (hy : evO GL sl y = some s)
    (hi : nthO i ob = some (.cells l ty0)) (hc : cellsO ti.agg s = some cs) (hsz : Nat.beq cs.length ti.size = true) (hone : allOneS cs = true) (hs : setO off cs l = some l') (hob : set1 i (.cells l' ty0) ob = some ob')
    (h : K ⟨n, sl, ob'⟩) : OpR P GL n0 Pn (fun j => j = i) o ⟨n, sl, ob⟩ K := fun B hB g a w hr next Q hK hP => by
  subst hT
  obtain ⟨b, hb, hpx⟩ := hr.evo hx
  have hi' := nthO_eq hi
  obtain ⟨vs, hh, hdl, hmn⟩ := hr.store.obs i _ _ hi' hb
  obtain ⟨ti, d, hinf, hdd, hsi, _⟩ := ti_ok hok
  have hcd := cellsO_den hc (hr.evo hy)
  have hcl := hcd.length
  have hll := hdl.length
  have hs2 := setO_eq hs
  have hsz' : cs.length = (tiOf P ty).size := by simpa using hsz
  have hsz3 : (a.eval y).cells.toList.length = ti.size := by omega
  have hst := run_storeCells_at (P := P) b off ty0 (a.eval y).cells.toList 0 ⟨vs⟩ w hh (by simp at hsz3 ⊢; omega) (allOneS_den hone hcd)
  have hrun : (execOp a.eval o).run P w = .ok .skip (w.setRow b ⟨vs.take off ++ (a.eval y).cells.toList ++ vs.drop (off + (a.eval y).cells.toList.length)⟩) := by
    have hsz2 : (a.eval y).cells.size = ti.size := by simpa using hsz3
    simp only [execOp, ho, hpx, Instr.storeAt, Instr.sureAddr, storeVar, sizeOf, typeInfo, Sem.run_bind, Sem.run_pure, Result.andThen_ok, run_program, hinf, hsz2]
    simp only [ne_eq, not_true_eq_false, if_false]
    simp only [Nat.add_zero] at hst
    rw [hst]
    simp
  unfold Oper.wp
  rw [hrun]
  show next (a.put o.dst _) _
  rw [hd]
  have hset := set1_eq hob
  obtain ⟨h1, h2⟩ := hr.upd1 (w' := w.setRow b ⟨vs.take off ++ (a.eval y).cells.toList ++ vs.drop (off + (a.eval y).cells.toList.length)⟩) (o' := .cells l' ty0) hi' hb rfl ⟨rfl, rfl, rfl, by simp, fun c _ hc => setRow_other w _ _ _ hc⟩
    ⟨_, setRow_heap w b _ _ _ _ hh, setO_den hs hdl hcd, hmn⟩ (.inl rfl) (fun j f dn cur e => by
      have h7 := hr.store.its j i f dn cur e
      rw [hi'] at h7; cases h7) (fun k f dn cur e => by cases e) hmn
  rw [hset.1] at h
  exact hK _ _ _ _ h1 h2 h
theorem sto {o : Oper} {n : Nat} {sl : List (Nat × SV)} {ob ob' : List Ob} {K : St → Prop} {ty ty0 : TypeId} {x y : Operand} {i off : Nat} {s : SV} {ti : TI} {cs l l' : List SV} (hT : tiOf P ty = ti) (h : K ⟨n, sl, ob'⟩) (ho : o.op = .store ty x y := by exact rfl) (hd : o.dst = none := by exact rfl) (hx : evO GL sl x = some (.blk i off) := by exact rfl) (hy : evO GL sl y = some s := by exact rfl) (hi : nthO i ob = some (.cells l ty0) := by exact rfl) (hok : ti.ok = true := by exact rfl) (hc : cellsO ti.agg s = some cs := by exact rfl) (hsz : Nat.beq cs.length ti.size = true := by exact rfl) (hone : allOneS cs = true := by exact rfl) (hs : setO off cs l = some l' := by exact rfl) (hob : set1 i (.cells l' ty0) ob = some ob' := by exact rfl) : OpR P GL n0 Pn (fun j => j = i) o ⟨n, sl, ob⟩ K := op_store hT hok ho hd hx hy hi hc hsz hone hs hob h
/-! slices -/
def mset (m : Mem) (b : Nat) (xs : List Value) : Mem := fun c o => if c = b then xs[o]? else m c o
/-- elements, as data -/
def elsO (GL : Nat → List D) (sl : List (Nat × SV)) (ag : Bool) : List Operand → Option (List (List D))
  | [] => some []
  | x :: r => (evO GL sl x).bind fun s => (cellsO ag s).bind fun cs => (toDL cs).bind fun ds => (elsO GL sl ag r).bind fun l => some (ds :: l)
def oneDL : List D → Bool
  | [] => true
  | d :: r => cond (oneD d) (oneDL r) false
def allEl (k : Nat) : List (List D) → Bool
  | [] => true
  | e :: r => cond (Nat.beq e.length k) (cond (oneDL e) (allEl k r) false) false
theorem oneDL_den {m : Mem} : ∀ {l : List D} {vs : List Value}, oneDL l = true → DenL m l vs → ∀ x ∈ vs, x.oneCell' = true
  | [], _, _, h, x, hx => by cases h; cases hx
  | s :: r, _, h, ⟨y, l', e, h1, h2⟩, x, hx => by
    subst e
    unfold oneDL at h
    cases hs : oneD s with
    | false => rw [hs] at h; cases h
    | true =>
      rw [hs] at h
      cases hx with
      | head => exact oneD_den hs h1
      | tail _ hx => exact oneDL_den h h2 x hx
theorem els_den {B : Bs} {σ : St} {g : Gh} {a : Act} {w : World} (hr : RelG GL B σ g a w) {ag : Bool} {k : Nat} : ∀ {xs : List Operand} {els : List (List D)}, elsO GL σ.sl ag xs = some els → allEl k els = true →
    els.length = xs.length ∧ (∀ v ∈ xs.map a.eval, v.cells.size = k) ∧ (∀ u ∈ (xs.map a.eval).flatMap fun v => v.cells.toList, u.oneCell' = true) ∧
      (∀ (m : Mem) (b off : Nat), Mle g.m m → (∀ i x, ((xs.map a.eval).flatMap fun v => v.cells.toList)[i]? = some x → m b (off + i) = some x) → DenR m k b off els)
  | [], els, h, _ => by simp [elsO] at h; subst h; exact ⟨rfl, by simp, by simp, fun _ _ _ _ _ => trivial⟩
  | x :: r, els, h, hall => by
    simp only [elsO, Option.bind_eq_some_iff, Option.some.injEq] at h
    obtain ⟨s, h1, cs, h2, ds, h3, l, h4, rfl⟩ := h
    simp only [allEl] at hall
    cases hb : Nat.beq ds.length k with
    | false => rw [hb] at hall; cases hall
    | true =>
    rw [hb] at hall
    cases hb2 : oneDL ds with
    | false => rw [hb2] at hall; cases hall
    | true =>
    rw [hb2] at hall
    simp only [cond_true] at hall
    have hk : ds.length = k := by simpa using hb
    obtain ⟨e1, e2, e3, e4⟩ := els_den hr h4 hall
    have hd := SDenL.toD _ (cellsO_den h2 (hr.evo h1)) h3
    have hlen := hd.length
    have hsz : (a.eval x).cells.size = k := by have : (a.eval x).cells.toList.length = k := by omega
                                               simpa using this
    refine ⟨by simp [e1], fun v hv => ?_, fun u hu => ?_, fun m b off hm hx => ?_⟩
    · simp only [List.map_cons, List.mem_cons] at hv
      rcases hv with rfl | hv
      · exact hsz
      · exact e2 v hv
    · simp only [List.map_cons, List.flatMap_cons, List.mem_append] at hu
      rcases hu with hu | hu
      · exact oneDL_den hb2 hd u hu
      · exact e3 u hu
    · simp only [List.map_cons, List.flatMap_cons] at hx
      refine ⟨⟨hk, DenC.of_vals (DenL.mono hm _ hd) fun i y hy => hx i y ?_⟩, e4 m b (off + k) hm fun i y hy => ?_⟩
      · rw [List.getElem?_append_left (List.getElem?_eq_some_iff.1 hy).1]; exact hy
      · have := hx (k + i) y (by rw [List.getElem?_append_right (by omega), show k + i - (a.eval x).cells.toList.length = i by omega]; exact hy)
        rwa [show off + (k + i) = off + k + i by omega] at this
def idxO : Nat → List Operand → Option (List (Nat × Operand))
  | _, [] => some []
  | k, x :: r => (idxO (k + 1) r).bind fun l => some ((k, x) :: l)
theorem idxO_eq : ∀ {xs : List Operand} {k : Nat} {l : List (Nat × Operand)}, idxO k xs = some l → l = (xs.zipIdx k).map fun p => (p.2, p.1)
  | [], k, l, h => by simp [idxO] at h; subst h; rfl
  | x :: r, k, l, h => by
    simp only [idxO, Option.bind_eq_some_iff, Option.some.injEq] at h
    obtain ⟨l', h1, rfl⟩ := h
    simp [idxO_eq h1]
theorem Mle.set {m : Mem} {b : Nat} {xs : List Value} (h : ∀ o x, m b o = some x → xs[o]? = some x) : Mle m (mset m b xs) := fun c o x hx => by
  unfold mset
  by_cases e : c = b
  · subst e; rw [if_pos rfl]; exact h o x hx
  · rw [if_neg e]; exact hx
theorem op_lit {o : Oper} {n t len k : Nat} {sl : List (Nat × SV)} {ob ob' : List Ob} {K : St → Prop} {T : Nat → Prop} {ty e : TypeId} {size bytes : Nat} {parts : Array (Nat × Operand)} (TS : SlTy P ty e size bytes) (xs : List Operand) {els : List (List D)} {ti : TI} (hT : tiOf P e = ti) (ho : o.op = .buildSlice ty len parts)
    (hd : o.dst = some t) (ht : Nat.blt t n = true) (hp : idxO 0 xs = some parts.toList) (hel : elsO GL sl ti.agg xs = some els) (hall : allEl size els = true) (hn : xs.length = len) (hsz : 0 < size) (hn0 : 0 < len) (hbig : len * size ≤ 16777216) (hl : ob.length = k) (hob : appO ob [.row e size] = some ob')
    (h : K ⟨n, (t, .own k size els) :: sl, ob'⟩) : OpR P GL n0 Pn T o ⟨n, sl, ob⟩ K := fun B hB g a w hr next Q hK hP => by
  subst hl
  rw [appO_eq hob] at h
  obtain ⟨e1, e2, e3, e4⟩ := els_den hr hel hall
  have hrun0 := run_lit (P := P) (ρ := a.eval) TS xs (xs.map a.eval) rfl (idxO_eq hp) (by simp [hn]) e2 hsz hn0 hbig w
  have hrun : (execOp a.eval o).run P w = .ok (.value (.slice (some ⟨w.heap.size, 0, none⟩) len len)) (w.alloc (.cells ⟨(xs.map a.eval).flatMap fun v => v.cells.toList⟩ e)) := by
    simp only [execOp, ho, Sem.run_bind]
    rw [hrun0]; rfl
  unfold Oper.wp
  rw [hrun]
  show next (a.put o.dst _) _
  rw [hd]
  generalize hfl : ((xs.map a.eval).flatMap fun v => v.cells.toList) = fl at *
  have hfll : fl.length = len * size := by rw [← hfl, flat_len _ e2]; simp [hn]
  have hm0 : ∀ o, g.m w.heap.size o = none := fun o => by
    cases hx : g.m w.heap.size o with
    | none => rfl
    | some x => have := hr.store.sat_lt hx; omega
  have hm : Mle g.m (mset g.m w.heap.size fl) := Mle.set fun o x hx => by rw [hm0] at hx; cases hx
  have hcell : ∀ o x, fl[o]? = some x → (w.alloc (.cells ⟨fl⟩ e)).cell? ⟨w.heap.size, o, none⟩ = some x := fun o x hx => by
    simp only [World.cell?, heap_alloc_new w (.cells ⟨fl⟩ e)]
    simpa using hx
  have hlen63 : len ≤ maxLen := by
    have : len ≤ len * size := Nat.le_mul_of_pos_right _ hsz
    simp only [maxLen]; omega
  have hrow : (w.alloc (.cells ⟨fl⟩ e)).ownsRow 0 e size (.slice (some ⟨w.heap.size, 0, none⟩) len len) len fl :=
    ⟨hfll, .inr ⟨w.heap.size, len, ⟨fl⟩, rfl, Nat.zero_le _, heap_alloc_new w _, Nat.le_refl _, hlen63, by simp [hfll], by rw [← hfll]; exact List.take_length⟩⟩
  have hA : ∀ b o x, mset g.m w.heap.size fl b o = some x → g.m b o = none → w.heap.size ≤ b ∧ (w.alloc (.cells ⟨fl⟩ e)).cell? ⟨b, o, none⟩ = some x ∧ x.oneCell' = true := fun b o x hx hn => by
    unfold mset at hx
    by_cases e5 : b = w.heap.size
    · subst e5
      rw [if_pos rfl] at hx
      exact ⟨Nat.le_refl _, hcell o x hx, e3 x (List.mem_of_getElem? hx)⟩
    · rw [if_neg e5, hn] at hx; cases hx
  have hB' : ∀ c, some w.heap.size = some c → ∀ o, len * size ≤ o → mset g.m w.heap.size fl c o = none := fun c hc o ho => by
    simp only [Option.some.injEq] at hc; subst hc
    unfold mset; rw [if_pos rfl, List.getElem?_eq_none (by omega)]
  obtain ⟨h1, h2⟩ := hr.new1 (w' := w.alloc (.cells ⟨fl⟩ e)) ((Fr.refl _ w).alloc _) hm hA (o' := .row e size) (pl := .row (some w.heap.size) len len) ⟨⟨fl, hrow⟩, hB'⟩ (fun b hb => by simp only [blkOf, Option.some.injEq] at hb; omega) (fun i f dn cur e => by cases e)
  refine hK _ _ _ _ (h1.put' (s := .own ob.length size els) ht ⟨some w.heap.size, len, ?_, ?_, ?_, fun _ => ⟨w.heap.size, rfl, e4 _ _ 0 hm fun i x hx => ?_⟩⟩) ⟨h2.1, fun i b o _ => h2.2 i b o (fun x => x)⟩ h
  · show (g.gs ++ [_])[ob.length]? = _
    have hl2 : ob.length = g.gs.length := hr.store.len
    rw [hl2, e1, hn]; simp
  · rw [e1, hn]; rfl
  · rw [e1, hn]; exact Nat.le_refl _
  · show mset _ _ _ _ _ = _
    unfold mset; rw [if_pos rfl, Nat.zero_add]; exact hx
theorem row_get {w : World} {e : TypeId} {k : Nat} {b : Nat} {n cap : Nat} {xs : List Value} (h : w.ownsRow 0 e k (.slice (some ⟨b, 0, none⟩) n cap) n xs) : n ≤ cap ∧ ∀ o x, xs[o]? = some x → w.cell? ⟨b, o, none⟩ = some x := by
  refine ⟨?_, fun o x hx => ?_⟩
  · rcases h.2 with ⟨h1, _⟩ | ⟨g0, c0, cur, h1, _, _, h4, _⟩
    · cases h1
    · simp only [Value.slice.injEq] at h1; omega
  · have := h.cells (g := b) rfl o x hx
    have hadd : (⟨b, 0, none⟩ : Addr).add o = ⟨b, o, none⟩ := by rw [addr_add]; simp
    rwa [hadd] at this
theorem denR_of_row {m m' : Mem} {k b c : Nat} (hm : Mle m m') : ∀ {ls : List (List D)} {off off' : Nat}, DenR m k b off ls → (∀ i x, i < ls.length * k → m b (off + i) = some x → m' c (off' + i) = some x) → DenR m' k c off' ls
  | [], _, _, _, _ => trivial
  | e :: r, off, off', ⟨⟨h0, h1⟩, h2⟩, h => by
    refine ⟨⟨h0, ?_⟩, denR_of_row hm h2 fun i x hi hx => ?_⟩
    · obtain ⟨vs, hv, hc⟩ := h1.vals
      have hl := hv.length
      refine DenC.of_vals (DenL.mono hm _ hv) fun i x hx => h i x ?_ (hc i x hx)
      have := (List.getElem?_eq_some_iff.1 hx).1
      simp only [List.length_cons, Nat.add_mul]; omega
    · have := h (k + i) x (by simp only [List.length_cons, Nat.add_mul]; omega) (by rwa [show off + (k + i) = off + k + i by omega])
      rwa [show off' + (k + i) = off' + k + i by omega] at this
theorem denR_len {m : Mem} {k b : Nat} : ∀ {ls : List (List D)} {off : Nat}, DenR m k b off ls → ∃ fl : List Value, fl.length = ls.length * k ∧ ∀ i x, fl[i]? = some x → m b (off + i) = some x
  | [], _, _ => ⟨[], by simp, by simp⟩
  | e :: r, off, ⟨⟨h0, h1⟩, h2⟩ => by
    obtain ⟨vs, hv, hc⟩ := h1.vals
    obtain ⟨fl, h3, h4⟩ := denR_len h2
    have hl := hv.length
    refine ⟨vs ++ fl, by simp [h3, hl, h0, Nat.add_mul]; omega, fun i x hx => ?_⟩
    rw [List.getElem?_append] at hx
    split at hx
    · exact hc i x hx
    · have := h4 _ x hx
      rwa [show off + k + (i - vs.length) = off + i by omega] at this
/-- a row of one's own goes on -/
theorem op_app_core {o : Oper} {n t i : Nat} {sl sl' : List (Nat × SV)} {ob ob1 ob' : List Ob} {K : St → Prop} {e : TypeId} {size : Nat} {s : Operand} {ls news : List (List D)} {or : Ob} 
    (hd : o.dst = some t) (ht : Nat.blt t n = true) (hs : evO GL sl s = some (.own i size ls) ∨ (evO GL sl s = some (.d (.v (.slice none 0 0))) ∧ ls = [] ∧ or = .nilrow e size)) (hi : nthO i ob = some or) (hor : or = .row e size ∨ or = .nilrow e size)
    (happ : ∀ B g a w, RelG GL B ⟨n, sl, ob⟩ g a w → ∀ xs, w.ownsRow 0 e size (a.eval s) ls.length xs → ∃ nv v' w', (execOp a.eval o).run P w = .ok (.value v') w' ∧ w'.ownsRow 0 e size v' (ls.length + news.length) (xs ++ nv) ∧ Fr (fun c => (a.eval s).ownBlock = some c ∧ v'.ownBlock = some c) w w' ∧
      (∃ k, v'.ownBlock = some k ∧ ((a.eval s).ownBlock = some k ∨ k = w.heap.size) ∧ k < w'.heap.size ∧ ∃ c, v' = .slice (some ⟨k, 0, none⟩) (ls.length + news.length) c) ∧ nv.length = news.length * size ∧ (∀ u ∈ nv, u.oneCell' = true) ∧
      ∀ (m : Mem) c off, Mle g.m m → (∀ (j : Nat) y, nv[j]? = some y → m c (off + j) = some y) → DenR m size c off news)
    (hsl : kSl i sl = some sl') (hob : kOb i ob = some ob1) (hob' : set1 i (.row e size) ob1 = some ob')
    (h : K ⟨n, (t, .own i size (ls ++ news)) :: sl', ob'⟩) : OpR P GL n0 Pn (fun j => j = i) o ⟨n, sl, ob⟩ K := fun B hB g a w hr next Q hK hP => by
  have hi' := nthO_eq hi
  rw [(set1_eq hob').1] at h
  -- the row as it is
  have hrow : ∃ b cap, g.gs[i]? = some (.row b cap ls.length) ∧ a.eval s = .slice (b.map fun b => ⟨b, 0, none⟩) ls.length cap ∧ (ls ≠ [] → ∃ c, b = some c ∧ DenR g.m size c 0 ls) := by
    rcases hs with hs | ⟨hs, rfl, rfl⟩
    · obtain ⟨b, cap, h1, h2, h3, h4⟩ := hr.evo hs
      exact ⟨b, cap, h1, h2, h4⟩
    · have hv : a.eval s = .slice none 0 0 := hr.evo hs
      obtain ⟨p, hp⟩ := hr.store.place hi'
      have hok := hr.store.obs _ _ _ hi' hp
      simp only [ObOk] at hok; subst hok
      exact ⟨none, 0, hp, hv, fun h => absurd rfl h⟩
  obtain ⟨b, cap, hpl, hval, hden⟩ := hrow
  have hown : ∃ xs, w.ownsRow 0 e size (a.eval s) ls.length xs ∧ (∀ c, b = some c → ∀ off, ls.length * size ≤ off → g.m c off = none) := by
    have hok := hr.store.obs _ _ _ hi' hpl
    rcases hor with rfl | rfl
    · obtain ⟨⟨xs, h1⟩, h2⟩ := hok
      exact ⟨xs, by rw [hval]; exact h1, h2⟩
    · simp only [ObOk, Pl.row.injEq] at hok
      obtain ⟨rfl, rfl, h3⟩ := hok
      refine ⟨[], ?_, fun c hc => by cases hc⟩
      rw [hval, h3]
      exact ⟨by simp, .inl ⟨rfl, rfl⟩⟩
  obtain ⟨xs, hown, hfree⟩ := hown
  obtain ⟨nv, v', w', hrun2, hrow', hfr0, ⟨k, hk1, hk2, hk3, c', rfl⟩, hnl, hnone, hden2⟩ := happ B g a w hr xs hown
  unfold Oper.wp
  rw [hrun2]
  show next (a.put o.dst _) _
  rw [hd]
  have hob2 : (a.eval s).ownBlock = b := by rw [hval]; cases b <;> rfl
  have hfr : Fr (fun c => b = some c) w w' := hfr0.mono fun c _ h => by rw [← hob2]; exact h.1
  rw [hob2] at hk2
  have hxl := hown.1
  have hcell' := (row_get hrow').2
  have hcell := fun c (hc : b = some c) => (row_get (b := c) (n := ls.length) (cap := cap) (xs := xs) (e := e) (k := size) (w := w) (by rw [hval, hc] at hown; exact hown)).2
  -- the data of the old block
  have hin : ∀ c, b = some c → ∀ off y, g.m c off = some y → xs[off]? = some y := fun c hc off y hy => by
    have hlt : off < ls.length * size := by
      rcases Nat.lt_or_ge off (ls.length * size) with h5 | h5
      · exact h5
      · rw [hfree c hc off h5] at hy; cases hy
    have h6 : xs[off]? = some xs[off] := List.getElem?_eq_getElem (by omega)
    have h7 := hcell c hc off _ h6
    rw [(hr.store.sat _ _ _ hy).1] at h7; cases h7
    exact h6
  have hnb : ∀ off, (b = some k → False) → g.m k off = none := fun off hbk => by
    rcases hk2 with h5 | h5
    · exact (hbk h5).elim
    · cases hx : g.m k off with
      | none => rfl
      | some y => have := hr.store.sat_lt hx; omega
  have hmle : Mle g.m (mset g.m k (xs ++ nv)) := Mle.set fun off y hy => by
    by_cases hbk : b = some k
    · have h6 := hin k hbk off y hy
      rw [List.getElem?_append_left (List.getElem?_eq_some_iff.1 h6).1]; exact h6
    · rw [hnb off (fun h => hbk h)] at hy; cases hy
  have hcor : (b = some k ∧ or = .row e size) ∨ w.heap.size ≤ k := by
    rcases hk2 with h5 | h5
    · rcases hor with h6 | rfl
      · exact .inl ⟨h5, h6⟩
      · have hok := hr.store.obs _ _ _ hi' hpl
        simp only [ObOk, Pl.row.injEq] at hok
        rw [hok.1] at h5; cases h5
    · exact .inr (by omega)
  have hfr2 : Fr (fun c => b = some c ∧ or = .row e size) w w' := ⟨hfr.os, hfr.tape, hfr.output, hfr.size, fun c hc hn => hfr.block c hc (fun hb => by
    rcases hor with h6 | rfl
    · exact hn ⟨hb, h6⟩
    · have hok := hr.store.obs _ _ _ hi' hpl
      simp only [ObOk, Pl.row.injEq] at hok
      rw [hok.1] at hb; cases hb)⟩
  have hA : ∀ d off y, mset g.m k (xs ++ nv) d off = some y → g.m d off = none → d = k := fun d off y hy hn => by
    unfold mset at hy
    by_cases e5 : d = k
    · exact e5
    · rw [if_neg e5, hn] at hy; cases hy
  have hB' : ∀ off y, mset g.m k (xs ++ nv) k off = some y → w'.cell? ⟨k, off, none⟩ = some y ∧ y.oneCell' = true := fun off y hy => by
    unfold mset at hy
    rw [if_pos rfl] at hy
    refine ⟨hcell' off y hy, ?_⟩
    rw [List.getElem?_append] at hy
    split at hy
    · rename_i hlt
      by_cases hl0 : ls = []
      · subst hl0; simp at hxl; subst hxl; simp at hlt
      · obtain ⟨c, hc, hdd⟩ := hden hl0
        obtain ⟨fl, hfl1, hfl2⟩ := denR_len hdd
        have h7 : fl[off]? = some fl[off] := List.getElem?_eq_getElem (by omega)
        have h8 := hfl2 off _ h7
        rw [Nat.zero_add] at h8
        have h9 := hin c hc off _ h8
        rw [hy] at h9; cases h9
        exact (hr.store.sat _ _ _ h8).2
    · exact hnone y (List.mem_of_getElem? hy)
  have hC : ∀ d off y, b = some d → g.m d off = some y → w'.cell? ⟨d, off, none⟩ = some y := fun d off y hd hy => by
    by_cases hdk : d = k
    · subst hdk
      have h6 := hin d hd off y hy
      exact hcell' off y (by rw [List.getElem?_append_left (List.getElem?_eq_some_iff.1 h6).1]; exact h6)
    · have hlt := hr.store.sat_lt hy
      have hold : w'.heap[d]? = w.heap[d]? := hfr0.block d hlt fun h => by
        have h9 := h.2
        simp only [Value.ownBlock, Option.some.injEq] at h9
        exact hdk h9.symm
      rw [World.cell?_of_block (w := w) hold]; exact (hr.store.sat _ _ _ hy).1
  have hD : ∀ off, (ls.length + news.length) * size ≤ off → mset g.m k (xs ++ nv) k off = none := fun off hoff => by
    unfold mset
    rw [if_pos rfl]
    exact List.getElem?_eq_none (by have : (ls.length + news.length) * size = ls.length * size + news.length * size := Nat.add_mul _ _ _
                                    rw [List.length_append]; omega)
  obtain ⟨h1, h2⟩ := hr.row1 (w' := w') (m' := mset g.m k (xs ++ nv)) (cap' := c') (n' := ls.length + news.length) hi' hor hpl hfr2 hmle hcor hA hB' hC ⟨_, hrow'⟩ hD hsl hob
  refine hK _ _ _ _ (h1.put' (s := .own i size (ls ++ news)) ht ⟨some k, c', ?_, ?_, ?_, fun _ => ⟨k, rfl, ?_⟩⟩) h2 h
  · show (g.gs.set i _)[i]? = _
    rw [List.getElem?_set_self (List.getElem?_eq_some_iff.1 hpl).1]; simp
  · simp
  · have := (row_get hrow').1; simpa using this
  · refine DenR.append ?_ ?_
    · by_cases hl0 : ls = []
      · subst hl0; trivial
      · obtain ⟨c, hc, hdd⟩ := hden hl0
        refine denR_of_row hmle hdd fun j y hj hy => ?_
        rw [Nat.zero_add] at hy ⊢
        have h6 := hin c hc j y hy
        show mset _ _ _ _ _ = _
        unfold mset
        rw [if_pos rfl, List.getElem?_append_left (List.getElem?_eq_some_iff.1 h6).1]; exact h6
    · refine hden2 _ _ _ hmle fun j y h6 => ?_
      show mset _ _ _ _ _ = _
      unfold mset
      rw [if_pos rfl, List.getElem?_append_right (by omega), show 0 + ls.length * size + j - xs.length = j by omega]; exact h6
/-- append of a piece of data to a row of one's own -/
theorem op_append_of {o : Oper} {n t i : Nat} {sl sl' : List (Nat × SV)} {ob ob1 ob' : List Ob} {K : St → Prop} {ty e : TypeId} {size bytes : Nat} {s x : Operand} {ls news : List (List D)} {or : Ob} (TS : SlTy P ty e size bytes) (ho : o.op = .call { callee := .builtin .append, args := #[s, x], argTypes := #[ty, ty] })
    (hd : o.dst = some t) (ht : Nat.blt t n = true) (hs : evO GL sl s = some (.own i size ls) ∨ (evO GL sl s = some (.d (.v (.slice none 0 0))) ∧ ls = [] ∧ or = .nilrow e size)) (hi : nthO i ob = some or) (hor : or = .row e size ∨ or = .nilrow e size)
    (hx : ∀ B g a w, RelG GL B ⟨n, sl, ob⟩ g a w → (D.sl size news).Den g.m (a.eval x))
    (hsz : 0 < size) (hne : news ≠ []) (h63 : ls.length + news.length ≤ maxLen) (hbytes : (ls.length + news.length) * bytes ≤ 140737488355328) (hsl : kSl i sl = some sl') (hob : kOb i ob = some ob1) (hob' : set1 i (.row e size) ob1 = some ob')
    (h : K ⟨n, (t, .own i size (ls ++ news)) :: sl', ob'⟩) : OpR P GL n0 Pn (fun j => j = i) o ⟨n, sl, ob⟩ K :=
  op_app_core (news := news) hd ht hs hi hor (fun B g a w hr xs hown => by
    obtain ⟨ax, capx, hvx, hlx, hdx⟩ := hx B g a w hr
    obtain ⟨bx, offx, rfl, hdx2⟩ := hdx hne
    obtain ⟨nv, hnl, hnv⟩ := denR_len hdx2
    have hm : 0 < news.length := List.length_pos_iff.2 hne
    have hncell : ∀ j u, nv[j]? = some u → w.cell? ((⟨bx, offx, none⟩ : Addr).add j) = some u := fun j u hu => by
      rw [addr_add]; exact (hr.store.sat _ _ _ (hnv j u hu)).1
    have hnone : ∀ u ∈ nv, u.oneCell' = true := fun u hu => by
      obtain ⟨j, hj⟩ := List.getElem?_of_mem hu
      exact (hr.store.sat _ _ _ (hnv j u hj)).2
    obtain ⟨v', w', hrun, hrow', hfr0, k, hk1, hk2, hk3, c', rfl⟩ := run_app (P := P) (ty := o.type) TS hsz hown (a := ⟨bx, offx, none⟩) (c := capx) hnl hm hncell hnone h63 hbytes
    refine ⟨nv, _, w', ?_, hrow', hfr0, ⟨k, hk1, hk2, hk3, c', rfl⟩, hnl, hnone, fun m c off hmm hj => denR_of_row hmm hdx2 fun i y hi hy => ?_⟩
    · unfold execOp
      simp only [ho, resolve, invoke, builtin, Sem.run_bind, Sem.run_pure, Result.andThen_ok, List.map_toArray, List.map_cons, List.map_nil, hvx, hrun]
    · have h7 : nv[i]? = some nv[i] := List.getElem?_eq_getElem (by omega)
      have := hnv i _ h7
      rw [hy] at this; cases this; exact hj i _ h7) hsl hob hob' h
/-- append of data to a row of one's own -/
theorem op_append {o : Oper} {n t i : Nat} {sl sl' : List (Nat × SV)} {ob ob1 ob' : List Ob} {K : St → Prop} {ty e : TypeId} {size bytes : Nat} {s x : Operand} {ls news : List (List D)} {or : Ob} {sx : SV} (TS : SlTy P ty e size bytes) (ho : o.op = .call { callee := .builtin .append, args := #[s, x], argTypes := #[ty, ty] })
    (hd : o.dst = some t) (ht : Nat.blt t n = true) (hs : evO GL sl s = some (.own i size ls)) (hx : evO GL sl x = some sx) (hxD : sx.toD = some (.sl size news)) (hi : nthO i ob = some or) (hor : or = .row e size ∨ or = .nilrow e size)
    (hsz : 0 < size) (hne : news ≠ []) (h63 : ls.length + news.length ≤ maxLen ∧ (ls.length + news.length) * bytes ≤ 140737488355328) (hsl : kSl i sl = some sl') (hob : kOb i ob = some ob1) (hob' : set1 i (.row e size) ob1 = some ob')
    (h : K ⟨n, (t, .own i size (ls ++ news)) :: sl', ob'⟩) : OpR P GL n0 Pn (fun j => j = i) o ⟨n, sl, ob⟩ K :=
  op_append_of TS ho hd ht (.inl hs) hi hor (fun B g a w hr => SV.Den.toD _ (hr.evo hx) hxD) hsz hne h63.1 h63.2 hsl hob hob' h
/-- a nil row of one's own is had at any time -/
theorem op_nilrow {o : Oper} {n : Nat} {sl : List (Nat × SV)} {ob ob' : List Ob} {K : St → Prop} {T T' : Nat → Prop} (e : TypeId) (k : Nat) (hob : appO ob [.nilrow e k] = some ob') (hT : ∀ i, i < ob.length → T' i → T i) (h : OpR P GL n0 Pn T' o ⟨n, sl, ob'⟩ K) : OpR P GL n0 Pn T o ⟨n, sl, ob⟩ K := fun B hB g a w hr next Q hK hP => by
  rw [appO_eq hob] at h
  obtain ⟨h1, h2⟩ := hr.new1 (w' := w) (Fr.refl _ w) (Mle.refl _) (fun b o x h1 h2 => by rw [h2] at h1; cases h1) (o' := .nilrow e k) (pl := .row none 0 0) rfl (fun b hb => by simp [blkOf] at hb) (fun i f dn cur e => by cases e)
  refine h B hB _ a w h1 next Q (fun σ' g' a' w' hr' hk hK' => hK σ' g' a' w' hr' ⟨h2.1.trans hk.1, fun i b o hi e1 e2 e3 => ?_⟩ hK') hP
  obtain ⟨f1, f2⟩ := h2.2 i b o (fun x => x) e1 e2 e3
  have hil := (List.getElem?_eq_some_iff.1 e1).1
  exact hk.2 i b o (fun hx => hi (hT i hil hx)) (by show (ob ++ [_])[i]? = _; rw [List.getElem?_append_left hil]; exact e1) f1 e3
/-- append to nil -/
theorem op_append_nil {o : Oper} {n t k : Nat} {sl sl' : List (Nat × SV)} {ob ob1 ob2 ob' : List Ob} {K : St → Prop} {ty e : TypeId} {size bytes : Nat} {s x : Operand} {news : List (List D)} {sx : SV} (TS : SlTy P ty e size bytes) (ho : o.op = .call { callee := .builtin .append, args := #[s, x], argTypes := #[ty, ty] })
    (hd : o.dst = some t) (ht : Nat.blt t n = true) (hs : evO GL sl s = some (.d (.v (.slice none 0 0)))) (hx : evO GL sl x = some sx) (hxD : sx.toD = some (.sl size news)) (hl : ob.length = k) (hob0 : appO ob [.nilrow e size] = some ob1) (hi : nthO k ob1 = some (.nilrow e size))
    (hsz : 0 < size) (hne : news ≠ []) (h63 : news.length ≤ maxLen ∧ news.length * bytes ≤ 140737488355328) (hsl : kSl k sl = some sl') (hob : kOb k ob1 = some ob2) (hob' : set1 k (.row e size) ob2 = some ob')
    (h : K ⟨n, (t, .own k size news) :: sl', ob'⟩) {T : Nat → Prop} : OpR P GL n0 Pn T o ⟨n, sl, ob⟩ K :=
  op_nilrow (T' := fun j => j = k) e size hob0 (fun i hi hx => by omega) (op_append_of (ls := []) TS ho hd ht (.inr ⟨hs, rfl, rfl⟩) hi (.inr rfl) (fun B g a w hr => SV.Den.toD _ (hr.evo hx) hxD) hsz hne (by simpa using h63.1) (by simpa using h63.2) hsl hob hob' h)
/-! calls, as they are mostly -/
/-- a call by a contract of data alone -/
theorem op_call_d {o : Oper} {σ : St} {K : St → Prop} {T : Nat → Prop} {f : FuncId} {argsc : List D} {svs : List SV} {Q : D → Prop} (hrun : ∀ B g a w, RelG GL B σ g a w → ∃ vs, (execOp a.eval o).run P w = .ok (.enter f ⟨vs⟩) w ∧ SDenL g svs vs) (hfa : FitL σ.ob svs (argsc.map .d))
    (ht : Tri P GL f [] (argsc.map .d) fun out ob' => ob' = [] ∧ ∃ d, out = .ret (.d d) ∧ Q d) (hret : ∀ d, Q d → (∀ t, o.dst = some t → Nat.blt t σ.n = true ∧ K ⟨σ.n, (t, .d d) :: σ.sl, σ.ob⟩) ∧ (o.dst = none → K σ)) : OpR P GL n0 Pn T o σ K := fun B hB g a w hr next Q' hK hP => by
  obtain ⟨vs, hrun, hd⟩ := hrun B g a w hr
  have hren : ∀ l : List D, renL [] (l.map .d) = some (l.map .d) := by
    intro l
    induction l with
    | nil => rfl
    | cons x l ih => simp [renL, SV.ren, ih]
  have hsub := hr.store.sub (obc := []) (ρ := []) .nil List.nodup_nil (fun j i f dn cur hj => by simp at hj)
  have hd2 := renL_back hsub.2.1 _ (hren argsc) (hfa.den hr.store hd)
  unfold Oper.wp
  rw [hrun, Oper.upon_enter]
  refine (ht _ w vs hsub.1 hd2).mono fun e w' he => ?_
  obtain ⟨g', ob', hs, hst, hle, hno', he⟩ := he
  cases e with
  | returned v =>
    obtain ⟨s, hs1, rfl, d, e1, hq⟩ := he
    cases e1
    obtain ⟨gn, hrel, hkeep, hden⟩ := hr.after (obc := []) (ix := []) .nil List.nodup_nil rfl (fun i hi => by cases hi) hs hst hle hno' (obr := []) (ob1 := σ.ob) (obn := σ.ob) (sl1 := σ.sl) rfl rfl (by
      have : ∀ l : List Ob, appO l [] = some l := by
        intro l
        induction l with
        | nil => rfl
        | cons x l ih => simp [appO, ih]
      exact this _) rfl
    have hkeep' : Keep T σ.ob g w gn w' := ⟨hkeep.1, fun i b o _ => hkeep.2 i b o (by simp)⟩
    obtain ⟨h1, h2⟩ := hret d hq
    show next (a.put o.dst v) w'
    cases hdst : o.dst with
    | none => exact hK _ _ _ _ hrel hkeep' (h2 hdst)
    | some t =>
      obtain ⟨e8, e9⟩ := h1 t hdst
      exact hK _ _ _ _ (hrel.put (s := .d d) e8 (hden (.d d) (.d d) v rfl hs1)) hkeep' e9
  | panicked c =>
    obtain ⟨v, s, _, _, _, d, e1, _⟩ := he
    cases e1
  | outgrown => exact he.elim
end
end Go.Vd
namespace Go.Vd
open Go Go.RowKit
section
variable {P : Program} {ops : Array Oper} {Q : Exit → Act → World → Prop}
/-- does operation j wait for operation i? -/
def deps (ops : List Oper) (j i : Nat) : Bool := match nthO j ops with
  | some o => o.after.toList.any fun e => cond (Region.binds .any e) (Nat.beq e.on i) false
  | none => false
abbrev Hd := List (Nat × Addr × Value)
def CHt (Hc : Hd) (w : World) : Prop := ∀ p ∈ Hc, w.cell? p.2.1 = some p.2.2
def CHi (i : Nat) (Hc : Hd) (w : World) : Prop := ∀ p ∈ Hc, p.1 = i → w.cell? p.2.1 = some p.2.2
/-- what is still held behind operation j -/
def filt (ops : List Oper) (j : Nat) (Hc : Hd) : Hd := Hc.filter fun p => !deps ops j p.1
def wpH (P : Program) (ops : Array Oper) (Q : Exit → Act → World → Prop) : Nat → Hd → Array Bool → Act → World → Prop
  | 0, _, listed, a, w => Region.ready .any ops listed = [] ∧ Q .normal a w
  | fuel + 1, Hc, listed, a, w =>
    (Region.ready .any ops listed = [] → Q .normal a w) ∧
    ∀ i ∈ Region.ready .any ops listed, wpOp P ops Q i (fun a' w' => CHt (filt ops.toList i Hc) w' ∧ wpH P ops Q fuel (filt ops.toList i Hc) (listed.setIfInBounds i true) a' w') a w
theorem wpH_any : ∀ (fuel : Nat) (Hc : Hd) (listed : Array Bool) (a : Act) (w : World), wpH P ops Q fuel Hc listed a w → wpAny P .any ops Q fuel listed a w
  | 0, _, _, _, _, h => h
  | fuel + 1, Hc, listed, _, _, h => ⟨h.1, fun i hi => wpOp_mono (fun a' w' h' => wpH_any fuel _ _ a' w' h'.2) (h.2 i hi)⟩
theorem wpH_mono : ∀ (fuel : Nat) (Hc Hd' : Hd) (listed : Array Bool) (a : Act) (w : World), (∀ p ∈ Hc, p ∈ Hd') → wpH P ops Q fuel Hd' listed a w → wpH P ops Q fuel Hc listed a w
  | 0, _, _, _, _, _, _, h => h
  | fuel + 1, Hc, Hd', listed, _, _, hs, h => ⟨h.1, fun i hi => wpOp_mono (fun a' w' h' => by
      have hs2 : ∀ p ∈ filt ops.toList i Hc, p ∈ filt ops.toList i Hd' := fun p hp => by
        unfold filt at hp ⊢
        rw [List.mem_filter] at hp ⊢
        exact ⟨hs p hp.1, hp.2⟩
      exact ⟨fun p hp => h'.1 p (hs2 p hp), wpH_mono fuel _ _ _ a' w' hs2 h'.2⟩) (h.2 i hi)⟩
def Yields (P : Program) (ops : Array Oper) (i : Nat) (Hc : Hd) (o : Oper) (v : Value) (a : Act) : Prop :=
  (Region.wanted o (yielded ops a.tmps) = true ∧ ∀ w, CHi i Hc w → (execOp a.eval o).run P w = .ok (.value v) w) ∨ (Region.wanted o (yielded ops a.tmps) = false ∧ v = undef)
theorem Yields.of_same {i : Nat} {Hc : Hd} {o : Oper} {v : Value} {a a' : Act} (h : Yields P ops i Hc o v a) (he : execOp a'.eval o = execOp a.eval o)
    (hw : Region.wanted o (yielded ops a'.tmps) = Region.wanted o (yielded ops a.tmps)) : Yields P ops i Hc o v a' := by
  unfold Yields at *; rw [he, hw]; exact h
theorem Yields.filt {i j : Nat} {Hc : Hd} {o : Oper} {v : Value} {a : Act} (h : Yields P ops i Hc o v a) (hd : deps ops.toList j i = false) : Yields P ops i (filt ops.toList j Hc) o v a := by
  refine h.imp (fun ⟨h1, h2⟩ => ⟨h1, fun w hc => h2 w fun p hp e => hc p ?_ e⟩) (fun h => h)
  unfold Vd.filt
  rw [List.mem_filter]
  exact ⟨hp, by rw [e, hd]; rfl⟩
theorem Yields.op {Hc : Hd} {i : Nat} {o : Oper} {v : Value} {a : Act} {w : World} {K : Act → World → Prop} (hi : ops[i]? = some o) (hy : Yields P ops i Hc o v a) (hw : CHt Hc w) (h : K (a.put o.dst v) w) :
    wpOp P ops Q i K a w := by
  unfold wpOp
  simp only [hi]
  rcases hy with ⟨h1, h2⟩ | ⟨h1, rfl⟩
  · rw [if_pos h1]; left; unfold Oper.wp; rw [h2 w (fun p hp _ => hw p hp)]; exact h
  · rw [if_neg (by simp [h1])]; exact h
theorem wpOp_put {i : Nat} {Hc : Hd} {j : Nat} {oi oj : Oper} {v : Value} {w : World} (hQ : ∀ c (a : Act) v w, Q (.panic c) (a.put oi.dst v) w → Q (.panic c) a w) (hj : ops[j]? = some oj) (hap : oi.apart ops oj = true)
    (hsi : ∀ cs b, oi.op ≠ .select cs b) (hsj : ∀ cs b, oj.op ≠ .select cs b) {K : Act → World → Prop} {a : Act}
    (hy : Yields P ops i Hc oi v a) (h : wpOp P ops Q j K (a.put oi.dst v) w) :
    wpOp P ops Q j (fun a' w' => Yields P ops i Hc oi v a' ∧ K (a'.put oi.dst v) w') a w := by
  obtain ⟨h1, h2, h3⟩ := Oper.apart_spec hap
  have keep : ∀ u, Yields P ops i Hc oi v (a.put oj.dst u) := fun u => hy.of_same (execOp_put oi hsi a oj.dst u h3) (wanted_put oi a oj.dst u h3)
  have keepd : ∀ d u, Yields P ops i Hc oi v (({ a with defers := d :: a.defers } : Act).put oj.dst u) := fun d u => by
    have hb : Yields P ops i Hc oi v ({ a with defers := d :: a.defers } : Act) := hy.of_same (execOp_congr oi hsi fun x _ => by cases x <;> rfl) rfl
    exact hb.of_same (execOp_put oi hsi _ oj.dst u h3) (wanted_put oi _ oj.dst u h3)
  unfold wpOp at *
  simp only [hj] at *
  rw [wanted_put oj a oi.dst v h1] at h
  split
  · rename_i hw
    simp only [hw, if_true] at h
    rcases h with h | h
    · left
      unfold Oper.wp at *
      rw [execOp_put oj hsj a oi.dst v h1] at h
      generalize (execOp a.eval oj).run P w = r at *
      cases r with
      | ok n w' =>
        cases n <;> simp only [Oper.upon] at h ⊢
        case value u => exact ⟨keep u, by rw [← Act.put_comm a v u h2]; exact h⟩
        case skip => exact ⟨keep _, by rw [← Act.put_comm a v undef h2]; exact h⟩
        case enter f args =>
          refine h.mono fun e w'' he => ?_
          cases e with
          | returned u => exact ⟨keep u, by rw [← Act.put_comm a v u h2]; exact he⟩
          | panicked c => exact hQ _ _ _ _ he
          | outgrown => exact he
        case defer d =>
          refine ⟨keepd d _, ?_⟩
          rw [← Act.put_comm _ v undef h2, ← Act.put_defers]
          exact h
        case row r args => exact Rows.mono h fun u w'' hu => ⟨keep u, by rw [← Act.put_comm a v u h2]; exact hu⟩
      | halt x w' =>
        cases x <;> simp only [Oper.upon] at h ⊢
        exact hQ _ _ _ _ h
    · right
      obtain ⟨hh, hl⟩ := h
      refine ⟨?_, hl⟩
      unfold Oper.asks at *
      rw [execOp_put oj hsj a oi.dst v h1] at hh
      exact hh
  · rename_i hw
    simp only [hw] at h
    exact ⟨keep _, by rw [← Act.put_comm a v undef h2]; exact h⟩
theorem wpH_first {i : Nat} {oi : Oper} {v : Value} (hQ : ∀ c (a : Act) v w, Q (.panic c) (a.put oi.dst v) w → Q (.panic c) a w) (hi : ops[i]? = some oi)
    (hsel : ∀ (j : Nat) (o : Oper) cs b, ops[j]? = some o → o.op ≠ .select cs b) :
    ∀ (fuel : Nat) (Hc : Hd) (listed : Array Bool) (a : Act) (w : World),
      (∀ (j : Nat) (oj : Oper), ops[j]? = some oj → j ≠ i → listed.getD j true = false → (∀ e ∈ oj.after, Region.binds .any e = true → e.on ≠ i) → oi.apart ops oj = true) →
      i ∈ Region.ready .any ops listed → Yields P ops i Hc oi v a → CHt Hc w →
      wpH P ops Q fuel Hc (listed.setIfInBounds i true) (a.put oi.dst v) w → wpH P ops Q (fuel + 1) Hc listed a w := by
  intro fuel
  have hfsub : ∀ (Hc : Hd) (j : Nat) p, p ∈ filt ops.toList j Hc → p ∈ Hc := fun Hc j p hp => by unfold filt at hp; exact (List.mem_filter.1 hp).1
  induction fuel with
  | zero =>
    intro Hc listed a w _ hr hy hc H
    refine ⟨fun h => (by rw [h] at hr; cases hr), fun j hj => ?_⟩
    by_cases hji : j = i
    · subst hji; exact hy.op hi hc ⟨fun p hp => hc p (hfsub _ _ p hp), H⟩
    · have := ready_mono hj hji
      rw [H.1] at this
      cases this
  | succ fuel ih =>
    intro Hc listed a w hfree hr hy hc H
    refine ⟨fun h => (by rw [h] at hr; cases hr), fun j hj => ?_⟩
    by_cases hji : j = i
    · subst hji; exact hy.op hi hc ⟨fun p hp => hc p (hfsub _ _ p hp), wpH_mono _ _ _ _ _ _ (hfsub _ _) H⟩
    · have h1 := H.2 j (ready_mono hj hji)
      obtain ⟨hjun, oj, hoj, hall⟩ := mem_ready.1 hj
      have hnot : ∀ e ∈ oj.after, Region.binds .any e = true → e.on ≠ i := fun e he hb heq => by
        have h1 := hall e he hb
        have h0 := (mem_ready.1 hr).1
        rw [heq] at h1
        rcases Nat.lt_or_ge i listed.size with h' | h'
        · simp [h'] at h0 h1; rw [h0] at h1; cases h1
        · simp [Array.getElem?_eq_none h'] at h1
      have hdep : deps ops.toList j i = false := by
        unfold deps
        split
        · rename_i o ho
          have ho2 := nthO_eq ho
          have ho3 : ops[j]? = some o := by simpa using ho2
          rw [hoj] at ho3; cases ho3
          rw [List.any_eq_false]
          intro e he
          cases hb : Region.binds .any e with
          | false => simp
          | true => simpa using hnot e (by simpa using he) hb
        · rfl
      have h2 := wpOp_put hQ hoj (hfree j oj hoj hji hjun hnot) (fun cs b => hsel i oi cs b hi) (fun cs b => hsel j oj cs b hoj) hy h1
      have hfree' : ∀ (k : Nat) (ok : Oper), ops[k]? = some ok → k ≠ i → (listed.setIfInBounds j true).getD k true = false →
          (∀ e ∈ ok.after, Region.binds .any e = true → e.on ≠ i) → oi.apart ops ok = true := fun k ok hk hki hun hno => by
        refine hfree k ok hk hki ?_ hno
        by_cases hjk : j = k
        · subst hjk; exact hjun
        · rw [getD_set_ne true hjk] at hun; exact hun
      refine wpOp_mono (fun a' w' h3 => ⟨h3.2.1, ih _ (listed.setIfInBounds j true) a' w' hfree' (ready_mono hr (Ne.symm hji)) (h3.1.filt hdep) h3.2.1 ?_⟩) h2
      rw [Array.setIfInBounds_comm _ _ hji]
      exact h3.2.2
end
/-- what is held while an operation runs -/
def heldB (t : Nat → Bool) : List (Nat × Nat) → List Ob → Bool
  | [], _ => true
  | p :: r, ob => !(t p.2) && (match nthO p.2 ob with | some (.cells _ _) => true | _ => false) && heldB t r ob
theorem heldB_eq {t : Nat → Bool} {ob : List Ob} : ∀ {L : List (Nat × Nat)}, heldB t L ob = true → ∀ p ∈ L, t p.2 = false ∧ ∃ c ty, nthO p.2 ob = some (.cells c ty)
  | q :: r, h, p, hp => by
    simp only [heldB, Bool.and_eq_true, Bool.not_eq_true'] at h
    rcases List.mem_cons.1 hp with rfl | hp
    · refine ⟨h.1.1, ?_⟩
      have h2 := h.1.2
      split at h2
      · exact ⟨_, _, by assumption⟩
      · cases h2
    · exact heldB_eq h.2 p hp
theorem held0 {ob : List Ob} {L : List (Nat × Nat)} (h : heldB (fun _ => false) L ob = true) : ∀ p ∈ L, ¬ (fun _ : Nat => False) p.2 ∧ ∃ c ty, nthO p.2 ob = some (.cells c ty) := fun p hp => ⟨fun h => h, (heldB_eq h p hp).2⟩
theorem held1 {i : Nat} {ob : List Ob} {L : List (Nat × Nat)} (h : heldB (fun j => Nat.beq j i) L ob = true) : ∀ p ∈ L, ¬ (fun j => j = i) p.2 ∧ ∃ c ty, nthO p.2 ob = some (.cells c ty) := fun p hp =>
  ⟨fun e => (by have := (heldB_eq h p hp).1; simp only [e] at this; simp at this), (heldB_eq h p hp).2⟩
theorem heldx {ix : List Nat} {ob : List Ob} {L : List (Nat × Nat)} (h : heldB (inIx ix) L ob = true) : ∀ p ∈ L, ¬ (fun j => j ∈ ix) p.2 ∧ ∃ c ty, nthO p.2 ob = some (.cells c ty) := fun p hp =>
  ⟨fun e => (by have := (heldB_eq h p hp).1; rw [inIx_iff.2 e] at this; cases this), (heldB_eq h p hp).2⟩
section
variable {P : Program} {GL : Nat → List D} {n0 : Nat} {Pn : PnS}
/-- what is held: cells that stay, or cells of the objects in L, each with the operation that looks at it -/
def HeldT (g : Gh) (L : List (Nat × Nat)) (Hc : Hd) : Prop :=
  ∀ p ∈ Hc, p.2.1.spot = none ∧ (g.m p.2.1.block p.2.1.off = some p.2.2 ∨ ∃ k b, (p.1, k) ∈ L ∧ g.gs[k]? = some (.loc b) ∧ p.2.1.block = b)
def tagO (i : Nat) : List Nat → List (Nat × Nat) → Option (List (Nat × Nat))
  | [], L => some L
  | k :: r, L => (tagO i r L).bind fun l => some ((i, k) :: l)
theorem tagO_mem {i : Nat} : ∀ {r : List Nat} {L l : List (Nat × Nat)}, tagO i r L = some l → (∀ k ∈ r, (i, k) ∈ l) ∧ ∀ p ∈ L, p ∈ l
  | [], L, l, h => by simp [tagO] at h; subst h; simp
  | k :: r, L, l, h => by
    simp only [tagO, Option.bind_eq_some_iff, Option.some.injEq] at h
    obtain ⟨l', h1, rfl⟩ := h
    have ih := tagO_mem h1
    exact ⟨fun j hj => by rcases List.mem_cons.1 hj with rfl | hj; exact List.mem_cons_self; exact List.mem_cons_of_mem _ (ih.1 j hj), fun p hp => List.mem_cons_of_mem _ (ih.2 p hp)⟩
def filtO (ops : List Oper) (j : Nat) : List (Nat × Nat) → Option (List (Nat × Nat))
  | [] => some []
  | p :: r => (filtO ops j r).bind fun l => cond (deps ops j p.1) (some l) (some (p :: l))
theorem filtO_mem {ops : List Oper} {j : Nat} : ∀ {L l : List (Nat × Nat)}, filtO ops j L = some l → ∀ p ∈ L, deps ops j p.1 = false → p ∈ l
  | [], l, h, p, hp, _ => by cases hp
  | q :: r, l, h, p, hp, hd => by
    simp only [filtO, Option.bind_eq_some_iff] at h
    obtain ⟨l', h1, h2⟩ := h
    cases hb : deps ops j q.1 <;> rw [hb] at h2 <;> simp at h2 <;> subst h2
    · rcases List.mem_cons.1 hp with rfl | hp
      · exact List.mem_cons_self
      · exact List.mem_cons_of_mem _ (filtO_mem h1 p hp hd)
    · rcases List.mem_cons.1 hp with rfl | hp
      · rw [hb] at hd; cases hd
      · exact filtO_mem h1 p hp hd
def AnyR (P : Program) (GL : Nat → List D) (n0 : Nat) (Pn : PnS) (l : List Oper) (fuel : Nat) (listed : Array Bool) (L : List (Nat × Nat)) (Q : Ex → St → Prop) (σ : St) : Prop :=
  ∀ B : Bs, B.n0 = n0 → ∀ g a w Hc, RelG GL B σ g a w → CHt Hc w → HeldT g L Hc → wpH P l.toArray (liftQ GL B (Pn.dr l) Q) fuel Hc listed a w
theorem dstIn_of {l : List Oper} {i : Nat} {o : Oper} {t : Nat} (h : l[i]? = some o) (hd : o.dst = some t) : dstIn t l = true := by
  induction l generalizing i with
  | nil => simp at h
  | cons a r ih =>
    unfold dstIn
    cases i with
    | zero => simp at h; subst h; rw [hd]; simp
    | succ i => rw [ih (by simpa using h)]; simp
theorem liftQ_put {B : Bs} {Q : Ex → St → Prop} {l : List Oper} {i : Nat} {o : Oper} (ho : l[i]? = some o) : ∀ c (a : Act) v w, liftQ GL B (Pn.dr l) Q (.panic c) (a.put o.dst v) w → liftQ GL B (Pn.dr l) Q (.panic c) a w := by
  intro c a v w h
  rcases h with h | ⟨h1, g, sl, ob, x, s, h2, h3, h4, h5, h7, h6⟩
  · exact h.elim
  · refine .inr ⟨by cases hd : o.dst <;> rw [hd] at h1 <;> exact h1, g, dropD l sl, ob, x, s, h2, h3, h4, h5, fun t => ?_, ?_⟩
    · rw [dropD_slk]
      split
      · trivial
      · rename_i hn
        have := h7 t
        cases hd : o.dst with
        | none => rw [hd] at this; exact this
        | some d =>
          rw [hd] at this
          have hdt : d ≠ t := fun e => hn (by subst e; exact dstIn_of ho hd)
          have e2 : (a.put (some d) v).tmps.getD t undef = a.tmps.getD t undef := by
            simp only [Act.put]
            rw [Array.getD_eq_getD_getElem?, Array.getD_eq_getD_getElem?, Array.getElem?_setIfInBounds_ne hdt]
          rwa [e2] at this
    · show Pn.pn s (dropD l (dropD l sl)) ob
      rw [dropD_idem]; exact h6
theorem liftQ_dr {B : Bs} {Q : Ex → St → Prop} {l : List Oper} : ∀ e a w, liftQ GL B (Pn.dr l) Q e a w → liftQ GL B Pn Q e a w := by
  intro e a w h
  cases e with
  | normal => exact h
  | exit j => exact h
  | goto l => exact h
  | ret => exact .inr (h.resolve_left id)
  | panic c =>
    rcases h with h | ⟨h1, g, sl, ob, x, s, h2, h3, h4, h5, h7, h6⟩
    · exact h.elim
    · refine .inr ⟨h1, g, dropD l sl, ob, x, s, h2, h3, h4, h5, fun t => ?_, h6⟩
      rw [dropD_slk]
      split
      · trivial
      · exact h7 t
  | outgrown => exact h
theorem any_start {id : Nat} {l : List Oper} {Q : Ex → St → Prop} {σ : St} (hm : P.follows .mixedOrders = true) {fuel : Nat} {listed : Array Bool} (hf : l.length = fuel) (hl : Array.replicate fuel false = listed) (h : AnyR P GL n0 Pn l fuel listed [] Q σ) : Runs P GL n0 Pn (.region id l.toArray true) Q σ := fun B hB a w ⟨g, hr⟩ => by
  subst hf hl
  refine wp_mono (Q := liftQ GL B (Pn.dr l) Q) ?_ liftQ_dr
  refine wp_region_any hm ?_
  have hr' : RelG GL B σ g a { w with drawn := w.drawn + 1 } := ⟨hr.defers, hr.size, hr.slots, ⟨hr.store.len, fun i o p h1 h2 => by have := hr.store.obs i o p h1 h2; cases o <;> cases p <;> exact this, hr.store.its, hr.store.disj, hr.store.sat, hr.store.glob⟩,
    ⟨⟨hr.stp.fr.os, hr.stp.fr.tape, hr.stp.fr.output, hr.stp.fr.size, hr.stp.fr.block⟩, hr.stp.mem, hr.stp.new, hr.stp.own, hr.stp.at'⟩⟩
  have := h B hB g a _ [] hr' (fun p hp => by cases hp) (fun p hp => by cases hp)
  simpa using wpH_any _ _ _ _ _ this
theorem a_start {id : Nat} {l : List Oper} {Q : Ex → St → Prop} {σ : St} {fuel : Nat} {listed : Array Bool} (h : AnyR P GL n0 Pn l fuel listed [] Q σ) (hf : l.length = fuel := by exact rfl) (hl : Array.replicate fuel false = listed := by exact rfl) (hm : P.follows .mixedOrders = true := by omega) : Runs P GL n0 Pn (.region id l.toArray true) Q σ := any_start hm hf hl h
theorem any_fl_of {l : List Oper} {fuel t : Nat} {listed listed' : Array Bool} {L : List (Nat × Nat)} {Q : Ex → St → Prop} {n : Nat} {sl : List (Nat × SV)} {ob : List Ob} (i : Nat) {o : Oper} (ho : l[i]? = some o) (hw : ∀ B g a w, RelG GL B ⟨n, sl, ob⟩ g a w → Region.wanted o (yielded l.toArray a.tmps) = true) (hd : o.dst = some t) (ht : Nat.blt t n = true)
    (hb : ((Region.ready .any l.toArray listed).contains i && Region.free .any l.toArray listed i && Region.noSelect l.toArray) = true) (hl : listed.setIfInBounds i true = listed')
    (h : FloatR P GL o ⟨n, sl, ob⟩ fun s L' => ∃ L2, tagO i L' L = some L2 ∧ AnyR P GL n0 Pn l fuel listed' L2 Q ⟨n, (t, s) :: sl, ob⟩) : AnyR P GL n0 Pn l (fuel + 1) listed L Q ⟨n, sl, ob⟩ := fun B hB g a w Hc hr hc hheld => by
  subst hl
  simp only [Bool.and_eq_true] at hb
  obtain ⟨⟨hready, hfree⟩, hsel⟩ := hb
  have ho' : l.toArray[i]? = some o := by simpa using ho
  obtain ⟨Hi, s, y, L', hrun, hcw, hh, hden, L2, hL2, hk⟩ := h B g a w hr
  have htm := tagO_mem hL2
  have hcw2 : CHt (Hi.map (fun p => (i, p)) ++ Hc) w := fun p hp => (List.mem_append.1 hp).elim (fun hp => by
    obtain ⟨q, hq, rfl⟩ := List.mem_map.1 hp; exact hcw q hq) (hc p)
  have hh2 : HeldT g L2 (Hi.map (fun p => (i, p)) ++ Hc) := fun p hp => by
    rcases List.mem_append.1 hp with hp | hp
    · obtain ⟨q, hq, rfl⟩ := List.mem_map.1 hp
      obtain ⟨h1, h2⟩ := hh q hq
      exact ⟨h1, h2.imp (fun h => h) fun ⟨k, b, e1, e2⟩ => ⟨k, b, htm.1 k e1, e2⟩⟩
    · obtain ⟨h1, h2⟩ := hheld p hp
      exact ⟨h1, h2.imp (fun h => h) fun ⟨k, b, e1, e2⟩ => ⟨k, b, htm.2 _ e1, e2⟩⟩
  refine wpH_mono _ _ (Hi.map (fun p => (i, p)) ++ Hc) _ _ _ (fun p hp => List.mem_append.2 (.inr hp)) ?_
  refine wpH_first (liftQ_put ho) ho' (Region.noSelect_spec hsel) fuel _ listed a w (Region.free_spec ho' hfree) (by simpa using hready) (v := y) (.inl ⟨hw B g a w hr, fun w' hc' => hrun w' (fun p hp => hc' (i, p) (List.mem_append.2 (.inl (List.mem_map.2 ⟨p, hp, rfl⟩))) rfl)⟩) hcw2 ?_
  rw [hd]
  exact hk B hB g _ w _ (hr.put ht hden) hcw2 hh2
theorem any_fl {l : List Oper} {fuel t : Nat} {listed listed' : Array Bool} {L : List (Nat × Nat)} {Q : Ex → St → Prop} {n : Nat} {sl : List (Nat × SV)} {ob : List Ob} (i : Nat) {o : Oper} (ho : l[i]? = some o) (hg : o.guard = none) (hd : o.dst = some t) (ht : Nat.blt t n = true)
    (hb : ((Region.ready .any l.toArray listed).contains i && Region.free .any l.toArray listed i && Region.noSelect l.toArray) = true) (hl : listed.setIfInBounds i true = listed')
    (h : FloatR P GL o ⟨n, sl, ob⟩ fun s L' => ∃ L2, tagO i L' L = some L2 ∧ AnyR P GL n0 Pn l fuel listed' L2 Q ⟨n, (t, s) :: sl, ob⟩) : AnyR P GL n0 Pn l (fuel + 1) listed L Q ⟨n, sl, ob⟩ :=
  any_fl_of i ho (fun B g a w hr => by simp [Region.wanted, hg]) hd ht hb hl h
theorem A1 {l : List Oper} {fuel t : Nat} {listed listed' : Array Bool} {L : List (Nat × Nat)} {Q : Ex → St → Prop} {n : Nat} {sl : List (Nat × SV)} {ob : List Ob} {o : Oper} (i : Nat) (ho : l[i]? = some o) (h : FloatR P GL o ⟨n, sl, ob⟩ fun s L' => ∃ L2, tagO i L' L = some L2 ∧ AnyR P GL n0 Pn l fuel listed' L2 Q ⟨n, (t, s) :: sl, ob⟩) (hg : o.guard = none := by exact rfl) (hd : o.dst = some t := by exact rfl) (ht : Nat.blt t n = true := by exact rfl) (hb : ((Region.ready .any l.toArray listed).contains i && Region.free .any l.toArray listed i && Region.noSelect l.toArray) = true := by kernel_rfl) (hl : listed.setIfInBounds i true = listed' := by exact rfl) : AnyR P GL n0 Pn l (fuel + 1) listed L Q ⟨n, sl, ob⟩ := any_fl i ho hg hd ht hb hl h
theorem wanted_lit {B : Bs} {n : Nat} {sl : List (Nat × SV)} {ob : List Ob} {g : Gh} {a : Act} {w : World} {l : List Oper} {o : Oper} {j d : Nat} {want b : Bool} (hr : RelG GL B ⟨n, sl, ob⟩ g a w) (hg : o.guard = some (j, want)) (hd : dstOf l j = some d) (hb : slo d sl = some (.d (.v (.bool b)))) :
    Region.wanted o (yielded l.toArray a.tmps) = (b == want) := by
  have hbv : a.tmps.getD d undef = .bool b := by have := hr.slots d; rw [slo_slk hb] at this; exact this
  exact wanted_of hg (by simpa using hd) hbv
theorem any_fl_yes {l : List Oper} {fuel t : Nat} {listed listed' : Array Bool} {L : List (Nat × Nat)} {Q : Ex → St → Prop} {n : Nat} {sl : List (Nat × SV)} {ob : List Ob} (i : Nat) {o : Oper} {j d : Nat} {want : Bool} (ho : l[i]? = some o) (hg : o.guard = some (j, want)) (hj : dstOf l j = some d) (hlit : slo d sl = some (.d (.v (.bool want)))) (hd : o.dst = some t) (ht : Nat.blt t n = true)
    (hb : ((Region.ready .any l.toArray listed).contains i && Region.free .any l.toArray listed i && Region.noSelect l.toArray) = true) (hl : listed.setIfInBounds i true = listed')
    (h : FloatR P GL o ⟨n, sl, ob⟩ fun s L' => ∃ L2, tagO i L' L = some L2 ∧ AnyR P GL n0 Pn l fuel listed' L2 Q ⟨n, (t, s) :: sl, ob⟩) : AnyR P GL n0 Pn l (fuel + 1) listed L Q ⟨n, sl, ob⟩ :=
  any_fl_of i ho (fun B g a w hr => by rw [wanted_lit hr hg hj hlit]; simp) hd ht hb hl h
theorem A6 {l : List Oper} {fuel t : Nat} {listed listed' : Array Bool} {L : List (Nat × Nat)} {Q : Ex → St → Prop} {n : Nat} {sl : List (Nat × SV)} {ob : List Ob} {o : Oper} {j d : Nat} {want : Bool} (i : Nat) (ho : l[i]? = some o) (h : FloatR P GL o ⟨n, sl, ob⟩ fun s L' => ∃ L2, tagO i L' L = some L2 ∧ AnyR P GL n0 Pn l fuel listed' L2 Q ⟨n, (t, s) :: sl, ob⟩) (hg : o.guard = some (j, want) := by exact rfl) (hj : dstOf l j = some d := by exact rfl) (hd : o.dst = some t := by exact rfl) (hlit : slo d sl = some (.d (.v (.bool want))) := by exact rfl) (ht : Nat.blt t n = true := by exact rfl) (hb : ((Region.ready .any l.toArray listed).contains i && Region.free .any l.toArray listed i && Region.noSelect l.toArray) = true := by kernel_rfl) (hl : listed.setIfInBounds i true = listed' := by exact rfl) : AnyR P GL n0 Pn l (fuel + 1) listed L Q ⟨n, sl, ob⟩ := any_fl_yes i ho hg hj hlit hd ht hb hl h
theorem any_split {l : List Oper} {fuel : Nat} {listed : Array Bool} {L : List (Nat × Nat)} {Q : Ex → St → Prop} {n : Nat} {sl : List (Nat × SV)} {ob : List Ob} (d : Nat) {b : Bool} (hb : slo d sl = some (.d (.v (.bool b))))
    (h1 : b = true → AnyR P GL n0 Pn l fuel listed L Q ⟨n, (d, .d (.v (.bool true))) :: sl, ob⟩) (h2 : b = false → AnyR P GL n0 Pn l fuel listed L Q ⟨n, (d, .d (.v (.bool false))) :: sl, ob⟩) : AnyR P GL n0 Pn l fuel listed L Q ⟨n, sl, ob⟩ := fun B hB g a w Hc hr hc hh => by
  have hbv : a.tmps.getD d undef = .bool b := by have := hr.slots d; rw [slo_slk hb] at this; exact this
  cases b with
  | true => exact h1 rfl B hB g a w Hc (hr.known (t := d) hbv) hc hh
  | false => exact h2 rfl B hB g a w Hc (hr.known (t := d) hbv) hc hh
/-- the next step is operation i -/
def AnyO (P : Program) (GL : Nat → List D) (n0 : Nat) (Pn : PnS) (l : List Oper) (fuel : Nat) (listed : Array Bool) (L : List (Nat × Nat)) (Q : Ex → St → Prop) (σ : St) (i : Nat) : Prop :=
  ∀ B : Bs, B.n0 = n0 → ∀ g a w Hc, RelG GL B σ g a w → CHt Hc w → HeldT g L Hc →
    wpOp P l.toArray (liftQ GL B (Pn.dr l) Q) i (fun a' w' => CHt (filt l i Hc) w' ∧ wpH P l.toArray (liftQ GL B (Pn.dr l) Q) fuel (filt l i Hc) (listed.setIfInBounds i true) a' w') a w
def AllO (p : Nat → Prop) : List Nat → Prop
  | [] => True
  | i :: r => p i ∧ AllO p r
theorem AllO.mem {p : Nat → Prop} : ∀ {l : List Nat}, AllO p l → ∀ i ∈ l, p i
  | [], _, i, h => by cases h
  | j :: r, h, i, hi => by
    rcases List.mem_cons.1 hi with rfl | hi
    · exact h.1
    · exact h.2.mem i hi
theorem any_many {l : List Oper} {fuel : Nat} {listed : Array Bool} {L : List (Nat × Nat)} {Q : Ex → St → Prop} {σ : St} {rs : List Nat} (hrs : Region.ready .any l.toArray listed = rs) (hne : rs.isEmpty = false) (h : AllO (AnyO P GL n0 Pn l fuel listed L Q σ) rs) : AnyR P GL n0 Pn l (fuel + 1) listed L Q σ := fun B hB g a w Hc hr hc hh => by
  refine ⟨fun e => ?_, fun k hk => ?_⟩
  · rw [hrs] at e; subst e; cases hne
  · rw [hrs] at hk
    exact h.mem k hk B hB g a w Hc hr hc hh
theorem any_o_of {l : List Oper} {fuel : Nat} {listed listed' : Array Bool} {L L2 : List (Nat × Nat)} {Q : Ex → St → Prop} {σ : St} {T : Nat → Prop} (i : Nat) {o : Oper} (ho : l[i]? = some o) (hw : ∀ B g a w, RelG GL B σ g a w → Region.wanted o (yielded l.toArray a.tmps) = true) (hl : listed.setIfInBounds i true = listed')
    (hf : filtO l i L = some L2) (hL : ∀ p ∈ L2, ¬ T p.2 ∧ ∃ c ty, nthO p.2 σ.ob = some (.cells c ty))
    (h : OpR P GL n0 (Pn.dr l) T o σ fun σ' => AnyR P GL n0 Pn l fuel listed' L2 Q σ') : AnyO P GL n0 Pn l fuel listed L Q σ i := fun B hB g a w Hc hr hc hh => by
  subst hl
  have ho' : l.toArray[i]? = some o := by simpa using ho
  unfold wpOp
  simp only [ho', hw B g a w hr, if_true]
  left
  have hmem : ∀ p ∈ filt l i Hc, p ∈ Hc ∧ ∀ q, (p.1, q) ∈ L → (p.1, q) ∈ L2 := fun p hp => by
    unfold filt at hp
    obtain ⟨h1, h2⟩ := List.mem_filter.1 hp
    exact ⟨h1, fun q hq => filtO_mem hf _ hq (by simpa using h2)⟩
  refine h B hB g a w hr _ _ (fun σ' g' a' w' hr' hkeep hk => ?_) (fun c w' hp => .inr ⟨hr.defers, hp⟩)
  have hc' : CHt (filt l i Hc) w' := fun p hp => by
    obtain ⟨hp1, hp2⟩ := hmem p hp
    obtain ⟨h1, h2⟩ := hh p hp1
    have hcell := hc p hp1
    obtain ⟨pi, ⟨pb, po, ps⟩, pv⟩ := p
    simp only at h1 h2 hcell hp2 ⊢
    subst h1
    rcases h2 with h2 | ⟨j, b, e1, e2, e3⟩
    · exact (hr'.store.sat _ _ _ (hkeep.1 _ _ _ h2)).1
    · obtain ⟨f1, c, ty, f2⟩ := hL _ (hp2 j e1)
      obtain ⟨_, f4⟩ := hkeep.2 j b _ f1 (nthO_eq f2) e2 rfl
      subst e3
      rw [World.cell?_of_block (w := w) f4]; exact hcell
  have hh' : HeldT g' L2 (filt l i Hc) := fun p hp => by
    obtain ⟨hp1, hp2⟩ := hmem p hp
    obtain ⟨h1, h2⟩ := hh p hp1
    refine ⟨h1, h2.imp (hkeep.1 _ _ _) fun ⟨j, b, e1, e2, e3⟩ => ?_⟩
    obtain ⟨f1, c, ty, f2⟩ := hL _ (hp2 j e1)
    exact ⟨j, b, hp2 j e1, (hkeep.2 j b _ f1 (nthO_eq f2) e2 rfl).1, e3⟩
  exact ⟨by simpa using hc', by simpa using hk B hB g' a' w' _ hr' hc' hh'⟩
theorem any_st_of {l : List Oper} {fuel : Nat} {listed listed' : Array Bool} {L L2 : List (Nat × Nat)} {Q : Ex → St → Prop} {σ : St} {T : Nat → Prop} (i : Nat) {o : Oper} (ho : l[i]? = some o) (hw : ∀ B g a w, RelG GL B σ g a w → Region.wanted o (yielded l.toArray a.tmps) = true) (hrs : Region.ready .any l.toArray listed = [i]) (hl : listed.setIfInBounds i true = listed')
    (hf : filtO l i L = some L2) (hL : ∀ p ∈ L2, ¬ T p.2 ∧ ∃ c ty, nthO p.2 σ.ob = some (.cells c ty))
    (h : OpR P GL n0 (Pn.dr l) T o σ fun σ' => AnyR P GL n0 Pn l fuel listed' L2 Q σ') : AnyR P GL n0 Pn l (fuel + 1) listed L Q σ :=
  any_many hrs rfl ⟨any_o_of i ho hw hl hf hL h, trivial⟩
theorem any_o {l : List Oper} {fuel : Nat} {listed listed' : Array Bool} {L L2 : List (Nat × Nat)} {Q : Ex → St → Prop} {σ : St} {T : Nat → Prop} (i : Nat) {o : Oper} (ho : l[i]? = some o) (hg : o.guard = none) (hl : listed.setIfInBounds i true = listed')
    (hf : filtO l i L = some L2) (hL : ∀ p ∈ L2, ¬ T p.2 ∧ ∃ c ty, nthO p.2 σ.ob = some (.cells c ty))
    (h : OpR P GL n0 (Pn.dr l) T o σ fun σ' => AnyR P GL n0 Pn l fuel listed' L2 Q σ') : AnyO P GL n0 Pn l fuel listed L Q σ i :=
  any_o_of i ho (fun B g a w hr => by simp [Region.wanted, hg]) hl hf hL h
theorem A4 {l : List Oper} {fuel : Nat} {listed listed' : Array Bool} {L L2 : List (Nat × Nat)} {Q : Ex → St → Prop} {σ : St} {T : Nat → Prop} {o : Oper} (i : Nat) (ho : l[i]? = some o) (h : OpR P GL n0 (Pn.dr l) T o σ fun σ' => AnyR P GL n0 Pn l fuel listed' L2 Q σ') (hg : o.guard = none := by exact rfl) (hl : listed.setIfInBounds i true = listed' := by exact rfl) (hf : filtO l i L = some L2 := by exact rfl) (hL : ∀ p ∈ L2, ¬ T p.2 ∧ ∃ c ty, nthO p.2 σ.ob = some (.cells c ty) := by first | exact held0 rfl | exact held1 rfl | exact heldx rfl) : AnyO P GL n0 Pn l fuel listed L Q σ i := any_o i ho hg hl hf hL h
theorem any_o_yes {l : List Oper} {fuel : Nat} {listed listed' : Array Bool} {L L2 : List (Nat × Nat)} {Q : Ex → St → Prop} {n : Nat} {sl : List (Nat × SV)} {ob : List Ob} {T : Nat → Prop} (i : Nat) {o : Oper} {j d : Nat} {want : Bool} (ho : l[i]? = some o) (hg : o.guard = some (j, want)) (hj : dstOf l j = some d) (hlit : slo d sl = some (.d (.v (.bool want)))) (hl : listed.setIfInBounds i true = listed')
    (hf : filtO l i L = some L2) (hL : ∀ p ∈ L2, ¬ T p.2 ∧ ∃ c ty, nthO p.2 ob = some (.cells c ty))
    (h : OpR P GL n0 (Pn.dr l) T o ⟨n, sl, ob⟩ fun σ' => AnyR P GL n0 Pn l fuel listed' L2 Q σ') : AnyO P GL n0 Pn l fuel listed L Q ⟨n, sl, ob⟩ i :=
  any_o_of i ho (fun B g a w hr => by rw [wanted_lit hr hg hj hlit]; simp) hl hf hL h
theorem A5 {l : List Oper} {fuel : Nat} {listed listed' : Array Bool} {L L2 : List (Nat × Nat)} {Q : Ex → St → Prop} {n : Nat} {sl : List (Nat × SV)} {ob : List Ob} {T : Nat → Prop} {o : Oper} {j d : Nat} {want : Bool} (i : Nat) (ho : l[i]? = some o) (h : OpR P GL n0 (Pn.dr l) T o ⟨n, sl, ob⟩ fun σ' => AnyR P GL n0 Pn l fuel listed' L2 Q σ') (hg : o.guard = some (j, want) := by exact rfl) (hj : dstOf l j = some d := by exact rfl) (hlit : slo d sl = some (.d (.v (.bool want))) := by exact rfl) (hl : listed.setIfInBounds i true = listed' := by exact rfl) (hf : filtO l i L = some L2 := by exact rfl) (hL : ∀ p ∈ L2, ¬ T p.2 ∧ ∃ c ty, nthO p.2 ob = some (.cells c ty) := by first | exact held0 rfl | exact held1 rfl | exact heldx rfl) : AnyO P GL n0 Pn l fuel listed L Q ⟨n, sl, ob⟩ i := any_o_yes i ho hg hj hlit hl hf hL h
theorem any_st {l : List Oper} {fuel : Nat} {listed listed' : Array Bool} {L L2 : List (Nat × Nat)} {Q : Ex → St → Prop} {σ : St} {T : Nat → Prop} (i : Nat) {o : Oper} (ho : l[i]? = some o) (hg : o.guard = none) (hrs : Region.ready .any l.toArray listed = [i]) (hl : listed.setIfInBounds i true = listed')
    (hf : filtO l i L = some L2) (hL : ∀ p ∈ L2, ¬ T p.2 ∧ ∃ c ty, nthO p.2 σ.ob = some (.cells c ty))
    (h : OpR P GL n0 (Pn.dr l) T o σ fun σ' => AnyR P GL n0 Pn l fuel listed' L2 Q σ') : AnyR P GL n0 Pn l (fuel + 1) listed L Q σ :=
  any_st_of i ho (fun B g a w hr => by simp [Region.wanted, hg]) hrs hl hf hL h
theorem A2 {l : List Oper} {fuel : Nat} {listed listed' : Array Bool} {L L2 : List (Nat × Nat)} {Q : Ex → St → Prop} {σ : St} {T : Nat → Prop} {o : Oper} (i : Nat) (ho : l[i]? = some o) (h : OpR P GL n0 (Pn.dr l) T o σ fun σ' => AnyR P GL n0 Pn l fuel listed' L2 Q σ') (hg : o.guard = none := by exact rfl) (hrs : Region.ready .any l.toArray listed = [i] := by kernel_rfl) (hl : listed.setIfInBounds i true = listed' := by exact rfl) (hf : filtO l i L = some L2 := by exact rfl) (hL : ∀ p ∈ L2, ¬ T p.2 ∧ ∃ c ty, nthO p.2 σ.ob = some (.cells c ty) := by first | exact held0 rfl | exact held1 rfl | exact heldx rfl) : AnyR P GL n0 Pn l (fuel + 1) listed L Q σ := any_st i ho hg hrs hl hf hL h
theorem any_st_yes {l : List Oper} {fuel : Nat} {listed listed' : Array Bool} {L L2 : List (Nat × Nat)} {Q : Ex → St → Prop} {n : Nat} {sl : List (Nat × SV)} {ob : List Ob} {T : Nat → Prop} (i : Nat) {o : Oper} {j d : Nat} {want : Bool} (ho : l[i]? = some o) (hg : o.guard = some (j, want)) (hj : dstOf l j = some d) (hlit : slo d sl = some (.d (.v (.bool want)))) (hrs : Region.ready .any l.toArray listed = [i]) (hl : listed.setIfInBounds i true = listed')
    (hf : filtO l i L = some L2) (hL : ∀ p ∈ L2, ¬ T p.2 ∧ ∃ c ty, nthO p.2 ob = some (.cells c ty))
    (h : OpR P GL n0 (Pn.dr l) T o ⟨n, sl, ob⟩ fun σ' => AnyR P GL n0 Pn l fuel listed' L2 Q σ') : AnyR P GL n0 Pn l (fuel + 1) listed L Q ⟨n, sl, ob⟩ :=
  any_st_of i ho (fun B g a w hr => by rw [wanted_lit hr hg hj hlit]; simp) hrs hl hf hL h
theorem A3 {l : List Oper} {fuel : Nat} {listed listed' : Array Bool} {L L2 : List (Nat × Nat)} {Q : Ex → St → Prop} {n : Nat} {sl : List (Nat × SV)} {ob : List Ob} {T : Nat → Prop} {o : Oper} {j d : Nat} {want : Bool} (i : Nat) (ho : l[i]? = some o) (h : OpR P GL n0 (Pn.dr l) T o ⟨n, sl, ob⟩ fun σ' => AnyR P GL n0 Pn l fuel listed' L2 Q σ') (hg : o.guard = some (j, want) := by exact rfl) (hj : dstOf l j = some d := by exact rfl) (hlit : slo d sl = some (.d (.v (.bool want))) := by exact rfl) (hrs : Region.ready .any l.toArray listed = [i] := by kernel_rfl) (hl : listed.setIfInBounds i true = listed' := by exact rfl) (hf : filtO l i L = some L2 := by exact rfl) (hL : ∀ p ∈ L2, ¬ T p.2 ∧ ∃ c ty, nthO p.2 ob = some (.cells c ty) := by first | exact held0 rfl | exact held1 rfl | exact heldx rfl) : AnyR P GL n0 Pn l (fuel + 1) listed L Q ⟨n, sl, ob⟩ := any_st_yes i ho hg hj hlit hrs hl hf hL h
theorem any_end {l : List Oper} {fuel : Nat} {listed : Array Bool} {L : List (Nat × Nat)} {Q : Ex → St → Prop} {σ : St} (hrs : Region.ready .any l.toArray listed = []) (h : Q .normal σ) : AnyR P GL n0 Pn l fuel listed L Q σ := fun B hB g a w Hc hr hc hh => by
  cases fuel with
  | zero => exact ⟨hrs, σ, ⟨g, hr⟩, h⟩
  | succ n => exact ⟨fun _ => ⟨σ, ⟨g, hr⟩, h⟩, fun i hi => by rw [hrs] at hi; cases hi⟩
theorem a_end {l : List Oper} {fuel : Nat} {listed : Array Bool} {L : List (Nat × Nat)} {Q : Ex → St → Prop} {σ : St} (h : Q .normal σ) (hrs : Region.ready .any l.toArray listed = [] := by kernel_rfl) : AnyR P GL n0 Pn l fuel listed L Q σ := any_end hrs h
end
end Go.Vd
namespace Go.Vd
open Go Go.RowKit
section
variable {P : Program} {GL : Nat → List D} {n0 : Nat} {Pn : PnS}
theorem ops_gyes {ops rest : List Oper} {o : Oper} {Q : Ex → St → Prop} {n : Nat} {sl : List (Nat × SV)} {ob : List Ob} {j d : Nat} {want b : Bool} (hg : o.guard = some (j, want)) (hd : dstOf ops j = some d) (hb : slo d sl = some (.d (.v (.bool b)))) (hbw : b = want)
    (h : OpsR P GL n0 Pn ops ({ o with guard := none } :: rest) Q ⟨n, sl, ob⟩) : OpsR P GL n0 Pn ops (o :: rest) Q ⟨n, sl, ob⟩ := by
  subst hbw; exact ops_guard_yes hg hd hb h
theorem gye {ops rest : List Oper} {o : Oper} {Q : Ex → St → Prop} {n : Nat} {sl : List (Nat × SV)} {ob : List Ob} {j d : Nat} {want b : Bool} (h : OpsR P GL n0 Pn ops ({ o with guard := none } :: rest) Q ⟨n, sl, ob⟩) (hg : o.guard = some (j, want) := by exact rfl) (hd : dstOf ops j = some d := by exact rfl) (hb : slo d sl = some (.d (.v (.bool b))) := by exact rfl) (hbw : b = want := by omega) : OpsR P GL n0 Pn ops (o :: rest) Q ⟨n, sl, ob⟩ := ops_gyes hg hd hb hbw h
theorem ops_gno {ops rest : List Oper} {o : Oper} {Q : Ex → St → Prop} {n : Nat} {sl : List (Nat × SV)} {ob : List Ob} {j d t : Nat} {want b : Bool} (hg : o.guard = some (j, want)) (hd : dstOf ops j = some d) (hb : slo d sl = some (.d (.v (.bool b)))) (hbw : b = !want) (hdst : o.dst = some t) (ht : Nat.blt t n = true)
    (h : OpsR P GL n0 Pn ops rest Q ⟨n, (t, .d (.v undef)) :: sl, ob⟩) : OpsR P GL n0 Pn ops (o :: rest) Q ⟨n, sl, ob⟩ := by
  subst hbw; exact ops_guard_no hg hd hb hdst ht h
theorem gno {ops rest : List Oper} {o : Oper} {Q : Ex → St → Prop} {n : Nat} {sl : List (Nat × SV)} {ob : List Ob} {j d t : Nat} {want b : Bool} (h : OpsR P GL n0 Pn ops rest Q ⟨n, (t, .d (.v undef)) :: sl, ob⟩) (hg : o.guard = some (j, want) := by exact rfl) (hd : dstOf ops j = some d := by exact rfl) (hdst : o.dst = some t := by exact rfl) (hb : slo d sl = some (.d (.v (.bool b))) := by exact rfl) (ht : Nat.blt t n = true := by exact rfl) (hbw : b = !want := by omega) : OpsR P GL n0 Pn ops (o :: rest) Q ⟨n, sl, ob⟩ := ops_gno hg hd hb hbw hdst ht h
theorem ops_set {ops l : List Oper} {Q : Ex → St → Prop} {n : Nat} {sl : List (Nat × SV)} {ob : List Ob} (d : Nat) (v : Bool) {b : Bool} (hb : slo d sl = some (.d (.v (.bool b)))) (hv : b = v)
    (h : OpsR P GL n0 Pn ops l Q ⟨n, (d, .d (.v (.bool v))) :: sl, ob⟩) : OpsR P GL n0 Pn ops l Q ⟨n, sl, ob⟩ := by
  subst hv
  cases b with
  | true => exact ops_split d hb (fun _ => h) (fun e => by cases e)
  | false => exact ops_split d hb (fun e => by cases e) (fun _ => h)
inductive GOk (ops : List Oper) (sl : List (Nat × SV)) (o : Oper) : Prop
  | none (h : o.guard = none)
  | yes {j d : Nat} {want b : Bool} (hg : o.guard = some (j, want)) (hd : dstOf ops j = some d) (hb : slo d sl = some (.d (.v (.bool b)))) (hbw : b = want)
def hasK (t : Nat) : List (Nat × SV) → Bool
  | [] => false
  | (k, _) :: r => cond (Nat.beq k t) true (hasK t r)
def disjB : List (Nat × SV) → List (Nat × SV) → Bool
  | [], _ => true
  | (k, _) :: r, sl => cond (hasK k sl) false (disjB r sl)
theorem hasK_slo {t : Nat} : ∀ {sl : List (Nat × SV)}, hasK t sl = false → slo t sl = none
  | [], _ => rfl
  | (k, s) :: r, h => by
    simp only [hasK] at h
    show cond (Nat.beq k t) (some s) (slo t r) = none
    cases hb : Nat.beq k t <;> rw [hb] at h
    · exact hasK_slo h
    · cases h
theorem slo_disj {t : Nat} {s : SV} : ∀ {nw sl : List (Nat × SV)}, disjB nw sl = true → slo t sl = some s → slo t (nw ++ sl) = some s
  | [], sl, _, h => h
  | (k, x) :: r, sl, hd, h => by
    simp only [disjB] at hd
    cases hk : hasK k sl <;> rw [hk] at hd
    · show cond (Nat.beq k t) (some x) (slo t (r ++ sl)) = some s
      cases hb : Nat.beq k t
      · exact slo_disj hd h
      · have e : k = t := by simpa using hb
        subst e
        rw [hasK_slo hk] at h; cases h
    · cases hd
theorem slk_slo {t : Nat} : ∀ {sl : List (Nat × SV)}, slk t sl = (slo t sl).getD .junk
  | [] => rfl
  | (k, x) :: r => by
    show cond (Nat.beq k t) x (slk t r) = (cond (Nat.beq k t) (some x) (slo t r)).getD .junk
    cases Nat.beq k t
    · exact slk_slo
    · rfl
theorem slo_app {t : Nat} {s : SV} : ∀ {nw sl : List (Nat × SV)}, slo t nw = some s → slo t (nw ++ sl) = some s
  | [], sl, h => by cases h
  | (k, x) :: r, sl, h => by
    change cond (Nat.beq k t) (some x) (slo t r) = some s at h
    show cond (Nat.beq k t) (some x) (slo t (r ++ sl)) = some s
    cases hb : Nat.beq k t <;> rw [hb] at h
    · exact slo_app h
    · exact h
theorem opsR_less {ops l : List Oper} {Q : Ex → St → Prop} {n t : Nat} {s : SV} {nw sl : List (Nat × SV)} {ob : List Ob} (hd : disjB nw sl = true) (h : OpsR P GL n0 Pn ops l Q ⟨n, (t, s) :: sl, ob⟩) : OpsR P GL n0 Pn ops l Q ⟨n, (t, s) :: (nw ++ sl), ob⟩ := fun B hB a w ⟨g, hr⟩ =>
  h B hB a w ⟨g, hr.defers, hr.size, fun u => by
    have h1 := hr.slots u
    show (slk u ((t, s) :: sl)).Den g _
    rw [slk_cons] at h1 ⊢
    split
    · rename_i e; rw [if_pos e] at h1; exact h1
    · rename_i e
      rw [if_neg e] at h1
      rw [slk_slo] at h1 ⊢
      cases hs : slo u sl with
      | none => trivial
      | some x => rw [slo_disj hd hs] at h1; exact h1, hr.store, hr.stp⟩
theorem gok_run {ops rest : List Oper} {o : Oper} {Q : Ex → St → Prop} {n : Nat} {nw sl : List (Nat × SV)} {ob : List Ob} (hg : GOk ops sl o) (hd : disjB nw sl = true) (h : OpsR P GL n0 Pn ops ({ o with guard := none } :: rest) Q ⟨n, nw ++ sl, ob⟩) : OpsR P GL n0 Pn ops (o :: rest) Q ⟨n, nw ++ sl, ob⟩ := by
  cases hg with
  | none h1 =>
    have : ({ o with guard := none } : Oper) = o := by cases o; simp only at h1; subst h1; rfl
    rwa [this] at h
  | yes h1 h2 h3 h4 => exact ops_gyes h1 h2 (slo_disj hd h3) h4 h
/-- x && y -/
theorem ops_and {ops l rest : List Oper} {o : Oper} {Q : Ex → St → Prop} {n t d : Nat} {yt : Nat} {sl : List (Nat × SV)} {ob : List Ob} {b p : Bool} (k : Nat) (hl : dropO k l = some (o :: rest)) (hb : slo d sl = some (.d (.v (.bool b)))) (ho : o.op = .pick (.tmp d) (.tmp yt) (.const (.bool false))) (hg : GOk ops sl o) (hd : o.dst = some t) (ht : Nat.blt t n = true)
    (h1 : b = true → (∀ nw, disjB nw sl = true → slo yt nw = some (.d (.v (.bool p))) → OpsR P GL n0 Pn ops (o :: rest) Q ⟨n, nw ++ sl, ob⟩) → OpsR P GL n0 Pn ops l Q ⟨n, sl, ob⟩)
    (h2 : b = false → (∀ nw, disjB nw sl = true → OpsR P GL n0 Pn ops (o :: rest) Q ⟨n, nw ++ sl, ob⟩) → OpsR P GL n0 Pn ops l Q ⟨n, sl, ob⟩)
    (h : OpsR P GL n0 Pn ops rest Q ⟨n, (t, .d (.v (.bool (b && p)))) :: sl, ob⟩) : OpsR P GL n0 Pn ops l Q ⟨n, sl, ob⟩ := by
  cases hbb : b with
  | true =>
    subst hbb
    refine h1 rfl fun nw hdj hy => gok_run hg hdj (ops_fl rfl hd ht (fl_pick_t ho (slo_disj hdj hb) (slo_app hy) ?_))
    exact opsR_less hdj (by simpa using h)
  | false =>
    subst hbb
    refine h2 rfl fun nw hdj => gok_run hg hdj (ops_fl rfl hd ht (fl_pick_f ho (slo_disj hdj hb) rfl ?_))
    exact opsR_less hdj (by simpa using h)
/-- x || y -/
theorem ops_or {ops l rest : List Oper} {o : Oper} {Q : Ex → St → Prop} {n t d : Nat} {yt : Nat} {sl : List (Nat × SV)} {ob : List Ob} {b p : Bool} (k : Nat) (hl : dropO k l = some (o :: rest)) (hb : slo d sl = some (.d (.v (.bool b)))) (ho : o.op = .pick (.tmp d) (.const (.bool true)) (.tmp yt)) (hg : GOk ops sl o) (hd : o.dst = some t) (ht : Nat.blt t n = true)
    (h1 : b = false → (∀ nw, disjB nw sl = true → slo yt nw = some (.d (.v (.bool p))) → OpsR P GL n0 Pn ops (o :: rest) Q ⟨n, nw ++ sl, ob⟩) → OpsR P GL n0 Pn ops l Q ⟨n, sl, ob⟩)
    (h2 : b = true → (∀ nw, disjB nw sl = true → OpsR P GL n0 Pn ops (o :: rest) Q ⟨n, nw ++ sl, ob⟩) → OpsR P GL n0 Pn ops l Q ⟨n, sl, ob⟩)
    (h : OpsR P GL n0 Pn ops rest Q ⟨n, (t, .d (.v (.bool (b || p)))) :: sl, ob⟩) : OpsR P GL n0 Pn ops l Q ⟨n, sl, ob⟩ := by
  cases hbb : b with
  | false =>
    subst hbb
    refine h1 rfl fun nw hdj hy => gok_run hg hdj (ops_fl rfl hd ht (fl_pick_f ho (slo_disj hdj hb) (slo_app hy) ?_))
    exact opsR_less hdj (by simpa using h)
  | true =>
    subst hbb
    refine h2 rfl fun nw hdj => gok_run hg hdj (ops_fl rfl hd ht (fl_pick_t ho (slo_disj hdj hb) rfl ?_))
    exact opsR_less hdj (by simpa using h)
/-! contracts of data alone -/
def PostD (Q : D → Prop) (out : Out) (ob' : List Ob) : Prop := ob' = [] ∧ ∃ d, out = .ret (.d d) ∧ Q d
def TriD (P : Program) (GL : Nat → List D) (f : FuncId) (args : List D) (Q : D → Prop) : Prop := Tri P GL f [] (args.map .d) (PostD Q)
theorem op_call {o : Oper} {n t : Nat} {sl : List (Nat × SV)} {ob : List Ob} {K : St → Prop} {T : Nat → Prop} {f : FuncId} {args : Array Operand} {ts : Array TypeId} {argsc : List D} {svs : List SV} {Q : D → Prop} (hc : callable P f = true) (ho : o.op = .call { callee := .value (.func f), args := args, argTypes := ts })
    (ha : evL GL sl args.toList = some svs) (hdst : o.dst = some t) (htn : Nat.blt t n = true) (ht : TriD P GL f argsc Q) (hfa : FitL ob svs (argsc.map .d)) (hret : ∀ d, Q d → K ⟨n, (t, .d d) :: sl, ob⟩) : OpR P GL n0 Pn T o ⟨n, sl, ob⟩ K :=
  op_call_d (run_call_f hc ho ha) hfa ht fun d hq => ⟨fun t' e => by rw [hdst] at e; cases e; exact ⟨htn, hret d hq⟩, fun e => by rw [hdst] at e; cases e⟩
theorem TriD.eq {f : FuncId} {args : List D} {d : D} (h : TriD P GL f args (· = d)) : TriD P GL f args (· = d) := h
/-- a call by a contract of objects too -/
theorem op_callo {o : Oper} {n t : Nat} {sl : List (Nat × SV)} {ob : List Ob} {K : St → Prop} {f : FuncId} {args : Array Operand} {ts : Array TypeId} {obc : List Ob} {argsc svs m : List SV} {Q : Out → List Ob → Prop} (hc : callable P f = true) (ho : o.op = .call { callee := .value (.func f), args := args, argTypes := ts })
    (ha : evL GL sl args.toList = some svs) (hdst : o.dst = some t) (htn : Nat.blt t n = true) (ht : Tri P GL f obc argsc Q) (ix : List Nat) (hfit : ObFits ob ix obc ix) (hnd : nodupB ix = true) (hno : noIt obc = true) (hit : noItOns ix ob = true) (hra : renL ix argsc = some m) (hfa : FitL ob svs m)
    (hret : ∀ s ob', Q (.ret s) ob' → ∃ obr ob1 obn sl1 s', renOb (names ix ob.length (ob'.length - ix.length)) ob' = some obr ∧ kObL ix ob = some ob1 ∧ mergeO ix ob1 obr = some obn ∧ kSlL ix sl = some sl1 ∧ s.ren (names ix ob.length (ob'.length - ix.length)) = some s' ∧ K ⟨n, (t, s') :: sl1, obn⟩)
    (hpan : ∀ s ob', Q (.pan s) ob' → ∃ obr ob1 obn sl1 s', renOb (names ix ob.length (ob'.length - ix.length)) ob' = some obr ∧ kObL ix ob = some ob1 ∧ mergeO ix ob1 obr = some obn ∧ kSlL ix sl = some sl1 ∧ s.ren (names ix ob.length (ob'.length - ix.length)) = some s' ∧ Pn.pn s' sl1 obn) : OpR P GL n0 Pn (· ∈ ix) o ⟨n, sl, ob⟩ K :=
  op_call_of ht ix (run_call_f hc ho ha) hfit hnd hno (noItOns_get hit) hra hfa (fun s ob' hq => by
    obtain ⟨obr, ob1, obn, sl1, s', e1, e2, e3, e4, e5, e6⟩ := hret s ob' hq
    exact ⟨obr, ob1, obn, sl1, s', e1, e2, e3, e4, e5, fun t' e => by rw [hdst] at e; cases e; exact ⟨htn, e6⟩, fun e => by rw [hdst] at e; cases e⟩) hpan
theorem fin_o {rs : List ResultVar} {Q : Out → List Ob → Prop} {σ : St} {l : List SV} (h : fromRess GL P σ rs l) (ρ : List Nat) (s' : SV) (ob' : List Ob) {t : SV} (hp : pre 0 n0 ρ = true) (hnd : nodupB ρ = true) (hno : noIt ob' = true) (hob : ObFits σ.ob ρ ob' ρ) (hren : SV.ren ρ s' = some t) (hf : Fit σ.ob (retSV l) t) (hq : Q (.ret s') ob') : Fin P GL n0 rs Q σ :=
  ⟨l, h, ρ, s', ob', t, hp, hnd, hno, hob, hren, hf, hq⟩
theorem fin_od {rs : List ResultVar} {Q : Out → List Ob → Prop} {σ : St} {l : List SV} {d : D} (h : fromRess GL P σ rs l) (hd : (retSV l).toD = some d) (ρ : List Nat) (ob' : List Ob) (hp : pre 0 n0 ρ = true) (hnd : nodupB ρ = true) (hno : noIt ob' = true) (hob : ObFits σ.ob ρ ob' ρ) (hq : Q (.ret (.d d)) ob') : Fin P GL n0 rs Q σ :=
  ⟨l, h, ρ, .d d, ob', .d d, hp, hnd, hno, hob, rfl, .toD hd, hq⟩
theorem fin_odl {rs : List ResultVar} {Q : Out → List Ob → Prop} {σ : St} {l : List SV} {d : D} (h : fromRess GL P σ rs l) (hd : (retSV l).toD = some d) (d' : D) (hl : DLe d d') (ρ : List Nat) (ob' : List Ob) (hp : pre 0 n0 ρ = true) (hnd : nodupB ρ = true) (hno : noIt ob' = true) (hob : ObFits σ.ob ρ ob' ρ) (hq : Q (.ret (.d d')) ob') : Fin P GL n0 rs Q σ :=
  ⟨l, h, ρ, .d d', ob', .d d', hp, hnd, hno, hob, rfl, .dle hd hl, hq⟩
/-- a nil row of one's own is had at any time -/
theorem runs_nilrow {c : Code} {Q : Ex → St → Prop} {n : Nat} {sl : List (Nat × SV)} {ob ob' : List Ob} (e : TypeId) (k : Nat) (hob : appO ob [.nilrow e k] = some ob') (h : Runs P GL n0 Pn c Q ⟨n, sl, ob'⟩) : Runs P GL n0 Pn c Q ⟨n, sl, ob⟩ := fun B hB a w ⟨g, hr⟩ => by
  rw [appO_eq hob] at h
  obtain ⟨h1, _⟩ := hr.new1 (w' := w) (Fr.refl _ w) (Mle.refl _) (fun b o x h1 h2 => by rw [h2] at h1; cases h1) (o' := .nilrow e k) (pl := .row none 0 0) rfl (fun b hb => by simp [blkOf] at hb) (fun i f dn cur e => by cases e)
  exact h B hB a w ⟨_, h1⟩
def slotsO : Nat → List SV → Option (List (Nat × SV))
  | _, [] => some []
  | k, s :: r => (slotsO (k + 1) r).bind fun l => some ((k, s) :: l)
theorem slotsO_eq : ∀ {k : Nat} {l : List SV} {r : List (Nat × SV)}, slotsO k l = some r → slots k l = r
  | k, [], r, h => by simp [slotsO] at h; subst h; rfl
  | k, s :: l, r, h => by
    simp only [slotsO, Option.bind_eq_some_iff, Option.some.injEq] at h
    obtain ⟨r', h1, rfl⟩ := h
    simp [slots, slotsO_eq h1]
theorem triS_of_runs {f : FuncId} {fn : Func} {c : Code} {ob : List Ob} {args : List SV} {Q : Out → List Ob → Prop} (hf : P.funcs[f]? = some fn) (hb : fn.body = some c) {n : Nat} (hnt : fn.ntmps = n) {rs : List ResultVar} (hrs : fn.results.toList = rs) {sl : List (Nat × SV)}
    (hn : Nat.ble args.length n = true) (hsl : slotsO 0 args = some sl) (k : Nat) (hk : ob.length = k) (h : Runs P GL k (pnL k Q) c (fin P GL k rs Q) ⟨n, sl, ob⟩) : Tri P GL f ob args Q := by
  subst hk
  exact tri_of_runs hf hb hnt hrs (by simpa using hn) (by rw [slotsO_eq hsl]; exact h)
theorem triD_of_runs {f : FuncId} {fn : Func} {c : Code} {args : List D} {Q : D → Prop} (hf : P.funcs[f]? = some fn) (hb : fn.body = some c) {n : Nat} (hnt : fn.ntmps = n) {rs : List ResultVar} (hrs : fn.results.toList = rs) {sl : List (Nat × SV)}
    (hn : Nat.ble args.length n = true) (hsl : slotsO 0 (args.map .d) = some sl) (h : Runs P GL 0 ⟨fun _ _ _ => False, fun _ _ _ _ => False⟩ c (fin P GL 0 rs (PostD Q)) ⟨n, sl, []⟩) : TriD P GL f args Q := by
  refine tri_of_runs hf hb hnt hrs (by simpa using hn) ?_
  rw [slotsO_eq hsl]
  refine fun B hB a w hr => wp_mono (h B hB a w hr) fun e a w hl => ?_
  cases e with
  | panic c =>
    rcases hl with hl | ⟨_, _, _, _, _, _, _, _, _, _, _, hf⟩
    · exact hl.elim
    · exact hf.elim
  | normal => exact hl
  | exit id => exact hl
  | goto l => exact hl
  | ret => exact hl
  | outgrown => exact hl.elim
theorem fin_d {rs : List ResultVar} {Q : D → Prop} {σ : St} {l : List SV} {d : D} (h : fromRess GL P σ rs l) (hd : (retSV l).toD = some d) (hq : Q d) : Fin P GL 0 rs (PostD Q) σ :=
  ⟨l, h, [], .d d, [], .d d, rfl, rfl, rfl, .nil, rfl, .toD hd, rfl, d, rfl, hq⟩
theorem fin_d1 {t : Nat} {Q : D → Prop} {σ : St} {s : SV} {d : D} (h : slo t σ.sl = some s) (hd : s.toD = some d) (hq : Q d) : Fin P GL 0 [.tmp t] (PostD Q) σ :=
  fin_d (l := [s]) ⟨s, [], rfl, h, rfl⟩ hd hq
theorem fin_dl {rs : List ResultVar} {Q : D → Prop} {σ : St} {l : List SV} {d : D} (h : fromRess GL P σ rs l) (hd : (retSV l).toD = some d) (d' : D) (hl : DLe d d') (hq : Q d') : Fin P GL 0 rs (PostD Q) σ :=
  ⟨l, h, [], .d d', [], .d d', rfl, rfl, rfl, .nil, rfl, .dle hd hl, rfl, d', rfl, hq⟩
theorem from_cell {σ : St} {x T : Nat} {i off : Nat} {l l1 cs : List SV} {ty : TypeId} {ti : TI} {s : SV} (h1 : slo x σ.sl = some (.blk i off)) (h2 : nthO i σ.ob = some (.cells l ty)) (h3 : tiOf P T = ti) (h4 : ti.ok = true) (h5 : dropO off l = some l1) (h6 : takeO ti.size l1 = some cs) (h7 : fromO ti.agg cs = some s) : fromRes GL P σ (.cell x T) s :=
  ⟨i, off, l, ty, l1, cs, ti, h1, h2, h3, h4, h5, h6, h7⟩
theorem FitL.rfl {ob : List Ob} : ∀ l : List SV, FitL ob l l
  | [] => .nil
  | s :: r => .cons (.refl s) (FitL.rfl r)
theorem Fit.of_eq {ob : List Ob} {s t : SV} (h : s = t) : Fit ob s t := h ▸ .refl s
def idl : Nat → Nat → List Nat
  | _, 0 => []
  | k, n + 1 => k :: idl (k + 1) n
/-- the state at a loop's head: what turns, and what stays -/
theorem runs_loop_c {c : Code} {Q : Ex → St → Prop} {n : Nat} {sl csl : List (Nat × SV)} {ob : List Ob} {ι : Type} (ov : ι → List (Nat × SV)) (cs : List Nat) (Inv : ι → Prop) (m : ι → Nat) (i0 : ι) (hk : keepO sl cs = some csl) (hI : Inv i0)
    (hm : Meets n0 ⟨n, sl, ob⟩ ⟨n, ov i0 ++ csl, ob⟩ (idl 0 ob.length))
    (h : ∀ i, Inv i → Runs P GL n0 Pn c (Ex.seq (fun σ' => Back n0 (fun i => ⟨n, ov i ++ csl, ob⟩) (fun j => Inv j ∧ m j < m i) σ') Q) ⟨n, ov i ++ csl, ob⟩) : Runs P GL n0 Pn (.loop c) Q ⟨n, sl, ob⟩ :=
  runs_loop (fun i => ⟨n, ov i ++ csl, ob⟩) Inv m ⟨i0, _, hI, hm⟩ h
/-- the same, the objects turning too -/
theorem runs_loop_o {c : Code} {Q : Ex → St → Prop} {n : Nat} {sl csl : List (Nat × SV)} {ob : List Ob} {ι : Type} (ov : ι → List (Nat × SV)) (obi : ι → List Ob) (cs : List Nat) (Inv : ι → Prop) (m : ι → Nat) (i0 : ι) (ρ : List Nat) (hk : keepO sl cs = some csl) (hI : Inv i0)
    (hm : Meets n0 ⟨n, sl, ob⟩ ⟨n, ov i0 ++ csl, obi i0⟩ ρ)
    (h : ∀ i, Inv i → Runs P GL n0 Pn c (Ex.seq (fun σ' => Back n0 (fun i => ⟨n, ov i ++ csl, obi i⟩) (fun j => Inv j ∧ m j < m i) σ') Q) ⟨n, ov i ++ csl, obi i⟩) : Runs P GL n0 Pn (.loop c) Q ⟨n, sl, ob⟩ :=
  runs_loop (fun i => ⟨n, ov i ++ csl, obi i⟩) Inv m ⟨i0, _, hI, hm⟩ h
theorem meets_of {n : Nat} {sl sl' : List (Nat × SV)} {ob ob' : List Ob} {ρ : List Nat} (hp : pre 0 n0 ρ = true) (hnd : nodupB ρ = true) (hno : noIt ob' = true) (hob : ObFits ob ρ ob' ρ) (hsl : SlFit ob ρ sl sl') : Meets n0 ⟨n, sl, ob⟩ ⟨n, sl', ob'⟩ ρ :=
  ⟨rfl, hp, hnd, fun j k f dn cur hj => absurd hj (noIt_get hno j k f dn cur), hob, hsl⟩
theorem back_i {ι : Type} {n : Nat} {S : ι → St} {sl sl' : List (Nat × SV)} {ob ob' : List Ob} {I : ι → Prop} (i : ι) (hS : S i = ⟨n, sl', ob'⟩) (hI : I i) (hm : Meets n0 ⟨n, sl, ob⟩ ⟨n, sl', ob'⟩ (idl 0 ob'.length)) : Back n0 S I ⟨n, sl, ob⟩ :=
  ⟨i, _, hI, hS ▸ hm⟩
/-- the ways through a test meet again -/
theorem runs_cutK {c1 c2 : Code} {Q : Ex → St → Prop} {σ : St} {ι : Type} (S : ι → St) (Inv : ι → Prop) (h1 : Runs P GL n0 Pn c1 (Ex.seq (fun σ' => Back n0 S Inv σ') Q) σ) (h2 : ∀ i, Inv i → Runs P GL n0 Pn c2 Q (S i)) : Runs P GL n0 Pn c1 (Ex.seq (fun σ' => Runs P GL n0 Pn c2 Q σ') Q) σ :=
  fun B hB a w hr => wp_mono (h1 B hB a w hr) fun e a' w' hl => by
    cases e with
    | normal =>
      obtain ⟨σ', hr', j, ρ, hj, hj2⟩ := hl
      exact ⟨_, hj2.rel hB hr', h2 j hj⟩
    | exit id => exact hl
    | goto l => exact hl
    | ret => exact hl
    | panic c => exact hl
    | outgrown => exact hl
theorem runs_cut_c {c1 c2 : Code} {Q : Ex → St → Prop} {n : Nat} {sl csl : List (Nat × SV)} {ob : List Ob} {ι : Type} (ov : ι → List (Nat × SV)) (cs : List Nat) (Inv : ι → Prop) (hk : keepO sl cs = some csl)
    (h1 : Runs P GL n0 Pn c1 (Ex.seq (fun σ' => Back n0 (fun i => ⟨n, ov i ++ csl, ob⟩) Inv σ') Q) ⟨n, sl, ob⟩) (h2 : ∀ i, Inv i → Runs P GL n0 Pn c2 Q ⟨n, ov i ++ csl, ob⟩) : Runs P GL n0 Pn c1 (Ex.seq (fun σ' => Runs P GL n0 Pn c2 Q σ') Q) ⟨n, sl, ob⟩ :=
  runs_cutK (fun i => ⟨n, ov i ++ csl, ob⟩) Inv h1 h2
theorem runs_cut_o {c1 c2 : Code} {Q : Ex → St → Prop} {n : Nat} {sl csl : List (Nat × SV)} {ob : List Ob} {ι : Type} (ov : ι → List (Nat × SV)) (obi : ι → List Ob) (cs : List Nat) (Inv : ι → Prop) (hk : keepO sl cs = some csl)
    (h1 : Runs P GL n0 Pn c1 (Ex.seq (fun σ' => Back n0 (fun i => ⟨n, ov i ++ csl, obi i⟩) Inv σ') Q) ⟨n, sl, ob⟩) (h2 : ∀ i, Inv i → Runs P GL n0 Pn c2 Q ⟨n, ov i ++ csl, obi i⟩) : Runs P GL n0 Pn c1 (Ex.seq (fun σ' => Runs P GL n0 Pn c2 Q σ') Q) ⟨n, sl, ob⟩ :=
  runs_cutK (fun i => ⟨n, ov i ++ csl, obi i⟩) Inv h1 h2
theorem back_c {ι : Type} {n : Nat} {S : ι → St} {sl sl' : List (Nat × SV)} {ob ob' : List Ob} {I : ι → Prop} (i : ι) (hS : S i = ⟨n, sl', ob'⟩) (hI : I i) (ρ : List Nat) (hm : Meets n0 ⟨n, sl, ob⟩ ⟨n, sl', ob'⟩ ρ) : Back n0 S I ⟨n, sl, ob⟩ :=
  ⟨i, ρ, hI, hS ▸ hm⟩
end
end Go.Vd
namespace Go.Vd
open Go Go.RowKit
section
variable {P : Program} {GL : Nat → List D} {o : Oper} {σ : St} {K : SV → List Nat → Prop}
/-! functions as values -/
theorem fl_func {fn : Fn} {first caps : Array Operand} {l m : List SV} (ho : o.op = .makeFunc fn first caps) (h1 : evL GL σ.sl first.toList = some l) (h2 : evL GL σ.sl caps.toList = some m) (hK : K (.fn fn l m) []) : FloatR P GL o σ K := fl_of fun B g a w hr => by
  refine ⟨.fn fn l m, .func fn ⟨first.toList.map a.eval⟩ ⟨caps.toList.map a.eval⟩, fun w' => ?_, ⟨_, _, rfl, evL_den hr h1, evL_den hr h2⟩, hK⟩
  have e : ∀ x : Array Operand, x.map a.eval = ⟨x.toList.map a.eval⟩ := fun x => by apply Array.ext'; simp
  simp only [execOp, ho, Instr.makeFunc, e, Sem.run_bind, Sem.run_pure, Result.andThen_ok]
theorem f_func {fn : Fn} {first caps : Array Operand} {l m : List SV} (hK : K (.fn fn l m) []) (ho : o.op = .makeFunc fn first caps := by exact rfl) (h1 : evL GL σ.sl first.toList = some l := by exact rfl) (h2 : evL GL σ.sl caps.toList = some m := by exact rfl) : FloatR P GL o σ K := fl_func ho h1 h2 hK
/-! pointers against nil -/
theorem run_eq_pnil {T e : TypeId} (hp : P.underlying T = some (.pointer e)) (p : Option Addr) (w : World) : (Op.equal T (.pointer p) (.pointer none)).run P w = .ok p.isNone w := by
  have h : ∀ d : Nat, (Op.equalIn (d + 1) T (.pointer p) (.pointer none)).run P w = .ok p.isNone w := fun d => by
    cases p <;> simp [Op.equalIn, run_underlying hp]
  simp [Op.equal, Op.maxDepth, h 9999]
theorem fl_p_of {op : BinOp} {T T' : TypeId} {x : Operand} {s : SV} {b : Bool} {p : Option Addr → Prop} (ho : o.op = .binOp op T x (.const (.pointer none)) T') (hx : evO GL σ.sl x = some s) (hop : op = .eql ∨ op = .neq) (hs : ∀ g y, s.Den g y → ∃ q, y = .pointer q ∧ q.isNone = b) {e : TypeId} (hp : P.underlying T = some (.pointer e)) (hK : K (.d (.v (.bool (if op = .eql then b else !b)))) []) : FloatR P GL o σ K := fl_of fun B g a w hr => by
  obtain ⟨q, hq, hb⟩ := hs _ _ (hr.evo hx)
  refine ⟨.d (.v (.bool (if op = .eql then b else !b))), _, fun w' => ?_, rfl, hK⟩
  have he := run_eq_pnil hp q w'
  have hc : a.eval (.const (.pointer none)) = .pointer none := rfl
  rcases hop with rfl | rfl
  · simp only [execOp, ho, Sem.run_bind, hq, hc, run_eqGuard_plain (P := P) (show (Value.pointer q).oneCell' = true from rfl) (show ¬ (Value.pointer q = .nilIface ∧ Value.pointer none = .nilIface) by simp)]
    simp only [Result.andThen_ok, binOp, Sem.run_bind, he, Sem.run_pure, hb, if_true]
  · simp only [execOp, ho, Sem.run_bind, hq, hc, run_eqGuard_plain (P := P) (show (Value.pointer q).oneCell' = true from rfl) (show ¬ (Value.pointer q = .nilIface ∧ Value.pointer none = .nilIface) by simp)]
    simp only [Result.andThen_ok, binOp, Sem.run_bind, he, Sem.run_pure, hb]
    rfl
theorem fl_peql_nil {T T' e : TypeId} {x : Operand} (hp : P.underlying T = some (.pointer e)) (ho : o.op = .binOp .eql T x (.const (.pointer none)) T') (hx : evO GL σ.sl x = some (.d (.v (.pointer none)))) (hK : K (.d (.v (.bool true))) []) : FloatR P GL o σ K :=
  fl_p_of (b := true) (p := fun _ => True) ho hx (.inl rfl) (fun g y hd => ⟨none, hd, rfl⟩) hp hK
theorem f_peql_nil {T T' e : TypeId} {x : Operand} (hp : P.underlying T = some (.pointer e)) (hK : K (.d (.v (.bool true))) []) (ho : o.op = .binOp .eql T x (.const (.pointer none)) T' := by exact rfl) (hx : evO GL σ.sl x = some (.d (.v (.pointer none))) := by exact rfl) : FloatR P GL o σ K := fl_peql_nil hp ho hx hK
theorem fl_peql_blk {T T' e : TypeId} {x : Operand} {i off : Nat} (hp : P.underlying T = some (.pointer e)) (ho : o.op = .binOp .eql T x (.const (.pointer none)) T') (hx : evO GL σ.sl x = some (.blk i off)) (hK : K (.d (.v (.bool false))) []) : FloatR P GL o σ K :=
  fl_p_of (b := false) (p := fun _ => True) ho hx (.inl rfl) (fun g y hd => by obtain ⟨b, _, e⟩ := hd; exact ⟨_, e, rfl⟩) hp hK
theorem f_peql_blk {T T' e : TypeId} {x : Operand} {i off : Nat} (hp : P.underlying T = some (.pointer e)) (hK : K (.d (.v (.bool false))) []) (ho : o.op = .binOp .eql T x (.const (.pointer none)) T' := by exact rfl) (hx : evO GL σ.sl x = some (.blk i off) := by exact rfl) : FloatR P GL o σ K := fl_peql_blk hp ho hx hK
/-- a pointer against itself -/
theorem fl_pneq_self {T T' e : TypeId} {x y : Operand} {i off : Nat} {ti : TI} (hp : P.underlying T = some (.pointer e)) (hT : tiOf P e = ti) (hok : ti.ok = true) (ho : o.op = .binOp .neq T x y T') (hx : evO GL σ.sl x = some (.blk i off)) (hy : evO GL σ.sl y = some (.blk i off)) (hK : K (.d (.v (.bool false))) []) : FloatR P GL o σ K := fl_of fun B g a w hr => by
  subst hT
  obtain ⟨b, hb, h1⟩ := hr.evo hx
  obtain ⟨b', hb', h2⟩ := hr.evo hy
  rw [hb] at hb'; cases hb'
  obtain ⟨j, d, hi, hd, _⟩ := ti_ok hok
  refine ⟨.d (.v (.bool false)), .bool false, fun w' => ?_, rfl, hK⟩
  simp only [execOp, ho, Sem.run_bind, h1, h2, run_eqGuard_plain (P := P) (show (Value.pointer (some ⟨b, off, none⟩)).oneCell' = true from rfl) (show ¬ (Value.pointer (some ⟨b, off, none⟩) = .nilIface ∧ Value.pointer (some ⟨b, off, none⟩) = .nilIface) by simp)]
  simp only [Result.andThen_ok, Lib.run_neq_ptr_same w' _ hp hi, Sem.run_pure]
theorem f_pneq_self {T T' e : TypeId} {x y : Operand} {i off : Nat} {ti : TI} (hp : P.underlying T = some (.pointer e)) (hT : tiOf P e = ti) (hK : K (.d (.v (.bool false))) []) (ho : o.op = .binOp .neq T x y T' := by exact rfl) (hx : evO GL σ.sl x = some (.blk i off) := by exact rfl) (hy : evO GL σ.sl y = some (.blk i off) := by exact rfl) (hok : ti.ok = true := by exact rfl) : FloatR P GL o σ K := fl_pneq_self hp hT hok ho hx hy hK
/-! an element of an array -/
theorem fl_index_arr {T e : TypeId} {x i : Operand} {k len : Nat} {l l' : List D} {j : Int} {kd : IntKind} {ti : TI} (hu : P.underlying T = some (.array len e)) (hT : tiOf P e = ti) (hok : ti.ok = true) (hs : ti.size = k) (ho : o.op = .indexAddr T x i)
    (hx : evO GL σ.sl x = some (.d (.cp l))) (hi : evO GL σ.sl i = some (.d (.v (.int kd j)))) (h0 : 0 ≤ j ∧ j < len) (hl : dropO (j.toNat * k) l = some l') (hK : K (.d (.cp l')) []) : FloatR P GL o σ K := fl_of fun B g a w hr => by
  obtain ⟨b, off, h1, hd⟩ := hr.evo hx
  have h2 : a.eval i = .int kd j := hr.evo hi
  rw [← hT] at hok
  obtain ⟨inf, d, hi', hd', hs', _⟩ := ti_ok hok
  refine ⟨.d (.cp l'), .pointer (some ⟨b, off + j.toNat * k, none⟩), fun w' => ?_, ⟨b, _, rfl, ?_⟩, hK⟩
  · rw [hT, hs] at hs'
    simp [execOp, ho, h1, h2, Instr.indexAt, Instr.sureAddr, run_underlying hu, asIntOf, h0, sizeOf, typeInfo, hi', ← hs', addr_add]
  · rw [← (dropO_eq hl).1]; exact hd.drop _
theorem f_index_arr {T e : TypeId} {x i : Operand} {k len : Nat} {l l' : List D} {j : Int} {kd : IntKind} {ti : TI} (hu : P.underlying T = some (.array len e)) (hT : tiOf P e = ti) (hK : K (.d (.cp l')) []) (ho : o.op = .indexAddr T x i := by exact rfl) (hx : evO GL σ.sl x = some (.d (.cp l)) := by exact rfl) (hi : evO GL σ.sl i = some (.d (.v (.int kd j))) := by exact rfl) (hok : ti.ok = true := by exact rfl) (hs : ti.size = k := by exact rfl) (h0 : 0 ≤ j ∧ j < len := by omega) (hl : dropO (j.toNat * k) l = some l' := by omega) : FloatR P GL o σ K := fl_index_arr hu hT hok hs ho hx hi h0 hl hK
end
section
variable {P : Program} {GL : Nat → List D} {n0 : Nat} {Pn : PnS}
/-- an operation that looks, and more than at cells -/
theorem opr_look {o : Oper} {n t : Nat} {sl : List (Nat × SV)} {ob : List Ob} {K : St → Prop} {T : Nat → Prop} (hd : o.dst = some t) (ht : Nat.blt t n = true)
    (h : ∀ B g a w, RelG GL B ⟨n, sl, ob⟩ g a w → ∃ s y, (execOp a.eval o).run P w = .ok (.value y) w ∧ s.Den g y ∧ K ⟨n, (t, s) :: sl, ob⟩) : OpR P GL n0 Pn T o ⟨n, sl, ob⟩ K := fun B hB g a w hr next Q hK hP => by
  obtain ⟨s, y, h1, h2, h3⟩ := h B g a w hr
  unfold Oper.wp
  rw [h1]
  show next (a.put o.dst y) w
  rw [hd]
  exact hK _ _ _ _ (hr.put' ht h2) (Keep.refl _ _ _ _) h3
/-- a pointer to unsafe.Pointer -/
theorem op_to_unsafe {o : Oper} {n t i : Nat} {sl : List (Nat × SV)} {ob : List Ob} {K : St → Prop} {T : Nat → Prop} {src dst u ty : TypeId} {x : Operand} {c : SV} {l : List SV} {ti : TI} (hs : P.underlying src = some (.pointer u)) (hdd : P.underlying dst = some .unsafePointer) (hT : tiOf P u = ti) (hok : ti.ok = true) (hsz : Nat.beq ti.size 0 = false)
    (ho : o.op = .convert src dst x) (hd : o.dst = some t) (ht : Nat.blt t n = true) (hx : evO GL sl x = some (.blk i 0)) (hi : nthO i ob = some (.cells (c :: l) ty)) (h : K ⟨n, (t, .blk i 0) :: sl, ob⟩) : OpR P GL n0 Pn T o ⟨n, sl, ob⟩ K :=
  opr_look hd ht fun B g a w hr => by
    subst hT
    obtain ⟨b, hb, h1⟩ := hr.evo hx
    obtain ⟨vs, hh, hdl, _⟩ := hr.store.obs i _ _ (nthO_eq hi) hb
    obtain ⟨j, d, hj, _, hjs, _⟩ := ti_ok hok
    have hl := hdl.length
    refine ⟨.blk i 0, .pointer (some ⟨b, 0, none⟩), ?_, ⟨b, hb, rfl⟩, h⟩
    have hrun := Lib.run_to_unsafe (P := P) w ⟨b, 0, none⟩ hs hdd hj (by intro e; rw [hjs, e] at hsz; cases hsz) (e := ty) (cells := vs.length) (by simp [World.shape?, hh]) (by simp at hl; show 0 < _; omega)
    simp only [execOp, ho, h1, Sem.run_bind, hrun, Result.andThen_ok, Sem.run_pure]
/-- .. and back -/
theorem op_from_unsafe {o : Oper} {n t i : Nat} {sl : List (Nat × SV)} {ob : List Ob} {K : St → Prop} {T : Nat → Prop} {src dst u ty : TypeId} {x : Operand} {l : List SV} {ti : TI} {k : Nat} (hs : P.underlying src = some .unsafePointer) (hdd : P.underlying dst = some (.pointer u)) (hT : tiOf P u = ti) (hok : ti.ok = true)
    (hlies : liesAt P P.depth ty (k / P.cellsOf ty) 0 u 1 = true) (ho : o.op = .convert src dst x) (hd : o.dst = some t) (ht : Nat.blt t n = true) (hx : evO GL sl x = some (.blk i 0)) (hi : nthO i ob = some (.cells l ty)) (hk : l.length = k) (h : K ⟨n, (t, .blk i 0) :: sl, ob⟩) : OpR P GL n0 Pn T o ⟨n, sl, ob⟩ K :=
  opr_look hd ht fun B g a w hr => by
    subst hT
    obtain ⟨b, hb, h1⟩ := hr.evo hx
    obtain ⟨vs, hh, hdl, _⟩ := hr.store.obs i _ _ (nthO_eq hi) hb
    obtain ⟨j, d, hj, _, hjs, _⟩ := ti_ok hok
    have hl := hdl.length
    refine ⟨.blk i 0, .pointer (some ⟨b, 0, none⟩), ?_, ⟨b, hb, rfl⟩, h⟩
    have hrun := Lib.run_from_unsafe (P := P) w ⟨b, 0, none⟩ hs hdd hj (e := ty) (cells := vs.length) (by simp [World.shape?, hh]) (by rw [hl, hk]; exact hlies)
    simp only [execOp, ho, h1, Sem.run_bind, hrun, Result.andThen_ok, Sem.run_pure]
/-- a function of the machine's own that hands back what it is given -/
theorem op_same {o : Oper} {n t : Nat} {sl : List (Nat × SV)} {ob : List Ob} {K : St → Prop} {T : Nat → Prop} {f : FuncId} {x : Operand} {ts : Array TypeId} {s : SV} (hf : ∀ y w, (callFunc f #[y]).run P w = .ok (.value y) w) (ho : o.op = .call { callee := .value (.func f), args := #[x], argTypes := ts })
    (hd : o.dst = some t) (ht : Nat.blt t n = true) (hx : evO GL sl x = some s) (h : K ⟨n, (t, s) :: sl, ob⟩) : OpR P GL n0 Pn T o ⟨n, sl, ob⟩ K :=
  opr_look hd ht fun B g a w hr => by
    refine ⟨s, a.eval x, ?_, hr.evo hx, h⟩
    have hrun : (execOp a.eval o).run P w = (callFunc f #[a.eval x]).run P w := by
      simp only [execOp, ho, resolve, show a.eval (.func f) = .func (.func f) #[] #[] from rfl, Deferred.ofValue, Sem.run_bind, Sem.run_pure, Result.andThen_ok, invoke]
      congr 2
      simp
    rw [hrun, hf]
/-! calls of closures -/
def isFn : Operand → Bool
  | .func _ => true
  | _ => false
theorem isFn_no {x : Operand} (h : isFn x = false) : ∀ f, x ≠ .func f := fun f e => by subst e; cases h
theorem op_callc {o : Oper} {n t : Nat} {sl : List (Nat × SV)} {ob : List Ob} {K : St → Prop} {f : FuncId} {x : Operand} {args : Array Operand} {ts : Array TypeId} {obc : List Ob} {argsc first caps svs svs1 svs2 m : List SV} {Q : Out → List Ob → Prop} (hc : callable P f = true) (hnf : isFn x = false) (ho : o.op = .call { callee := .value x, args := args, argTypes := ts })
    (hx : evO GL sl x = some (.fn (.func f) first caps)) (ha : evL GL sl args.toList = some svs) (h1 : appO first svs = some svs1) (h2 : appO svs1 caps = some svs2) (hdst : o.dst = some t) (htn : Nat.blt t n = true) (ht : Tri P GL f obc argsc Q) (ix : List Nat) (hfit : ObFits ob ix obc ix) (hnd : nodupB ix = true) (hno : noIt obc = true) (hit : noItOns ix ob = true) (hra : renL ix argsc = some m) (hfa : FitL ob svs2 m)
    (hret : ∀ s ob', Q (.ret s) ob' → ∃ obr ob1 obn sl1 s', renOb (names ix ob.length (ob'.length - ix.length)) ob' = some obr ∧ kObL ix ob = some ob1 ∧ mergeO ix ob1 obr = some obn ∧ kSlL ix sl = some sl1 ∧ s.ren (names ix ob.length (ob'.length - ix.length)) = some s' ∧ K ⟨n, (t, s') :: sl1, obn⟩)
    (hpan : ∀ s ob', Q (.pan s) ob' → ∃ obr ob1 obn sl1 s', renOb (names ix ob.length (ob'.length - ix.length)) ob' = some obr ∧ kObL ix ob = some ob1 ∧ mergeO ix ob1 obr = some obn ∧ kSlL ix sl = some sl1 ∧ s.ren (names ix ob.length (ob'.length - ix.length)) = some s' ∧ Pn.pn s' sl1 obn) : OpR P GL n0 Pn (· ∈ ix) o ⟨n, sl, ob⟩ K :=
  op_call_of ht ix (run_call_c hc (isFn_no hnf) ho hx ha h1 h2) hfit hnd hno (noItOns_get hit) hra hfa (fun s ob' hq => by
    obtain ⟨obr, ob1, obn, sl1, s', e1, e2, e3, e4, e5, e6⟩ := hret s ob' hq
    exact ⟨obr, ob1, obn, sl1, s', e1, e2, e3, e4, e5, fun t' e => by rw [hdst] at e; cases e; exact ⟨htn, e6⟩, fun e => by rw [hdst] at e; cases e⟩) hpan
/-- the same where the function is named: '.func f' in a slot -/
theorem op_callfd {o : Oper} {n t : Nat} {sl : List (Nat × SV)} {ob : List Ob} {K : St → Prop} {T : Nat → Prop} {f : FuncId} {x : Operand} {args : Array Operand} {ts : Array TypeId} {argsc : List D} {svs : List SV} {Q : D → Prop} (hc : callable P f = true) (hnf : isFn x = false) (ho : o.op = .call { callee := .value x, args := args, argTypes := ts })
    (hx : evO GL sl x = some (.d (.v (.func (.func f) #[] #[])))) (ha : evL GL sl args.toList = some svs) (hdst : o.dst = some t) (htn : Nat.blt t n = true) (ht : TriD P GL f argsc Q) (hfa : FitL ob svs (argsc.map .d)) (hret : ∀ d, Q d → K ⟨n, (t, .d d) :: sl, ob⟩) : OpR P GL n0 Pn T o ⟨n, sl, ob⟩ K :=
  op_call_d (fun B g a w hr => by
    have e : a.eval x = .func (.func f) #[] #[] := hr.evo hx
    refine ⟨args.toList.map a.eval, ?_, evL_den hr ha⟩
    have hrun : (execOp a.eval o).run P w = (callFunc f ⟨args.toList.map a.eval⟩).run P w := by
      simp only [execOp, ho, resolve, e, Deferred.ofValue, Sem.run_bind, Sem.run_pure, Result.andThen_ok, invoke]
      congr 2
      apply Array.ext'
      simp
    rw [hrun, run_callFunc hc]) hfa ht fun d hq => ⟨fun t' e => by rw [hdst] at e; cases e; exact ⟨htn, hret d hq⟩, fun e => by rw [hdst] at e; cases e⟩
/-! strings.Builder: its bytes -/
def bytesD (s : ByteArray) : List (List D) := s.data.toList.map fun b => [.v (.int .u8 b.toNat)]
theorem bytesD_len (s : ByteArray) : (bytesD s).length = s.size := by simp [bytesD]
theorem bytesD_app (s t : ByteArray) : bytesD s ++ bytesD t = bytesD (s ++ t) := by simp [bytesD, ByteArray.data_append]
theorem bytesD_ne {s : ByteArray} (h : s ≠ .empty) : bytesD s ≠ [] := fun e => h (by
  have := congrArg List.length e
  rw [bytesD_len] at this
  apply ByteArray.ext; apply Array.ext'
  have h2 : s.data.toList.length = 0 := this
  rw [List.eq_nil_of_length_eq_zero h2]; rfl)
/-- append of a text's bytes to a row of the function's own -/
theorem run_apps {w : World} {t u ty e : TypeId} {bytes : Nat} (T : SlTy P t e 1 bytes) (hu : P.underlying u = some .string) {v : Value} {n : Nat} {xs : List Value} (hown : w.ownsRow 0 e 1 v n xs)
    {s : ByteArray} (hm : 0 < s.size) (h63 : n + s.size ≤ maxLen) (hbytes : (n + s.size) * bytes ≤ 140737488355328) :
    ∃ v' w', (Builtin.append_ #[t, u] ty #[v, .string s]).run P w = .ok v' w' ∧ w'.ownsRow 0 e 1 v' (n + s.size) (xs ++ Lib.strCells s) ∧ Fr (fun c => v.ownBlock = some c ∧ v'.ownBlock = some c) w w' ∧
      ∃ k, v'.ownBlock = some k ∧ (v.ownBlock = some k ∨ k = w.heap.size) ∧ k < w'.heap.size ∧ ∃ c, v' = .slice (some ⟨k, 0, none⟩) (n + s.size) c := by
  have hinfo := T.info
  have hzero := T.zero
  have hsl : (Lib.strCells s).length = s.size := Lib.strCells_length s
  cases hi : P.info? e with
  | none => simp [hi] at hinfo
  | some i =>
    rw [hi] at hinfo hzero
    simp only [Option.map_some, Option.some.injEq, Prod.mk.injEq, Option.bind_some] at hinfo hzero
    cases hz : i.zero with
    | none => simp [hz] at hzero
    | some z =>
    rw [hz] at hzero
    simp only [Option.map_some, Option.some.injEq] at hzero
    obtain ⟨q1, q2⟩ := hinfo
    subst q2
    have hsmall : n + s.size ≤ 9223372036854775807 := by simp only [maxLen] at h63; omega
    have hxl : xs.length = n := by simpa using hown.1
    have hlen : (xs ++ Lib.strCells s).length = (n + s.size) * 1 := by rw [List.length_append, hxl, hsl, Nat.mul_one]
    have grown : ∀ (old : Nat), old < n + s.size →
        (w.drew.alloc (.cells (xs.toArray ++ (Lib.strCells s).toArray ++ Builtin.zeroCells z.cells (grownCap w (n + s.size) old e - (n + s.size))) e)).ownsRow 0 e 1
          (.slice (some ⟨w.heap.size, 0, none⟩) (n + s.size) (grownCap w (n + s.size) old e)) (n + s.size) (xs ++ Lib.strCells s) := by
      intro old ho
      have hge := grownCap_ge w (n + s.size) old e
      have hcm : grownCap w (n + s.size) old e ≤ maxLen := grownCap_le_maxLen w (n + s.size) old e h63
      refine ⟨hlen, .inr ⟨w.heap.size, _, _, rfl, Nat.zero_le _, heap_alloc_new w.drew _, hge, hcm, ?_, ?_⟩⟩
      · simp only [Array.size_append, List.size_toArray, size_zeroCells, hzero, hxl, hsl]
        omega
      · simp only [Array.toList_append, List.append_assoc]
        rw [← List.append_assoc, ← hlen]
        exact List.take_left
    rcases hown.2 with ⟨rfl, rfl⟩ | ⟨g, cap, cur, rfl, hbg, hg, hnc, hcm, hcs, htake⟩
    · have hx : xs = [] := List.eq_nil_of_length_eq_zero hxl
      subst hx
      have hr := run_append_nil_string (P := P) w t u ty e i z T.under hu hi hz s hm (by omega) (by have hb := hbytes; simp only [Nat.zero_add] at hb; omega)
      have hgr := grown 0 (by omega)
      simp only [Nat.zero_add, List.nil_append, Array.empty_append] at hgr ⊢
      have e1 : (s.data.map fun b => Value.int .u8 b.toNat) = (Lib.strCells s).toArray := by
        apply Array.ext'
        simp [Lib.strCells]
      rw [e1] at hr
      exact ⟨_, _, hr, hgr, ((Fr.refl _ w).drew).alloc _, _, rfl, .inr rfl, by simp, _, rfl⟩
    · by_cases hroom : n + s.size ≤ cap
      · have hcs' : cur.size = cap := by simpa using hcs
        have hr := Lib.run_append_room_string (P := P) w t u ty e i T.under hu hi q1 g n cap cur hg s hroom (by omega)
        refine ⟨_, _, hr, ⟨hlen, .inr ⟨g, cap, _, rfl, hbg, setRow_heap w g cur _ e _ hg, hroom, hcm, ?_, ?_⟩⟩, ⟨rfl, rfl, rfl, by simp, fun k _ hk => setRow_other w g k _ (fun e => hk ⟨by simp [Value.ownBlock, e], by simp [Value.ownBlock, e]⟩)⟩,
          g, rfl, .inl rfl, by have := (Array.getElem?_eq_some_iff.1 hg).1; simpa using this, _, rfl⟩
        · simp only [List.size_toArray, List.length_append, List.length_take, List.length_drop, Array.length_toList, hsl]
          omega
        · have ht' : cur.toList.take n = xs := by simpa using htake
          rw [ht', ← hlen]
          exact List.take_left
      · have holds : ∀ j u, xs[j]? = some u → w.cell? ((⟨g, 0, none⟩ : Addr).add j) = some u := hown.cells (g := g) rfl
        have hr := Lib.run_append_grow_string (P := P) w t u ty e i z T.under hu hi hz ⟨g, 0, none⟩ n cap xs (by rw [q1]; simpa using hxl) holds s (by omega) (by omega) (growslice_fits (by omega) hbytes)
        have hgr := grown cap (by omega)
        exact ⟨_, _, hr, hgr, ((Fr.refl _ w).drew).alloc _, _, rfl, .inr rfl, by simp, _, rfl⟩
theorem denR_bytes {m : Mem} {c : Nat} : ∀ {l : List UInt8} {off : Nat}, (∀ (j : Nat) y, (l.map fun b => Value.int .u8 b.toNat)[j]? = some y → m c (off + j) = some y) → DenR m 1 c off (l.map fun b => [.v (.int .u8 b.toNat)])
  | [], _, _ => trivial
  | x :: r, off, h => ⟨⟨rfl, ⟨⟨_, by simpa using h 0 _ rfl, rfl⟩, trivial⟩⟩, denR_bytes fun j y hj => by
      have := h (j + 1) y (by simpa using hj)
      rwa [show off + (j + 1) = off + 1 + j by omega] at this⟩
theorem op_appends {o : Oper} {n t i : Nat} {sl sl' : List (Nat × SV)} {ob ob1 ob' : List Ob} {K : St → Prop} {ty u e : TypeId} {bytes : Nat} {s x : Operand} {r ap : ByteArray} {or : Ob} (TS : SlTy P ty e 1 bytes) (hu : P.underlying u = some .string) (ho : o.op = .call { callee := .builtin .append, args := #[s, x], argTypes := #[ty, u] })
    (hd : o.dst = some t) (ht : Nat.blt t n = true) (hs : evO GL sl s = some (.own i 1 (bytesD r))) (hx : evO GL sl x = some (.d (.v (.string ap)))) (hi : nthO i ob = some or) (hor : or = .row e 1 ∨ or = .nilrow e 1)
    (hne : ap ≠ .empty) (h63 : (r.size + ap.size) * (bytes + 1) ≤ 140737488355328) (hsl : kSl i sl = some sl') (hob : kOb i ob = some ob1) (hob' : set1 i (.row e 1) ob1 = some ob')
    (h : K ⟨n, (t, .own i 1 (bytesD (r ++ ap))) :: sl', ob'⟩) : OpR P GL n0 Pn (fun j => j = i) o ⟨n, sl, ob⟩ K :=
  op_app_core (news := bytesD ap) hd ht (.inl hs) hi hor (fun B g a w hr xs hown => by
    have hxv : a.eval x = .string ap := hr.evo hx
    have hap : 0 < ap.size := by
      have := List.length_pos_iff.2 (bytesD_ne hne)
      rwa [bytesD_len] at this
    rw [Nat.mul_add, Nat.mul_one] at h63
    rw [bytesD_len] at hown
    rw [bytesD_len, bytesD_len]
    obtain ⟨v', w', hrun, hrow', hfr0, k, hk1, hk2, hk3, c', rfl⟩ := run_apps (P := P) (ty := o.type) TS hu hown hap (by simp only [maxLen]; omega) (by omega)
    refine ⟨Lib.strCells ap, _, w', ?_, hrow', hfr0, ⟨k, hk1, hk2, hk3, c', rfl⟩, by rw [Lib.strCells_length, Nat.mul_one], Lib.strCells_oneCell ap, fun m c off hmm hj => denR_bytes hj⟩
    unfold execOp
    simp only [ho, resolve, invoke, builtin, Sem.run_bind, Sem.run_pure, Result.andThen_ok, List.map_toArray, List.map_cons, List.map_nil, hxv, hrun]) hsl hob hob' (by rw [bytesD_app]; exact h)
theorem fl_usd {o : Oper} {σ : St} {K : SV → List Nat → Prop} {i k : Nat} {ls : List (List D)} {x : Operand} {ts : Array TypeId} (ho : o.op = .call { callee := .builtin .unsafeSliceData, args := #[x], argTypes := ts }) (hx : evO GL σ.sl x = some (.own i k ls)) (hne : ls ≠ []) (hK : K (.rp i) []) : FloatR P GL o σ K := fl_of fun B g a w hr => by
  obtain ⟨b, cap, h1, h2, h3, h4⟩ := hr.evo hx
  obtain ⟨c, rfl, _⟩ := h4 hne
  have hlen := List.length_pos_iff.2 hne
  refine ⟨.rp i, .pointer (some ⟨c, 0, none⟩), fun w' => ?_, ⟨c, cap, _, h1, rfl⟩, hK⟩
  have hrun := Lib.run_unsafeSliceData_row (P := P) w' ts o.type ⟨c, 0, none⟩ ls.length cap (by omega)
  unfold execOp
  simp only [ho, resolve, invoke, builtin, Sem.run_bind, Sem.run_pure, Result.andThen_ok, List.map_toArray, List.map_cons, List.map_nil, h2, Option.map_some, hrun]
theorem f_usd {o : Oper} {σ : St} {K : SV → List Nat → Prop} {i k : Nat} {ls : List (List D)} {x : Operand} {ts : Array TypeId} (hK : K (.rp i) []) (ho : o.op = .call { callee := .builtin .unsafeSliceData, args := #[x], argTypes := ts } := by exact rfl) (hx : evO GL σ.sl x = some (.own i k ls) := by exact rfl) (hne : ls ≠ [] := by omega) : FloatR P GL o σ K := fl_usd ho hx hne hK
theorem freeze_cell (w : World) (p : Addr) (n : Nat) (b o : Nat) : (w.freeze p n).cell? ⟨b, o, none⟩ = w.cell? ⟨b, o, none⟩ := by
  unfold World.freeze
  split
  · rfl
  · simp only [World.cell?, Array.getElem?_modify]
    by_cases h : p.block = b
    · subst h
      rw [if_pos rfl]
      cases hh : w.heap[p.block]? with
      | none => rfl
      | some ob => cases ob <;> rfl
    · rw [if_neg h]
theorem freeze_fr (w : World) (c n : Nat) : Fr (fun d => d = c) w (w.freeze ⟨c, 0, none⟩ n) := by
  unfold World.freeze
  split
  · exact Fr.refl _ w
  · exact ⟨rfl, rfl, rfl, by simp, fun k _ hk => by
      simp only [Array.getElem?_modify]
      rw [if_neg (Ne.symm hk)]⟩
/-- a row that is no longer looked after, whose cells stay -/
theorem RelG.dead1 {B : Bs} {σ : St} {g : Gh} {a : Act} {w : World} (h : RelG GL B σ g a w) {w' : World} {i b : Nat} {o : Ob} {pl : Pl} (ho : σ.ob[i]? = some o) (hpl : g.gs[i]? = some pl) (hb : blkOf o pl = some b) (hf : Fr (fun c => c = b) w w')
    (hcell : ∀ off, w'.cell? ⟨b, off, none⟩ = w.cell? ⟨b, off, none⟩) (hno : ∀ (j : Nat) f dn cur, σ.ob[j]? ≠ some (.itI i f dn cur)) :
    RelG GL B ⟨σ.n, σ.sl, σ.ob.set i .dead⟩ g a w' ∧ Keep (fun j => j = i) σ.ob g w g w' := by
  have hlen := h.store.len
  have hi := (List.getElem?_eq_some_iff.1 ho).1
  have hne : ∀ (j : Nat) oj pj c, j ≠ i → σ.ob[j]? = some oj → g.gs[j]? = some pj → blkOf oj pj = some c → c ≠ b := fun j oj pj c hj h1 h2 h3 e => by
    subst e; exact hj (h.store.disj j i oj o pj _ c h1 ho h2 hpl h3 hb)
  refine ⟨⟨h.defers, h.size, h.slots, ?_, ?_⟩, Mle.refl _, fun j c oj hj h1 h2 h3 => ⟨h2, hf.block c (h.store.lt h1 h2 h3) (hne j oj _ c hj h1 h2 h3)⟩⟩
  · refine h.store.step (p := fun j => j = i) (Mle.refl _) (fun _ _ h => h) (fun _ _ _ h => h) (fun c off x hx => ?_) (by simp [hlen]) (fun j o1 hj h1 => ?_) (fun j k f dn cur h1 => ?_) (fun j k f dn cur hj h1 hk => ?_)
      (fun j o1 q c hj h1 h2 h3 => ⟨hf.block c (h.store.lt h1 h2 h3) (hne j o1 q c hj h1 h2 h3), fun _ h => h⟩) (fun j o1 hj h1 => ?_) (fun j o1 q c hj h1 h2 h3 => ?_) (fun i j oi oj pi pj b hi hj _ _ _ _ _ _ => hi.trans hj.symm)
    · have hs := h.store.sat c off x hx
      refine ⟨?_, hs.2⟩
      by_cases hcb : c = b
      · subst hcb; rw [hcell]; exact hs.1
      · rw [World.cell?_of_block (w := w) (hf.block c (h.store.sat_lt hx) hcb)]; exact hs.1
    · rw [List.getElem?_set_ne (Ne.symm hj)] at h1
      exact ⟨o1, h1, ObLe.refl (Gle.refl g) o1⟩
    · by_cases hj : j = i
      · subst hj
        rw [List.getElem?_set_self hi] at h1
        cases h1
      · rw [List.getElem?_set_ne (Ne.symm hj)] at h1
        have h2 := h.store.its j k f dn cur h1
        by_cases hk : k = i
        · subst hk; exact absurd h1 (hno j f dn cur)
        · rw [List.getElem?_set_ne (Ne.symm hk)]; exact h2
    · rw [List.getElem?_set_ne (Ne.symm hj)] at h1
      subst hk
      exact hno j f dn cur h1
    · subst hj
      rw [List.getElem?_set_self hi] at h1
      cases h1
      exact ⟨_, hpl, by cases pl <;> trivial⟩
    · subst hj
      rw [List.getElem?_set_self hi] at h1
      cases h1
      simp [blkOf] at h3
  · refine h.stp.step hf (fun c e => by subst e; exact h.stp.own i o _ c ho hpl hb) (Mle.refl _) (fun c off x hx hn => by rw [hn] at hx; cases hx) (fun j o1 p c h1 h2 h3 => ?_) (fun _ _ h => h)
    by_cases hj : j = i
    · subst hj
      rw [List.getElem?_set_self hi] at h1
      cases h1
      simp [blkOf] at h3
    · rw [List.getElem?_set_ne (Ne.symm hj)] at h1
      exact .inl (h.stp.own j o1 p c h1 h2 h3)
theorem denR_bytes_get {m : Mem} {c : Nat} : ∀ {l : List UInt8} {off : Nat}, DenR m 1 c off (l.map fun b => [.v (.int .u8 b.toNat)]) → ∀ (j : Nat) x, l[j]? = some x → m c (off + j) = some (.int .u8 x.toNat)
  | [], _, _, j, x, h => by simp at h
  | y :: r, off, ⟨⟨_, ⟨⟨z, h1, h2⟩, _⟩⟩, h3⟩, j, x, h => by
    cases j with
    | zero => simp at h; subst h; cases h2; simpa using h1
    | succ j =>
      have := denR_bytes_get h3 j x (by simpa using h)
      rwa [show off + 1 + j = off + (j + 1) by omega] at this
/-- unsafe.String over a row of one's own: the row is no longer looked after -/
theorem op_ustr {o : Oper} {n t i u : Nat} {sl : List (Nat × SV)} {ob ob' : List Ob} {K : St → Prop} {x y : Operand} {pt it e : TypeId} {s : ByteArray} {m : Int} (hp : P.underlying pt = some (.pointer e)) (hc : P.cellsOf e = 1) (ho : o.op = .call { callee := .builtin .unsafeString, args := #[x, y], argTypes := #[pt, it] })
    (hd : o.dst = some t) (ht : Nat.blt t n = true) (hx : evO GL sl x = some (.rp i)) (hy : evO GL sl y = some (.d (.v (.int .i64 m)))) (hu : slo u sl = some (.own i 1 (bytesD s))) (hi : nthO i ob = some (.row e 1)) (hne : s ≠ .empty) (hm : m = s.size) (hit : noItOn i ob = true) (hob : set1 i .dead ob = some ob')
    (h : K ⟨n, (t, .d (.v (.string s))) :: sl, ob'⟩) : OpR P GL n0 Pn (fun j => j = i) o ⟨n, sl, ob⟩ K := fun B hB g a w hr next Q hK hP => by
  obtain ⟨c, cap, k, hb, hxv⟩ := hr.evo hx
  have hyv : a.eval y = .int .i64 m := hr.evo hy
  obtain ⟨b', cap', hb', _, hcap, hden⟩ := hr.evo (x := .tmp u) hu
  rw [hb] at hb'
  cases hb'
  obtain ⟨c', hc', hden⟩ := hden (bytesD_ne hne)
  cases hc'
  have hi' := nthO_eq hi
  obtain ⟨⟨xs, hown⟩, _⟩ := hr.store.obs i _ _ hi' hb
  have hrow : ∃ cur, w.heap[c]? = some (.cells cur e (0, 0)) ∧ s.size ≤ cur.size ∧ s.size ≤ 9223372036854775807 := by
    rcases hown.2 with ⟨h1, _⟩ | ⟨g0, cap0, cur, h1, h2, h3, h4, h5, h6, h7⟩
    · cases h1
    · simp only [Option.map_some, Value.slice.injEq, Option.some.injEq, Addr.mk.injEq] at h1
      obtain ⟨⟨rfl, _⟩, h8, rfl⟩ := h1
      rw [bytesD_len] at h4
      simp only [maxLen] at h5
      exact ⟨cur, h3, by omega, by omega⟩
  obtain ⟨cur, hh, hsz, h63⟩ := hrow
  have hsl : s.data.toList.length = s.size := rfl
  have hrun := Lib.run_unsafeString_row (P := P) w pt it o.type e hp hc c cur.size (by simp [World.shape?, hh]) s.data.toList (fun e => hne (by apply ByteArray.ext; apply Array.ext'; rw [e]; rfl)) (by rw [hsl]; exact hsz) (by rw [hsl]; exact h63) (fun j x hj => by
    rw [addr_add]
    exact (hr.store.sat _ _ _ (denR_bytes_get hden j x hj)).1)
  have hrun2 : (execOp a.eval o).run P w = .ok (.value (.string s)) (w.freeze ⟨c, 0, none⟩ s.size) := by
    unfold execOp
    simp only [ho, resolve, invoke, builtin, Sem.run_bind, Sem.run_pure, Result.andThen_ok, List.map_toArray, List.map_cons, List.map_nil, hxv, hyv, hm]
    rw [hsl] at hrun
    rw [hrun]
    rfl
  unfold Oper.wp
  rw [hrun2]
  show next (a.put o.dst _) _
  rw [hd]
  obtain ⟨h1, h2⟩ := hr.dead1 (w' := w.freeze ⟨c, 0, none⟩ s.size) hi' hb rfl (freeze_fr w c _) (fun off => freeze_cell w _ _ c off) (noItOn_get hit)
  rw [(set1_eq hob).1] at h
  exact hK _ _ _ _ (h1.put' (s := .d (.v (.string s))) ht rfl) h2 h
end
end Go.Vd
namespace Go.Vd
open Go Go.RowKit
mutual
def SV.fz (i : Nat) (q : Option (Nat × List (List D))) (ds : List D) : SV → Option SV
  | .blk j off => cond (Nat.beq j i) ((dropO off ds).bind fun l => some (.d (.cp l))) (some (.blk j off))
  | .agg l => (fzL i q ds l).bind fun l' => some (.agg l')
  | .tup l => (fzL i q ds l).bind fun l' => some (.tup l')
  | .fn f a b => (fzL i q ds a).bind fun a' => (fzL i q ds b).bind fun b' => some (.fn f a' b')
  | .ifc T s => (s.fz i q ds).bind fun s' => some (.ifc T s')
  | .d x => some (.d x)
  | .own j k ls => some (.own j k ls)
  | .map j => some (.map j)
  | .rp j => some (.rp j)
  | .arr j n => cond (Nat.beq j i) (q.bind fun r => some (.d (.sl r.1 r.2))) (some (.arr j n))
  | .bp j off => cond (Nat.beq j i) (some .junk) (some (.bp j off))
  | .ful k ls => some (.ful k ls)
  | .junk => some .junk
def fzL (i : Nat) (q : Option (Nat × List (List D))) (ds : List D) : List SV → Option (List SV)
  | [] => some []
  | s :: r => (s.fz i q ds).bind fun s' => (fzL i q ds r).bind fun r' => some (s' :: r')
end
def fzSl (i : Nat) (q : Option (Nat × List (List D))) (ds : List D) : List (Nat × SV) → Option (List (Nat × SV))
  | [] => some []
  | (k, s) :: r => (s.fz i q ds).bind fun s' => (fzSl i q ds r).bind fun r' => some ((k, s') :: r')
def Ob.fz (i : Nat) (q : Option (Nat × List (List D))) (ds : List D) : Ob → Option Ob
  | .cells l ty => (fzL i q ds l).bind fun l' => some (.cells l' ty)
  | .row e k => some (.row e k)
  | .nilrow e k => some (.nilrow e k)
  | .buf e k ls q => some (.buf e k ls q)
  | .mapI f => some (.mapI f)
  | .itI j f dn cur => some (.itI j f dn cur)
  | .dead => some .dead
def fzOb (i : Nat) (q : Option (Nat × List (List D))) (ds : List D) : List Ob → Option (List Ob)
  | [] => some []
  | o :: r => (o.fz i q ds).bind fun o' => (fzOb i q ds r).bind fun r' => some (o' :: r')
/-- what is frozen at place i -/
structure Fz (i : Nat) (q : Option (Nat × List (List D))) (ds : List D) (g g' : Gh) : Prop where
  m : Mle g.m g'.m
  gs : ∀ (j : Nat) q, g.gs[j]? = some q → g'.gs[j]? = some q
  cp : ∀ b, g.gs[i]? = some (.loc b) → DenC g'.m b 0 ds
  ar : ∀ r n y, q = some r → (SV.arr i n).Den g y → (D.sl r.1 r.2).Den g'.m y
mutual
theorem SV.fz_den {i : Nat} {q : Option (Nat × List (List D))} {ds : List D} {g g' : Gh} (h : Fz i q ds g g') : ∀ (s : SV) {s' : SV} {y : Value}, s.fz i q ds = some s' → s.Den g y → s'.Den g' y
  | .blk j off, s', y, hr, hd => by
    obtain ⟨b, hb, e⟩ := hd
    simp only [SV.fz] at hr
    cases hj : Nat.beq j i with
    | false =>
      rw [hj] at hr
      simp only [cond_false, Option.some.injEq] at hr
      subst hr
      exact ⟨b, h.gs _ _ hb, e⟩
    | true =>
      rw [hj] at hr
      simp only [cond_true, Option.bind_eq_some_iff, Option.some.injEq] at hr
      obtain ⟨l, h1, rfl⟩ := hr
      have hji : j = i := by simpa using hj
      subst hji
      refine ⟨b, off, e, ?_⟩
      rw [← (dropO_eq h1).1]
      have := (h.cp b hb).drop off
      rwa [Nat.zero_add] at this
  | .agg l, s', y, hr, ⟨vs, e, hd⟩ => by
    simp only [SV.fz, Option.bind_eq_some_iff, Option.some.injEq] at hr
    obtain ⟨l', h1, rfl⟩ := hr
    exact ⟨vs, e, fzL_den h l h1 hd⟩
  | .tup l, s', y, hr, ⟨vs, e, hd⟩ => by
    simp only [SV.fz, Option.bind_eq_some_iff, Option.some.injEq] at hr
    obtain ⟨l', h1, rfl⟩ := hr
    exact ⟨vs, e, fzL_den h l h1 hd⟩
  | .fn f a b, s', y, hr, ⟨vs, us, e, d1, d2⟩ => by
    simp only [SV.fz, Option.bind_eq_some_iff, Option.some.injEq] at hr
    obtain ⟨a', h1, b', h2, rfl⟩ := hr
    exact ⟨vs, us, e, fzL_den h a h1 d1, fzL_den h b h2 d2⟩
  | .ifc T s, s', y, hr, ⟨x, e, hd⟩ => by
    simp only [SV.fz, Option.bind_eq_some_iff, Option.some.injEq] at hr
    obtain ⟨t, h1, rfl⟩ := hr
    exact ⟨x, e, SV.fz_den h s h1 hd⟩
  | .d x, s', y, hr, hd => by simp [SV.fz] at hr; subst hr; exact D.Den.mono h.m x hd
  | .own j k ls, s', y, hr, hd => by simp [SV.fz] at hr; subst hr; exact SV.Den.mono ⟨h.m, h.gs⟩ _ hd
  | .map j, s', y, hr, hd => by simp [SV.fz] at hr; subst hr; exact SV.Den.mono ⟨h.m, h.gs⟩ _ hd
  | .arr j n, s', y, hr, hd => by
    simp only [SV.fz] at hr
    cases hj : Nat.beq j i with
    | false =>
      rw [hj] at hr
      simp only [cond_false, Option.some.injEq] at hr
      subst hr
      exact SV.Den.mono ⟨h.m, h.gs⟩ _ hd
    | true =>
      rw [hj] at hr
      simp only [cond_true, Option.bind_eq_some_iff, Option.some.injEq] at hr
      obtain ⟨r, h1, rfl⟩ := hr
      have hji : j = i := by simpa using hj
      subst hji
      exact h.ar r n y h1 hd
  | .bp j off, s', y, hr, hd => by
    simp only [SV.fz] at hr
    cases hj : Nat.beq j i with
    | false =>
      rw [hj] at hr
      simp only [cond_false, Option.some.injEq] at hr
      subst hr
      exact SV.Den.mono ⟨h.m, h.gs⟩ _ hd
    | true =>
      rw [hj] at hr
      simp only [cond_true, Option.some.injEq] at hr
      subst hr
      trivial
  | .rp j, s', y, hr, hd => by simp [SV.fz] at hr; subst hr; exact SV.Den.mono ⟨h.m, h.gs⟩ _ hd
  | .ful k ls, s', y, hr, hd => by simp [SV.fz] at hr; subst hr; exact SV.Den.mono ⟨h.m, h.gs⟩ _ hd
  | .junk, s', y, hr, hd => by simp [SV.fz] at hr; subst hr; trivial
theorem fzL_den {i : Nat} {q : Option (Nat × List (List D))} {ds : List D} {g g' : Gh} (h : Fz i q ds g g') : ∀ (l : List SV) {l' : List SV} {vs : List Value}, fzL i q ds l = some l' → SDenL g l vs → SDenL g' l' vs
  | [], l', vs, hr, hd => by simp [fzL] at hr; subst hr; exact hd
  | s :: r, l', vs, hr, ⟨x, v', e, h1, h2⟩ => by
    simp only [fzL, Option.bind_eq_some_iff, Option.some.injEq] at hr
    obtain ⟨s', hs, r', hr', rfl⟩ := hr
    exact ⟨x, v', e, SV.fz_den h s hs h1, fzL_den h r hr' h2⟩
end
theorem fzSl_den {i : Nat} {q : Option (Nat × List (List D))} {ds : List D} {g g' : Gh} (h : Fz i q ds g g') : ∀ {l l' : List (Nat × SV)}, fzSl i q ds l = some l' → ∀ {t : Nat} {y : Value}, (slk t l).Den g y → (slk t l').Den g' y
  | [], l', hr, t, y, hd => by simp [fzSl] at hr; subst hr; trivial
  | (k, s) :: r, l', hr, t, y, hd => by
    simp only [fzSl, Option.bind_eq_some_iff, Option.some.injEq] at hr
    obtain ⟨s', hs, r', hr', rfl⟩ := hr
    rw [slk_cons] at hd ⊢
    by_cases e : k = t
    · rw [if_pos e] at hd ⊢; exact SV.fz_den h s hs hd
    · rw [if_neg e] at hd ⊢; exact fzSl_den h hr' hd
theorem fzOb_get {i : Nat} {q : Option (Nat × List (List D))} {ds : List D} : ∀ {l l' : List Ob}, fzOb i q ds l = some l' → l'.length = l.length ∧ ∀ (j : Nat) o', l'[j]? = some o' → ∃ o, l[j]? = some o ∧ o.fz i q ds = some o'
  | [], l', h => by simp [fzOb] at h; subst h; simp
  | o :: r, l', h => by
    simp only [fzOb, Option.bind_eq_some_iff, Option.some.injEq] at h
    obtain ⟨a', h1, b', h2, rfl⟩ := h
    have ih := fzOb_get h2
    refine ⟨by simp [ih.1], fun j o' hj => ?_⟩
    cases j with
    | zero => simp at hj; subst hj; exact ⟨o, rfl, h1⟩
    | succ j => simpa using ih.2 j o' (by simpa using hj)
theorem Ob.fz_le {i : Nat} {q : Option (Nat × List (List D))} {ds : List D} {g g' : Gh} (h : Fz i q ds g g') {o o' : Ob} (hr : o.fz i q ds = some o') : ObLe g g' o o' ∧ (∀ j f dn cur, o' = .itI j f dn cur → o = o') ∧ (∀ f, o = .mapI f → o' = .mapI f) := by
  cases o <;> simp only [Ob.fz, Option.bind_eq_some_iff, Option.some.injEq] at hr
  case cells l ty =>
    obtain ⟨l', h1, rfl⟩ := hr
    exact ⟨⟨rfl, fun vs hd => fzL_den h l h1 hd⟩, (fun _ _ _ _ e => by cases e), (fun _ e => by cases e)⟩
  all_goals (subst hr; exact ⟨ObLe.refl ⟨h.m, h.gs⟩ _, (fun _ _ _ _ _ => rfl), (fun _ e => e)⟩)
section
variable {P : Program} {GL : Nat → List D} {n0 : Nat} {Pn : PnS}
/-! interfaces and panics -/
end
end Go.Vd
namespace Go.Vd
open Go Go.RowKit
/-- how a function is on its way out -/
inductive Um where
  | ret
  | pan (d : D) (r : Bool)
def Um.Den (m : Mem) : Um → FrameMode → Prop
  | .ret, u => u = .returning
  | .pan d r, u => ∃ v, d.Den m v ∧ u = .panicking [{ v := v, recovered := r }]
theorem Um.Den.ne {m : Mem} {U : Um} {u : FrameMode} (h : U.Den m u) : u ≠ .run := by
  match U, h with
  | .ret, h => cases h; simp
  | .pan d r, ⟨v, _, h2⟩ => subst h2; simp
/-- a deferred call: the function, and its arguments as it will see them -/
structure SDf where
  f : FuncId
  args : List SV
section
variable {P : Program} {GL : Nat → List D} {n0 n1 : Nat} {fn : Func} {Qf : Out → List Ob → Prop} {dfs : List SDf}
end
end Go.Vd
namespace Go.Vd
open Go Go.RowKit
section
variable {P : Program} {GL : Nat → List D} {o : Oper} {σ : St} {K : SV → List Nat → Prop}
theorem run_eq_bool {T : TypeId} (hp : P.underlying T = some .bool) (p q : Bool) (w : World) : (Op.equal T (.bool p) (.bool q)).run P w = .ok (p == q) w := by
  have h : ∀ d : Nat, (Op.equalIn (d + 1) T (.bool p) (.bool q)).run P w = .ok (p == q) w := fun d => by simp [Op.equalIn, run_underlying hp]
  simp [Op.equal, Op.maxDepth, h 9999]
theorem fl_bq_of {op : BinOp} {T T' : TypeId} {x y : Operand} {p q : Bool} (hp : P.underlying T = some .bool) (ho : o.op = .binOp op T x y T') (hx : evO GL σ.sl x = some (.d (.v (.bool p)))) (hy : evO GL σ.sl y = some (.d (.v (.bool q)))) (hop : op = .eql ∨ op = .neq) (hK : K (.d (.v (.bool (if op = .eql then p == q else !(p == q))))) []) : FloatR P GL o σ K := fl_of fun B g a w hr => by
  have hxe : a.eval x = .bool p := hr.evo hx
  have hye : a.eval y = .bool q := hr.evo hy
  refine ⟨.d (.v (.bool (if op = .eql then p == q else !(p == q)))), _, fun w' => ?_, rfl, hK⟩
  have he := run_eq_bool hp p q w'
  have hgd : ∀ op, (eqGuard op T x y (.bool p) (.bool q)).run P w' = .ok () w' := fun op => by unfold eqGuard; cases op <;> simp
  have hbo : ∀ op, op = .eql ∨ op = .neq → (binOp op T (.bool p) (.bool q)).run P w' = .ok (.bool (if op = .eql then p == q else !(p == q))) w' := fun op hop => by
    rcases hop with rfl | rfl <;> simp only [binOp, Sem.run_bind, he, Sem.run_pure, Result.andThen_ok, if_true] <;> rfl
  simp only [execOp, ho, hxe, hye, Sem.run_bind, hgd op, Result.andThen_ok, hbo op hop, Sem.run_pure]
theorem fl_bqeql {T T' : TypeId} {x y : Operand} {p q : Bool} (hp : P.underlying T = some .bool) (ho : o.op = .binOp .eql T x y T') (hx : evO GL σ.sl x = some (.d (.v (.bool p)))) (hy : evO GL σ.sl y = some (.d (.v (.bool q)))) (hK : K (.d (.v (.bool (p == q)))) []) : FloatR P GL o σ K := fl_bq_of hp ho hx hy (.inl rfl) hK
end
end Go.Vd
namespace Go.Vd
open Go Go.RowKit
theorem nrm : (∀ (p : Prop) [Decidable p], (decide p = true) = p) ∧ (∀ (p : Prop) [Decidable p], (decide p = false) = ¬ p) ∧ (∀ b : Bool, ((!b) = true) = (b = false)) ∧ (∀ b : Bool, ((!b) = false) = (b = true)) ∧ ((!true) = false) ∧ ((!false) = true)
    ∧ (∀ a b : Int, (¬ a < b) = (b ≤ a)) ∧ (∀ a b : Int, (¬ a ≤ b) = (b < a)) ∧ (∀ a b : Bool, ((a && b) = true) = (a = true ∧ b = true)) ∧ (∀ a b : Bool, ((a || b) = true) = (a = true ∨ b = true)) ∧ (∀ a b : Bool, ((a && b) = false) = (a = false ∨ b = false)) ∧ (∀ a b : Bool, ((a || b) = false) = (a = false ∧ b = false))
    ∧ ((false = true) = False) ∧ ((true = false) = False) ∧ ((¬ True) = False) ∧ ((¬ False) = True) ∧ (∀ [Decidable True], decide True = true) ∧ (∀ [Decidable False], decide False = false)
    ∧ (∀ p : Prop, (True ∧ p) = p) ∧ (∀ p : Prop, (p ∧ True) = p) ∧ (∀ p : Prop, (False ∧ p) = False) ∧ (∀ p : Prop, (p ∧ False) = False) ∧ (∀ p : Prop, (True ∨ p) = True) ∧ (∀ p : Prop, (p ∨ True) = True) ∧ (∀ p : Prop, (False ∨ p) = p) ∧ (∀ p : Prop, (p ∨ False) = p)
    ∧ (∀ b : Bool, (true && b) = b) ∧ (∀ b : Bool, (false && b) = false) ∧ (∀ b : Bool, (b && true) = b) ∧ (∀ b : Bool, (b && false) = false) ∧ (∀ b : Bool, (true || b) = true) ∧ (∀ b : Bool, (false || b) = b) ∧ (∀ b : Bool, (b || true) = true) ∧ (∀ b : Bool, (b || false) = b)
    ∧ (∀ n : Nat, (n : Int).toNat = n) ∧ (∀ n : Nat, ((n : Int) + 1).toNat = n + 1) := by
  repeat' apply And.intro
  all_goals first
    | rfl
    | (intros; simp; done)
    | (intro a b; exact propext Int.not_lt)
    | (intro a b; exact propext Int.not_le)
    | (intros; omega)
    | (intro a b; cases a <;> cases b <;> simp)
section
variable {P : Program} {GL : Nat → List D} {n0 : Nat} {Pn : PnS}
/-- a region at the head of the rest -/
theorem sr {id : Nat} {l : List Oper} {c2 : Code} {Q : Ex → St → Prop} {σ : St} (h : OpsR P GL n0 Pn l l (Ex.seq (fun σ' => Runs P GL n0 Pn c2 Q σ') Q) σ) : Runs P GL n0 Pn (.seq (.region id l.toArray false) c2) Q σ := runs_seq (runs_region h)
theorem nx {ops : List Oper} {c2 : Code} {Q : Ex → St → Prop} {σ : St} (h : Runs P GL n0 Pn c2 Q σ) : OpsR P GL n0 Pn ops [] (Ex.seq (fun σ' => Runs P GL n0 Pn c2 Q σ') Q) σ := ops_nil (seq_normal h)
theorem kp (L : List Nat) {c : Code} {Q : Ex → St → Prop} {n : Nat} {sl sl' : List (Nat × SV)} {ob : List Ob} (h : Runs P GL n0 Pn c Q ⟨n, sl', ob⟩) (hk : keepO sl L = some sl' := by exact rfl) : Runs P GL n0 Pn c Q ⟨n, sl, ob⟩ := runs_keep L hk h
theorem cd {c : Operand} {c1 c2 : Code} {Q : Ex → St → Prop} {σ : St} {b : Bool} (h1 : b = true → Runs P GL n0 Pn c1 Q σ) (h2 : b = false → Runs P GL n0 Pn c2 Q σ) (hc : evO GL σ.sl c = some (.d (.v (.bool b))) := by exact rfl) : Runs P GL n0 Pn (.cond c c1 c2) Q σ := runs_cond hc h1 h2
theorem cdf {c : Operand} {c1 c2 : Code} {Q : Ex → St → Prop} {σ : St} {b : Bool} (h2 : b = false → Runs P GL n0 Pn c2 Q σ) (h1 : b = true → Runs P GL n0 Pn c1 Q σ) (hc : evO GL σ.sl c = some (.d (.v (.bool b))) := by exact rfl) : Runs P GL n0 Pn (.cond c c1 c2) Q σ := runs_cond hc h1 h2
theorem asp {l : List Oper} {fuel : Nat} {listed : Array Bool} {L : List (Nat × Nat)} {Q : Ex → St → Prop} {n : Nat} {sl : List (Nat × SV)} {ob : List Ob} (d : Nat) {b : Bool}
    (h1 : b = true → AnyR P GL n0 Pn l fuel listed L Q ⟨n, (d, .d (.v (.bool true))) :: sl, ob⟩) (h2 : b = false → AnyR P GL n0 Pn l fuel listed L Q ⟨n, (d, .d (.v (.bool false))) :: sl, ob⟩) (hb : slo d sl = some (.d (.v (.bool b))) := by exact rfl) : AnyR P GL n0 Pn l fuel listed L Q ⟨n, sl, ob⟩ := any_split d hb h1 h2
theorem aspf {l : List Oper} {fuel : Nat} {listed : Array Bool} {L : List (Nat × Nat)} {Q : Ex → St → Prop} {n : Nat} {sl : List (Nat × SV)} {ob : List Ob} (d : Nat) {b : Bool}
    (h2 : b = false → AnyR P GL n0 Pn l fuel listed L Q ⟨n, (d, .d (.v (.bool false))) :: sl, ob⟩) (h1 : b = true → AnyR P GL n0 Pn l fuel listed L Q ⟨n, (d, .d (.v (.bool true))) :: sl, ob⟩) (hb : slo d sl = some (.d (.v (.bool b))) := by exact rfl) : AnyR P GL n0 Pn l fuel listed L Q ⟨n, sl, ob⟩ := any_split d hb h1 h2
/-- calls of which one knows what they answer -/
theorem ck {o : Oper} {n t : Nat} {sl sl1 : List (Nat × SV)} {ob ob1 obr obn ob' : List Ob} {K : St → Prop} {f : FuncId} {args : Array Operand} {ts : Array TypeId} {obc : List Ob} {argsc svs m : List SV} {r r' : SV} (hc : callable P f = true) (ho : o.op = .call { callee := .value (.func f), args := args, argTypes := ts }) (ha : evL GL sl args.toList = some svs) (ht : Tri P GL f obc argsc fun out ob2 => out = .ret r ∧ ob2 = ob') (ix : List Nat) (hra : renL ix argsc = some m) (hfit : ObFits ob ix obc ix) (hfa : FitL ob svs m)
    (hK : K ⟨n, (t, r') :: sl1, obn⟩) (hdst : o.dst = some t := by exact rfl) (htn : Nat.blt t n = true := by exact rfl) (hnd : nodupB ix = true := by exact rfl) (hno : noIt obc = true := by exact rfl) (hit : noItOns ix ob = true := by exact rfl)
    (e1 : renOb (names ix ob.length (ob'.length - ix.length)) ob' = some obr := by exact rfl) (e2 : kObL ix ob = some ob1 := by exact rfl) (e3 : mergeO ix ob1 obr = some obn := by exact rfl) (e4 : kSlL ix sl = some sl1 := by exact rfl) (e5 : r.ren (names ix ob.length (ob'.length - ix.length)) = some r' := by exact rfl) : OpR P GL n0 Pn (· ∈ ix) o ⟨n, sl, ob⟩ K :=
  op_callo hc ho ha hdst htn ht ix hfit hnd hno hit hra hfa (fun s ob2 hq => by
    obtain ⟨h1, rfl⟩ := hq
    cases h1
    exact ⟨_, _, _, _, _, e1, e2, e3, e4, e5, hK⟩) (fun s ob2 hq => by cases hq.1)
theorem cv {o : Oper} {n t : Nat} {sl : List (Nat × SV)} {ob : List Ob} {K : St → Prop} {f : FuncId} {args : Array Operand} {ts : Array TypeId} {argsc : List D} {svs : List SV} {d : D} (hc : callable P f = true) (ho : o.op = .call { callee := .value (.func f), args := args, argTypes := ts }) (ha : evL GL sl args.toList = some svs) (ht : TriD P GL f argsc (· = d)) (hfa : FitL ob svs (argsc.map .d)) (hK : K ⟨n, (t, .d d) :: sl, ob⟩)
    (hdst : o.dst = some t := by exact rfl) (htn : Nat.blt t n = true := by exact rfl) : OpR P GL n0 Pn (fun _ => False) o ⟨n, sl, ob⟩ K :=
  op_call hc ho ha hdst htn ht hfa fun d' hd => by cases hd; exact hK
/-! fits -/
theorem fir {ob : List Ob} {s : SV} {l m : List SV} (h : FitL ob l m) : FitL ob (s :: l) (s :: m) := .cons (.refl s) h
theorem fid {ob : List Ob} {s : SV} {d : D} {l m : List SV} (h : FitL ob l m) (hd : s.toD = some d := by exact rfl) : FitL ob (s :: l) (.d d :: m) := .cons (.toD hd) h
theorem fiz {ob : List Ob} : FitL ob [] [] := .nil
theorem boz {ob : List Ob} {ρ : List Nat} : ObFits ob ρ [] [] := .nil
theorem boc {ob : List Ob} {ρ : List Nat} {r : List Ob} {i : Nat} {is : List Nat} {lc l : List SV} {ty : TypeId} (hr : ObFits ob ρ r is) (hi : nthO i ob = some (.cells l ty) := by exact rfl) (h : renL ρ lc = some l := by exact rfl) : ObFits ob ρ (.cells lc ty :: r) (i :: is) := .cons hi (.cells h (FitL.rfl _)) hr
theorem boe {ob : List Ob} {ρ : List Nat} {r : List Ob} {i : Nat} {is : List Nat} {lc l m : List SV} {ty : TypeId} (hf : FitL ob l m) (hr : ObFits ob ρ r is) (hi : nthO i ob = some (.cells l ty) := by exact rfl) (h : renL ρ lc = some m := by exact rfl) : ObFits ob ρ (.cells lc ty :: r) (i :: is) := .cons hi (.cells h hf) hr
theorem bor {ob : List Ob} {ρ : List Nat} {r : List Ob} {i k : Nat} {is : List Nat} {e : TypeId} (hr : ObFits ob ρ r is) (hi : nthO i ob = some (.row e k) := by exact rfl) : ObFits ob ρ (.row e k :: r) (i :: is) := .cons hi .row hr
theorem bon {ob : List Ob} {ρ : List Nat} {r : List Ob} {i k : Nat} {is : List Nat} {e : TypeId} (hr : ObFits ob ρ r is) (hi : nthO i ob = some (.nilrow e k) := by exact rfl) : ObFits ob ρ (.row e k :: r) (i :: is) := .cons hi .nrow hr
theorem bonn {ob : List Ob} {ρ : List Nat} {r : List Ob} {i k : Nat} {is : List Nat} {e : TypeId} (hr : ObFits ob ρ r is) (hi : nthO i ob = some (.nilrow e k) := by exact rfl) : ObFits ob ρ (.nilrow e k :: r) (i :: is) := .cons hi .nnrow hr
theorem bob {ob : List Ob} {ρ : List Nat} {r : List Ob} {i k : Nat} {is : List Nat} {e : TypeId} {ls : List (List D)} {q : Option (Option Nat × Nat)} (hr : ObFits ob ρ r is) (hi : nthO i ob = some (.buf e k ls q) := by exact rfl) : ObFits ob ρ (.buf e k ls q :: r) (i :: is) := .cons hi .buf hr
theorem bonb {ob : List Ob} {ρ : List Nat} {r : List Ob} {i k : Nat} {is : List Nat} {e : TypeId} (hr : ObFits ob ρ r is) (hi : nthO i ob = some (.nilrow e k) := by exact rfl) : ObFits ob ρ (.buf e k [] none :: r) (i :: is) := .cons hi .nbuf hr
theorem bom {ob : List Ob} {ρ : List Nat} {r : List Ob} {i : Nat} {is : List Nat} {f : ByteArray → Option Int} (hr : ObFits ob ρ r is) (hi : nthO i ob = some (.mapI f) := by exact rfl) : ObFits ob ρ (.mapI f :: r) (i :: is) := .cons hi .mapI hr
theorem bod {ob : List Ob} {ρ : List Nat} {r : List Ob} {o : Ob} {i : Nat} {is : List Nat} (hr : ObFits ob ρ r is) (hi : nthO i ob = some o := by exact rfl) : ObFits ob ρ (.dead :: r) (i :: is) := .cons hi .dead hr
/-! slots -/
theorem slz {ob : List Ob} {ρ : List Nat} {sl : List (Nat × SV)} : SlFit ob ρ sl [] := .nil
theorem slx {ob : List Ob} {ρ : List Nat} {sl : List (Nat × SV)} {t : Nat} {s s' : SV} {r : List (Nat × SV)} (h : s.ren ρ = some s') (hf : Fit ob (slk t sl) s') (hr : SlFit ob ρ sl r) : SlFit ob ρ sl ((t, s) :: r) := .cons h hf hr
theorem sly {ob : List Ob} {ρ : List Nat} {sl : List (Nat × SV)} {t : Nat} {s : SV} {r : List (Nat × SV)} (hr : SlFit ob ρ sl r) (h : s.ren ρ = some (slk t sl) := by exact rfl) : SlFit ob ρ sl ((t, s) :: r) := .cons h (.refl _) hr
theorem mo {n : Nat} {sl sl' : List (Nat × SV)} {ob ob' : List Ob} {ρ : List Nat} (hob : ObFits ob ρ ob' ρ) (hsl : SlFit ob ρ sl sl') (hp : pre 0 n0 ρ = true := by exact rfl) (hnd : nodupB ρ = true := by exact rfl) (hno : noIt ob' = true := by exact rfl) : Meets n0 ⟨n, sl, ob⟩ ⟨n, sl', ob'⟩ ρ := meets_of hp hnd hno hob hsl
end
end Go.Vd
namespace Go.Vd
open Go Go.RowKit
section
variable {P : Program} {GL : Nat → List D} {n0 : Nat} {Pn : PnS}
theorem op_mapmake {o : Oper} {n t : Nat} {sl : List (Nat × SV)} {ob ob' : List Ob} {K : St → Prop} {T : Nat → Prop} {ty : TypeId} {k : Nat} (ho : o.op = .makeMap ty none) (hd : o.dst = some t) (ht : Nat.blt t n = true) (hl : ob.length = k) (hob : appO ob [.mapI fun _ => none] = some ob')
    (h : K ⟨n, (t, .map k) :: sl, ob'⟩) : OpR P GL n0 Pn T o ⟨n, sl, ob⟩ K := fun B hB g a w hr next Q hK hP => by
  subst hl
  rw [appO_eq hob] at h
  have hrun : (execOp a.eval o).run P w = .ok (.value (.map (some w.heap.size))) (w.alloc (.map #[] 0)) := by
    simp only [execOp, ho, Option.map_none, Sem.run_bind, Sem.run_pure, run_makeMap, Result.andThen_ok]
  have hmn : ∀ o, g.m w.heap.size o = none := fun o => by
    cases hx : g.m w.heap.size o with
    | none => rfl
    | some x => have := hr.store.sat_lt hx; omega
  obtain ⟨h1, h2⟩ := hr.new1 ((Fr.refl _ w).alloc (.map #[] 0)) (Mle.refl _) (fun b o x h1 h2 => by rw [h2] at h1; cases h1) (o' := .mapI fun _ => none) (pl := .loc w.heap.size) ⟨MapSI.made w, hmn⟩ (fun b hb => by simp only [blkOf, Option.some.injEq] at hb; omega) (fun i f dn cur e => by cases e)
  unfold Oper.wp
  rw [hrun]
  show next (a.put o.dst _) _
  rw [hd]
  exact hK _ _ _ _ (h1.put' (s := .map ob.length) ht ⟨w.heap.size, by rw [hr.store.len]; simp, rfl⟩) ⟨h2.1, fun i b o _ => h2.2 i b o (fun x => x)⟩ h
theorem op_lookup {o : Oper} {n t : Nat} {sl : List (Nat × SV)} {ob : List Ob} {K : St → Prop} {T : Nat → Prop} {ty k e : TypeId} {x y : Operand} {c : Bool} {i : Nat} {f : ByteArray → Option Int} {s : ByteArray} (hm : MapTy P ty k e) (ho : o.op = .lookup ty x y c) (hd : o.dst = some t) (ht : Nat.blt t n = true)
    (hx : evO GL sl x = some (.map i)) (hy : evO GL sl y = some (.d (.v (.string s)))) (hi : nthO i ob = some (.mapI f)) (h : K ⟨n, (t, .d (if c then .tup [.v (.int .i64 ((f s).getD 0)), .v (.bool (f s).isSome)] else .v (.int .i64 ((f s).getD 0)))) :: sl, ob⟩) : OpR P GL n0 Pn T o ⟨n, sl, ob⟩ K :=
  opr_look hd ht fun B g a w hr => by
    obtain ⟨b, hb, hbe⟩ := hr.evo hx
    have hye : a.eval y = .string s := hr.evo hy
    obtain ⟨hmap, _⟩ := hr.store.obs _ _ _ (nthO_eq hi) hb
    have hrun := hmap.lookup hm.under hm.key hm.zero s c
    refine ⟨_, if c then .tuple #[.int .i64 ((f s).getD 0), .bool (f s).isSome] else .int .i64 ((f s).getD 0), by simp only [execOp, ho, hbe, hye, Sem.run_bind, hrun, Result.andThen_ok, Sem.run_pure], ?_, h⟩
    cases c
    · rfl
    · exact ⟨_, rfl, _, _, rfl, rfl, _, _, rfl, rfl, rfl⟩
theorem op_lookup1 {o : Oper} {n t : Nat} {sl : List (Nat × SV)} {ob : List Ob} {K : St → Prop} {ty k e : TypeId} {x y : Operand} {i : Nat} {f : ByteArray → Option Int} {s : ByteArray} (hm : MapTy P ty k e) (ho : o.op = .lookup ty x y false) (hd : o.dst = some t) (ht : Nat.blt t n = true)
    (hx : evO GL sl x = some (.map i)) (hy : evO GL sl y = some (.d (.v (.string s)))) (hi : nthO i ob = some (.mapI f)) (h : K ⟨n, (t, .d (.v (.int .i64 ((f s).getD 0)))) :: sl, ob⟩) : OpR P GL n0 Pn (fun _ => False) o ⟨n, sl, ob⟩ K := op_lookup hm ho hd ht hx hy hi h
theorem op_lookup2 {o : Oper} {n t : Nat} {sl : List (Nat × SV)} {ob : List Ob} {K : St → Prop} {ty k e : TypeId} {x y : Operand} {i : Nat} {f : ByteArray → Option Int} {s : ByteArray} (hm : MapTy P ty k e) (ho : o.op = .lookup ty x y true) (hd : o.dst = some t) (ht : Nat.blt t n = true)
    (hx : evO GL sl x = some (.map i)) (hy : evO GL sl y = some (.d (.v (.string s)))) (hi : nthO i ob = some (.mapI f)) (h : K ⟨n, (t, .d (.tup [.v (.int .i64 ((f s).getD 0)), .v (.bool (f s).isSome)])) :: sl, ob⟩) : OpR P GL n0 Pn (fun _ => False) o ⟨n, sl, ob⟩ K := op_lookup hm ho hd ht hx hy hi h
theorem op_mapupd {o : Oper} {n : Nat} {sl : List (Nat × SV)} {ob ob' : List Ob} {K : St → Prop} {ty k e : TypeId} {x y z : Operand} {i : Nat} {f : ByteArray → Option Int} {s : ByteArray} {v : Int} (hm : MapTy P ty k e) (ho : o.op = .mapUpdate ty x y z) (hd : o.dst = none)
    (hx : evO GL sl x = some (.map i)) (hy : evO GL sl y = some (.d (.v (.string s)))) (hz : evO GL sl z = some (.d (.v (.int .i64 v)))) (hi : nthO i ob = some (.mapI f)) (hno : noItOn i ob = true) (hob : set1 i (.mapI (updM f s v)) ob = some ob') (h : K ⟨n, sl, ob'⟩) : OpR P GL n0 Pn (fun j => j = i) o ⟨n, sl, ob⟩ K := fun B hB g a w hr next Q hK hP => by
  obtain ⟨b, hb, hbe⟩ := hr.evo hx
  have hye : a.eval y = .string s := hr.evo hy
  have hze : a.eval z = .int .i64 v := hr.evo hz
  obtain ⟨hmap, hmn⟩ := hr.store.obs _ _ _ (nthO_eq hi) hb
  obtain ⟨w', hrun, hm', hfr⟩ := hmap.update hm.under hm.key s v
  have hrun2 : (execOp a.eval o).run P w = .ok .skip w' := by simp only [execOp, ho, hbe, hye, hze, Sem.run_bind, hrun, Result.andThen_ok, Sem.run_pure]
  unfold Oper.wp
  rw [hrun2]
  show next (a.put o.dst _) _
  rw [hd]
  obtain ⟨h1, h2⟩ := hr.upd1 (o' := .mapI (updM f s v)) (nthO_eq hi) hb rfl hfr ⟨hm', hmn⟩ (.inl rfl) (noItOn_get hno) (fun k f dn cur h => by cases h) hmn
  rw [← (set1_eq hob).1] at h1
  exact hK _ _ _ _ h1 h2 h
theorem op_delete {o : Oper} {n : Nat} {sl : List (Nat × SV)} {ob ob' : List Ob} {K : St → Prop} {ty k e : TypeId} {x y : Operand} {i : Nat} {f : ByteArray → Option Int} {s : ByteArray} (hm : MapTy P ty k e) (ho : o.op = .call { callee := .builtin .delete, args := #[x, y], argTypes := #[ty, k] }) (hd : o.dst = none)
    (hx : evO GL sl x = some (.map i)) (hy : evO GL sl y = some (.d (.v (.string s)))) (hi : nthO i ob = some (.mapI f)) (hno : noItOn i ob = true) (hob : set1 i (.mapI (delM f s)) ob = some ob') (h : K ⟨n, sl, ob'⟩) : OpR P GL n0 Pn (fun j => j = i) o ⟨n, sl, ob⟩ K := fun B hB g a w hr next Q hK hP => by
  obtain ⟨b, hb, hbe⟩ := hr.evo hx
  have hye : a.eval y = .string s := hr.evo hy
  obtain ⟨hmap, hmn⟩ := hr.store.obs _ _ _ (nthO_eq hi) hb
  obtain ⟨w', hrun, hm', hfr⟩ := hmap.delete (ty := o.type) hm.under hm.key s
  have hrun2 : (execOp a.eval o).run P w = .ok (.value (.tuple #[])) w' := by
    simp only [execOp, ho, resolve, Sem.run_bind, Sem.run_pure, Result.andThen_ok, invoke, builtin, List.map_toArray, List.map_cons, List.map_nil, hbe, hye, hrun]
  unfold Oper.wp
  rw [hrun2]
  show next (a.put o.dst _) _
  rw [hd]
  obtain ⟨h1, h2⟩ := hr.upd1 (o' := .mapI (delM f s)) (nthO_eq hi) hb rfl hfr ⟨hm', hmn⟩ (.inl rfl) (noItOn_get hno) (fun k f dn cur h => by cases h) hmn
  rw [← (set1_eq hob).1] at h1
  exact hK _ _ _ _ h1 h2 h
theorem op_range {o : Oper} {n t : Nat} {sl : List (Nat × SV)} {ob ob' : List Ob} {K : St → Prop} {T : Nat → Prop} {ty k e : TypeId} {x : Operand} {i j : Nat} {f : ByteArray → Option Int} (hm : MapTy P ty k e) (ho : o.op = .range ty x) (hd : o.dst = some t) (ht : Nat.blt t n = true)
    (hx : evO GL sl x = some (.map i)) (hi : nthO i ob = some (.mapI f)) (hl : ob.length = j) (hob : appO ob [.itI i f [] none] = some ob') (h : K ⟨n, (t, .blk j 0) :: sl, ob'⟩) : OpR P GL n0 Pn T o ⟨n, sl, ob⟩ K := fun B hB g a w hr next Q hK hP => by
  subst hl
  rw [appO_eq hob] at h
  obtain ⟨b, hb, hbe⟩ := hr.evo hx
  obtain ⟨hmap, _⟩ := hr.store.obs _ _ _ (nthO_eq hi) hb
  obtain ⟨w', m, hrun, hit, hfr⟩ := hmap.range hm.under
  have hrun2 : (execOp a.eval o).run P w = .ok (.value (.pointer (some ⟨w.heap.size, 0, none⟩))) w' := by simp only [execOp, ho, hbe, Sem.run_bind, hrun, Result.andThen_ok, Sem.run_pure]
  have hmn : ∀ o, g.m w.heap.size o = none := fun o => by
    cases hx : g.m w.heap.size o with
    | none => rfl
    | some x => have := hr.store.sat_lt hx; omega
  have hbn : (g.gs ++ [Pl.loc w.heap.size])[i]? = some (.loc b) := by rw [List.getElem?_append_left (List.getElem?_eq_some_iff.1 hb).1]; exact hb
  obtain ⟨h1, h2⟩ := hr.new1 hfr (Mle.refl _) (fun b o x h1 h2 => by rw [h2] at h1; cases h1) (o' := .itI i f [] none) (pl := .loc w.heap.size) ⟨b, hbn, ⟨m, hit⟩, (fun s n e => by cases e), hmn⟩ (fun b hb => by simp only [blkOf, Option.some.injEq] at hb; omega) (fun i' f' dn cur e => by cases e; exact nthO_eq hi)
  unfold Oper.wp
  rw [hrun2]
  show next (a.put o.dst _) _
  rw [hd]
  exact hK _ _ _ _ (h1.put' (s := .blk ob.length 0) ht (blk_den hr.store.len)) ⟨h2.1, fun i b o _ => h2.2 i b o (fun x => x)⟩ h
theorem op_next {o : Oper} {n t : Nat} {sl : List (Nat × SV)} {ob : List Ob} {K : St → Prop} {x : Operand} {i j : Nat} {f : ByteArray → Option Int} {dn : List (ByteArray × Int)} {cur : Option (ByteArray × Int)} (ho : o.op = .next x false) (hd : o.dst = some t) (ht : Nat.blt t n = true)
    (hx : evO GL sl x = some (.blk j 0)) (hj : nthO j ob = some (.itI i f dn cur)) (hno : noItOn j ob = true)
    (h1 : (∀ s n, f s = some n → (s, n) ∈ dn) → K ⟨n, (t, .d (.tup [.v (.bool false)])) :: sl, ob⟩)
    (h2 : ∀ s v, f s = some v → (s, v) ∉ dn → ∃ ob', set1 j (.itI i f ((s, v) :: dn) (some (s, v))) ob = some ob' ∧ K ⟨n, (t, .d (.tup [.v (.bool true), .v (.string s), .v (.int .i64 v)])) :: sl, ob'⟩) : OpR P GL n0 Pn (fun k => k = j) o ⟨n, sl, ob⟩ K := fun B hB g a w hr next Q hK hP => by
  obtain ⟨b, hb, hbe⟩ := hr.evo hx
  obtain ⟨c, hc, ⟨m, hit⟩, hat, hmn⟩ := hr.store.obs _ _ _ (nthO_eq hj) hb
  have hmi := hr.store.its _ _ _ _ _ (nthO_eq hj)
  rcases ItSI.next (P := P) (ty := o.type) hit with ⟨hrun, hall⟩ | ⟨s, v, m', w', hrun, hf, hnd, _, hit', hat', hfr⟩
  · have hrun2 : (execOp a.eval o).run P w = .ok (.value (.tuple #[.bool false])) w := by simp only [execOp, ho, hbe, Sem.run_bind, hrun, Result.andThen_ok, Sem.run_pure]
    unfold Oper.wp
    rw [hrun2]
    show next (a.put o.dst _) _
    rw [hd]
    exact hK _ _ _ _ (hr.put' (s := .d (.tup [.v (.bool false)])) ht ⟨_, rfl, _, _, rfl, rfl, rfl⟩) (Keep.refl _ _ _ _) (h1 hall)
  · obtain ⟨ob', hob, hk⟩ := h2 s v hf hnd
    have hrun2 : (execOp a.eval o).run P w = .ok (.value (.tuple #[.bool true, .string s, .int .i64 v])) w' := by simp only [execOp, ho, hbe, Sem.run_bind, hrun, Result.andThen_ok, Sem.run_pure]
    have hij : i ≠ j := fun e => by subst e; rw [nthO_eq hj] at hmi; cases hmi
    obtain ⟨h3, h4⟩ := hr.upd1 (o' := .itI i f ((s, v) :: dn) (some (s, v))) (nthO_eq hj) hb rfl hfr ⟨c, hc, ⟨m', hit'⟩, (fun s' n' e => by cases e; exact hat'), hmn⟩ (.inl rfl) (noItOn_get hno) (fun k f' dn' cur' h => by cases h; exact ⟨hij, hmi⟩) hmn
    unfold Oper.wp
    rw [hrun2]
    show next (a.put o.dst _) _
    rw [hd]
    rw [← (set1_eq hob).1] at h3
    exact hK _ _ _ _ (h3.put' (s := .d (.tup [.v (.bool true), .v (.string s), .v (.int .i64 v)])) ht ⟨_, rfl, _, _, rfl, rfl, _, _, rfl, rfl, _, _, rfl, rfl, rfl⟩) h4 hk
theorem op_entry {o : Oper} {n t : Nat} {sl : List (Nat × SV)} {ob : List Ob} {K : St → Prop} {T : Nat → Prop} {x : Operand} {i j : Nat} {f : ByteArray → Option Int} {dn : List (ByteArray × Int)} {s : ByteArray} {v : Int} (ho : o.op = .entry x) (hd : o.dst = some t) (ht : Nat.blt t n = true)
    (hx : evO GL sl x = some (.blk j 0)) (hj : nthO j ob = some (.itI i f dn (some (s, v)))) (h : K ⟨n, (t, .d (.tup [.v (.string s), .v (.int .i64 v)])) :: sl, ob⟩) : OpR P GL n0 Pn T o ⟨n, sl, ob⟩ K :=
  opr_look hd ht fun B g a w hr => by
    obtain ⟨b, hb, hbe⟩ := hr.evo hx
    obtain ⟨c, hc, _, hat, _⟩ := hr.store.obs _ _ _ (nthO_eq hj) hb
    have hrun := (hat s v rfl).entry (P := P)
    exact ⟨.d (.tup [.v (.string s), .v (.int .i64 v)]), .tuple #[.string s, .int .i64 v], by simp only [execOp, ho, hbe, Sem.run_bind, hrun, Result.andThen_ok, Sem.run_pure], ⟨_, rfl, _, _, rfl, rfl, _, _, rfl, rfl, rfl⟩, h⟩
/-- what objects stand under iterators -/
def itsL (ob : List Ob) : List Ob → Prop
  | [] => True
  | .itI i f _ _ :: r => nthO i ob = some (.mapI f) ∧ itsL ob r
  | .cells _ _ :: r => itsL ob r
  | .row _ _ :: r => itsL ob r
  | .nilrow _ _ :: r => itsL ob r
  | .buf _ _ _ _ :: r => itsL ob r
  | .mapI _ :: r => itsL ob r
  | .dead :: r => itsL ob r
theorem itsL_get {ob : List Ob} : ∀ {l : List Ob}, itsL ob l → ∀ (j i : Nat) f dn cur, l[j]? = some (.itI i f dn cur) → ob[i]? = some (.mapI f)
  | [], _, j, i, f, dn, cur, h => by simp at h
  | o :: r, h, j, i, f, dn, cur, hj => by
    cases j with
    | zero =>
      simp at hj; subst hj
      exact nthO_eq h.1
    | succ j =>
      have : itsL ob r := by cases o <;> first | exact h | exact h.2
      exact itsL_get this j i f dn cur (by simpa using hj)
theorem mei {n : Nat} {sl sl' : List (Nat × SV)} {ob ob' : List Ob} {ρ : List Nat} (hob : ObFits ob ρ ob' ρ) (hsl : SlFit ob ρ sl sl') (hits : itsL ob' ob') (hp : pre 0 n0 ρ = true := by exact rfl) (hnd : nodupB ρ = true := by exact rfl) : Meets n0 ⟨n, sl, ob⟩ ⟨n, sl', ob'⟩ ρ :=
  ⟨rfl, hp, hnd, itsL_get hits, hob, hsl⟩
theorem boi {ob : List Ob} {ρ : List Nat} {r : List Ob} {k i i' : Nat} {is : List Nat} {f : ByteArray → Option Int} {dn : List (ByteArray × Int)} {cur : Option (ByteArray × Int)} (hr : ObFits ob ρ r is) (hi : nthO i ob = some (.itI i' f dn cur) := by exact rfl) (hk : nthO k ρ = some i' := by exact rfl) : ObFits ob ρ (.itI k f dn none :: r) (i :: is) := .cons hi (.itI hk (.inr rfl)) hr
end
end Go.Vd
namespace Go.Vd
open Go Go.RowKit
def int (n : Int) : SV := .d (.v (.int .i64 n))
def strs (l : List ByteArray) : List (List D) := l.map fun s => [.v (.string s)]
def ints (l : List Int) : List (List D) := l.map fun n => [.v (.int .i64 n)]
abbrev strsD (l : List ByteArray) : D := .sl 1 (strs l)
abbrev intsD (l : List Int) : D := .sl 1 (ints l)
theorem strs_len (l : List ByteArray) : (strs l).length = l.length := by simp [strs]
theorem ints_len (l : List Int) : (ints l).length = l.length := by simp [ints]
theorem str_at {l : List ByteArray} {i : Nat} (h : i < l.length) : (strs l)[((i : Nat) : Int).toNat]? = some [.v (.string l[i])] := by simp [strs, h]
theorem int_at {l : List Int} {i : Nat} (h : i < l.length) : (ints l)[((i : Nat) : Int).toNat]? = some [.v (.int .i64 l[i])] := by simp [ints, h]
theorem strs_app (l : List ByteArray) (s : ByteArray) : strs l ++ [[.v (.string s)]] = strs (l ++ [s]) := by simp [strs]
theorem ints_app (l : List Int) (n : Int) : ints l ++ [[.v (.int .i64 n)]] = ints (l ++ [n]) := by simp [ints]
/-- among -/
def memB (name : ByteArray) (l : List ByteArray) : Bool := l.any fun s => decide (s = name)
theorem memB_true {name : ByteArray} {l : List ByteArray} {k : Nat} (h : k < l.length) (e : l[k] = name) : memB name l = true := by
  unfold memB; rw [List.any_eq_true]; exact ⟨_, List.getElem_mem h, by simpa using e⟩
theorem memB_iff {name : ByteArray} {l : List ByteArray} : memB name l = true ↔ name ∈ l := by
  unfold memB; rw [List.any_eq_true]
  exact ⟨fun ⟨x, hx, e⟩ => by simp at e; subst e; exact hx, fun h => ⟨name, h, by simp⟩⟩
theorem memB_false {name : ByteArray} {l : List ByteArray} (h : name ∉ l) : memB name l = false := by
  cases hb : memB name l with
  | false => rfl
  | true => exact absurd (memB_iff.1 hb) h
theorem not_mem_take_succ {name : ByteArray} {l : List ByteArray} {k : Nat} (h : k < l.length) (h1 : name ∉ l.take k) (h2 : ¬ l[k] = name) : name ∉ l.take (k + 1) := by
  rw [List.take_add_one, List.mem_append]
  rintro (h3 | h3)
  · exact h1 h3
  · simp [h] at h3; exact h2 h3.symm
/-! levels -/
inductive Lvl where
  | mk (kind : Int) (name : ByteArray) (args : List Lvl)
mutual
def Lvl.cells : Lvl → List D
  | .mk k s args => [.v (.int .i64 k), .v (.string s), .sl 3 (lvls args)]
def lvls : List Lvl → List (List D)
  | [] => []
  | l :: r => l.cells :: lvls r
end
def Lvl.d (l : Lvl) : D := .agg l.cells
theorem Lvl.cells_len : ∀ l : Lvl, l.cells.length = 3
  | .mk _ _ _ => rfl
theorem Lvl.case (l : Lvl) : ∃ k s args, l = .mk k s args := by cases l; exact ⟨_, _, _, rfl⟩
theorem lvls_len : ∀ l : List Lvl, (lvls l).length = l.length
  | [] => rfl
  | l :: r => by simp [lvls, lvls_len r]
theorem lvls_get : ∀ {l : List Lvl} {i : Nat} {x : Lvl}, l[i]? = some x → (lvls l)[i]? = some x.cells
  | [], i, x, h => by simp at h
  | l :: r, 0, x, h => by simp at h; subst h; simp [lvls]
  | l :: r, i + 1, x, h => by simpa [lvls] using lvls_get (l := r) (i := i) (by simpa using h)
theorem lvl_at {l : List Lvl} {i : Nat} {k : Int} {s : ByteArray} {args : List Lvl} (h : l[i]? = some (.mk k s args)) : (lvls l)[((i : Nat) : Int).toNat]? = some [.v (.int .i64 k), .v (.string s), .sl 3 (lvls args)] := by
  rw [Int.toNat_natCast, lvls_get h]; rfl
theorem lvls_app (l m : List Lvl) : lvls (l ++ m) = lvls l ++ lvls m := by
  induction l with
  | nil => rfl
  | cons a r ih => simp [lvls, ih]
theorem lvl_get {ls : List Lvl} {i : Nat} (h : i < ls.length) : ∃ k s args, ls[i]? = some (.mk k s args) := by
  have : ls[i]? = some ls[i] := by simp [h]
  rw [this]
  cases ls[i]; exact ⟨_, _, _, rfl⟩
mutual
def Lvl.size : Lvl → Nat
  | .mk _ _ args => 1 + sizes args
def sizes : List Lvl → Nat
  | [] => 0
  | l :: r => l.size + sizes r
end
theorem size_get : ∀ {ls : List Lvl} {i : Nat} {l : Lvl}, ls[i]? = some l → l.size ≤ sizes ls
  | [], i, l, h => by simp at h
  | a :: r, 0, l, h => by simp at h; subst h; simp [sizes]
  | a :: r, i + 1, l, h => by simp at h; have := size_get h; simp [sizes]; omega
theorem lvls_size : ∀ ls : List Lvl, ls.length ≤ sizes ls
  | [] => by simp
  | l :: r => by have := lvls_size r; cases l; simp [sizes, Lvl.size]; omega
mutual
/-- as they are written -/
def Lvl.same : Lvl → Lvl → Bool
  | .mk k s a, .mk k2 s2 a2 => decide (k = k2) && decide (s = s2) && sameL a a2
def sameL : List Lvl → List Lvl → Bool
  | [], [] => true
  | l :: r, l2 :: r2 => l.same l2 && sameL r r2
  | _, _ => false
end
theorem Lvl.same_eq (k : Int) (s : ByteArray) (a : List Lvl) (k2 : Int) (s2 : ByteArray) (a2 : List Lvl) : Lvl.same (.mk k s a) (.mk k2 s2 a2) = (decide (k = k2) && decide (s = s2) && sameL a a2) := by simp [Lvl.same]
theorem sameL_len : ∀ {a b : List Lvl}, sameL a b = true → a.length = b.length
  | [], [], _ => rfl
  | l :: r, l2 :: r2, h => by simp [sameL] at h; simp [sameL_len h.2]
  | [], _ :: _, h => by simp [sameL] at h
  | _ :: _, [], h => by simp [sameL] at h
theorem sameL_app : ∀ {a b : List Lvl} {x y : Lvl}, a.length = b.length → sameL (a ++ [x]) (b ++ [y]) = (sameL a b && x.same y)
  | [], [], x, y, _ => by simp [sameL]
  | l :: r, l2 :: r2, x, y, h => by simp [sameL, sameL_app (a := r) (b := r2) (by simpa using h), Bool.and_assoc]
  | [], _ :: _, _, _, h => by simp at h
  | _ :: _, [], _, _, h => by simp at h
theorem sameL_take {a b : List Lvl} {i : Nat} {x y : Lvl} (hx : a[i]? = some x) (hy : b[i]? = some y) : sameL (a.take (i + 1)) (b.take (i + 1)) = (sameL (a.take i) (b.take i) && x.same y) := by
  have h1 := (List.getElem?_eq_some_iff.1 hx).1
  have h2 := (List.getElem?_eq_some_iff.1 hy).1
  rw [List.take_add_one, List.take_add_one, hx, hy]
  exact sameL_app (by simp; omega)
theorem sameL_false : ∀ {a b : List Lvl} {i : Nat} {x y : Lvl}, a[i]? = some x → b[i]? = some y → x.same y = false → sameL a b = false
  | [], _, i, _, _, h, _, _ => by simp at h
  | _ :: _, [], i, _, _, _, h, _ => by simp at h
  | l :: r, l2 :: r2, 0, x, y, h1, h2, h3 => by simp at h1 h2; subst h1 h2; simp [sameL, h3]
  | l :: r, l2 :: r2, i + 1, x, y, h1, h2, h3 => by simp [sameL]; intro _; exact sameL_false (i := i) (by simpa using h1) (by simpa using h2) h3
mutual
/-- the reference's 'succs' -/
def Lvl.succs : Lvl → Nat
  | .mk k _ args => (if k = 1 then 1 else 0) + succsL args
def succsL : List Lvl → Nat
  | [] => 0
  | l :: r => l.succs + succsL r
end
mutual
theorem Lvl.succs_le : ∀ l : Lvl, l.succs ≤ l.size
  | .mk k s args => by simp only [Lvl.succs, Lvl.size]; have := succsL_le args; split <;> omega
theorem succsL_le : ∀ ls : List Lvl, succsL ls ≤ sizes ls
  | [] => by simp [succsL]
  | l :: r => by simp only [succsL, sizes]; have := l.succs_le; have := succsL_le r; omega
end
theorem succsL_append (l m : List Lvl) : succsL (l ++ m) = succsL l + succsL m := by
  induction l with
  | nil => simp [succsL]
  | cons a r ih => simp [succsL, ih]; omega
theorem succsL_take {l : List Lvl} {i : Nat} {a : Lvl} (h : l[i]? = some a) : succsL (l.take (i + 1)) = succsL (l.take i) + a.succs := by
  rw [List.take_add_one, h]; simp [succsL_append, succsL]
theorem succsL_take_le (l : List Lvl) (i : Nat) : succsL (l.take i) ≤ succsL l := by
  have : succsL l = succsL (l.take i) + succsL (l.drop i) := by rw [← succsL_append, List.take_append_drop]
  omega
mutual
/-- the reference's 'Params' -/
def Lvl.params : Lvl → List ByteArray → List ByteArray
  | .mk k s args, ah => if k = 4 then (if memB s ah then ah else ah ++ [s]) else paramsL args ah
def paramsL : List Lvl → List ByteArray → List ByteArray
  | [], ah => ah
  | l :: r, ah => paramsL r (l.params ah)
end
mutual
theorem Lvl.params_len : ∀ (l : Lvl) (ah : List ByteArray), (l.params ah).length ≤ ah.length + l.size
  | .mk k s args, ah => by
    have h := paramsL_len args ah
    simp only [Lvl.params, Lvl.size]
    split
    · split
      · omega
      · simp
    · omega
theorem paramsL_len : ∀ (ls : List Lvl) (ah : List ByteArray), (paramsL ls ah).length ≤ ah.length + sizes ls
  | [], ah => by simp [paramsL]
  | l :: r, ah => by
    have h1 := l.params_len ah
    have h2 := paramsL_len r (l.params ah)
    simp only [paramsL, sizes]; omega
end
theorem paramsL_append (l m : List Lvl) (ah : List ByteArray) : paramsL (l ++ m) ah = paramsL m (paramsL l ah) := by
  induction l generalizing ah with
  | nil => rfl
  | cons a r ih => simp [paramsL, ih]
theorem paramsL_take {l : List Lvl} {i : Nat} {a : Lvl} (h : l[i]? = some a) (ah : List ByteArray) : paramsL (l.take (i + 1)) ah = a.params (paramsL (l.take i) ah) := by
  rw [List.take_add_one, h]; simp [paramsL_append, paramsL]
theorem sizes_append (l m : List Lvl) : sizes (l ++ m) = sizes l + sizes m := by
  induction l with
  | nil => simp [sizes]
  | cons a r ih => simp [sizes, ih]; omega
theorem sizes_take {l : List Lvl} {i : Nat} {a : Lvl} (h : l[i]? = some a) : sizes (l.take (i + 1)) = sizes (l.take i) + a.size := by
  rw [List.take_add_one, h]; simp [sizes_append, sizes]
theorem sizes_take_le (l : List Lvl) (i : Nat) : sizes (l.take i) ≤ sizes l := by
  have : sizes l = sizes (l.take i) + sizes (l.drop i) := by rw [← sizes_append, List.take_append_drop]
  omega
end Go.Vd
namespace Go.Vd
open Go Go.RowKit
inductive Lev where
  | zero
  | succ (a : Lev)
  | max (a b : Lev)
  | imax (a b : Lev)
  | param (s : ByteArray)
def Lev.toLvl : Lev → Lvl
  | .zero => .mk 0 .empty []
  | .succ a => .mk 1 .empty [a.toLvl]
  | .max a b => .mk 2 .empty [a.toLvl, b.toLvl]
  | .imax a b => .mk 3 .empty [a.toLvl, b.toLvl]
  | .param s => .mk 4 s []
def Lev.size : Lev → Nat
  | .zero => 1
  | .succ a => 1 + a.size
  | .max a b => 1 + a.size + b.size
  | .imax a b => 1 + a.size + b.size
  | .param _ => 1
theorem Lev.size_toLvl : ∀ l : Lev, l.toLvl.size = l.size
  | .zero => rfl
  | .succ a => by simp [Lev.toLvl, Lvl.size, sizes, Lev.size, a.size_toLvl]
  | .max a b => by simp [Lev.toLvl, Lvl.size, sizes, Lev.size, a.size_toLvl, b.size_toLvl]; omega
  | .imax a b => by simp [Lev.toLvl, Lvl.size, sizes, Lev.size, a.size_toLvl, b.size_toLvl]; omega
  | .param _ => rfl
def Lev.succs : Lev → Nat
  | .zero => 0
  | .succ a => 1 + a.succs
  | .max a b => a.succs + b.succs
  | .imax a b => a.succs + b.succs
  | .param _ => 0
theorem Lev.succs_toLvl : ∀ l : Lev, l.toLvl.succs = l.succs
  | .zero => rfl
  | .succ a => by simp [Lev.toLvl, Lvl.succs, succsL, Lev.succs, a.succs_toLvl]
  | .max a b => by simp [Lev.toLvl, Lvl.succs, succsL, Lev.succs, a.succs_toLvl, b.succs_toLvl]
  | .imax a b => by simp [Lev.toLvl, Lvl.succs, succsL, Lev.succs, a.succs_toLvl, b.succs_toLvl]
  | .param _ => rfl
theorem Lev.succs_le : ∀ l : Lev, l.succs ≤ l.size
  | .zero => by simp [Lev.succs]
  | .succ a => by have := a.succs_le; simp only [Lev.succs, Lev.size]; omega
  | .max a b => by have := a.succs_le; have := b.succs_le; simp only [Lev.succs, Lev.size]; omega
  | .imax a b => by have := a.succs_le; have := b.succs_le; simp only [Lev.succs, Lev.size]; omega
  | .param _ => by simp [Lev.succs]
def Lev.params : Lev → List ByteArray → List ByteArray
  | .zero, ah => ah
  | .succ a, ah => a.params ah
  | .max a b, ah => b.params (a.params ah)
  | .imax a b, ah => b.params (a.params ah)
  | .param s, ah => if memB s ah then ah else ah ++ [s]
theorem Lev.params_toLvl : ∀ (l : Lev) (ah : List ByteArray), l.toLvl.params ah = l.params ah
  | .zero, ah => by simp [Lev.toLvl, Lvl.params, paramsL, Lev.params]
  | .succ a, ah => by simp [Lev.toLvl, Lvl.params, paramsL, Lev.params, a.params_toLvl]
  | .max a b, ah => by simp [Lev.toLvl, Lvl.params, paramsL, Lev.params, a.params_toLvl, b.params_toLvl]
  | .imax a b, ah => by simp [Lev.toLvl, Lvl.params, paramsL, Lev.params, a.params_toLvl, b.params_toLvl]
  | .param s, ah => by simp [Lev.toLvl, Lvl.params, Lev.params]
/-- the number of a parameter -/
def pval : List ByteArray → List Int → ByteArray → Int
  | p :: ps, n :: ns, s => if p = s then n else pval ps ns s
  | _, _, _ => 0
theorem pval_at : ∀ {ps : List ByteArray} {ns : List Int} {s : ByteArray} {i : Nat}, ps.length ≤ ns.length → s ∉ ps.take i → ps[i]? = some s → ∃ n, ns[i]? = some n ∧ pval ps ns s = n
  | [], _, _, i, _, _, h => by simp at h
  | p :: ps, [], s, i, h, _, _ => by simp at h
  | p :: ps, n :: ns, s, 0, h, _, h2 => by simp at h2; subst h2; exact ⟨n, by simp, by simp [pval]⟩
  | p :: ps, n :: ns, s, i + 1, h, h1, h2 => by
    simp only [List.take_succ_cons, List.mem_cons, not_or] at h1
    obtain ⟨m, hm, he⟩ := pval_at (ps := ps) (ns := ns) (s := s) (i := i) (by simpa using h) h1.2 (by simpa using h2)
    exact ⟨m, by simpa using hm, by simp only [pval]; rw [if_neg (fun e => h1.1 e.symm), he]⟩
theorem pval_none : ∀ {ps : List ByteArray} {ns : List Int} {s : ByteArray}, s ∉ ps → pval ps ns s = 0
  | [], _, _, _ => by simp [pval]
  | p :: ps, [], s, _ => by simp [pval]
  | p :: ps, n :: ns, s, h => by
    simp only [List.mem_cons, not_or] at h
    simp only [pval]; rw [if_neg (fun e => h.1 e.symm), pval_none h.2]
theorem pval_bound {B : Int} (hB : 0 ≤ B) : ∀ {ps : List ByteArray} {ns : List Int} {s : ByteArray}, (∀ n ∈ ns, -B ≤ n ∧ n ≤ B) → -B ≤ pval ps ns s ∧ pval ps ns s ≤ B
  | [], _, _, _ => by simp only [pval]; omega
  | p :: ps, [], s, _ => by simp only [pval]; omega
  | p :: ps, n :: ns, s, h => by
    simp only [pval]
    split
    · exact h n List.mem_cons_self
    · exact pval_bound hB fun m hm => h m (List.mem_cons_of_mem _ hm)
/-- what a level is worth -/
def Lev.worth (σ : ByteArray → Int) : Lev → Int
  | .zero => 0
  | .succ a => a.worth σ + 1
  | .max a b => Max.max (a.worth σ) (b.worth σ)
  | .imax a b => if b.worth σ = 0 then 0 else Max.max (a.worth σ) (b.worth σ)
  | .param s => σ s
theorem Lev.worth_bound {σ : ByteArray → Int} {B : Int} (hB : 0 ≤ B) (hσ : ∀ s, -B ≤ σ s ∧ σ s ≤ B) : ∀ l : Lev, -B ≤ l.worth σ ∧ l.worth σ ≤ B + l.size
  | .zero => by simp only [Lev.worth, Lev.size]; omega
  | .succ a => by have := a.worth_bound hB hσ; simp only [Lev.worth, Lev.size]; omega
  | .max a b => by have := a.worth_bound hB hσ; have := b.worth_bound hB hσ; simp only [Lev.worth, Lev.size]; omega
  | .imax a b => by have := a.worth_bound hB hσ; have := b.worth_bound hB hσ; simp only [Lev.worth, Lev.size]; split <;> omega
  | .param s => by have := hσ s; simp only [Lev.worth, Lev.size]; omega
/-- the reference's values of a parameter -/
def third (big : Int) (r : Nat) : Int := if r % 3 = 0 then 0 else if r % 3 = 1 then 1 else big
def digs (big : Int) (k n : Nat) : List Int := (List.range n).map fun j => third big (k / 3 ^ j)
theorem digs_succ (big : Int) (k n : Nat) : digs big k (n + 1) = digs big k n ++ [third big (k / 3 ^ n)] := by simp [digs, List.range_succ]
theorem digs_len (big : Int) (k n : Nat) : (digs big k n).length = n := by simp [digs]
theorem third_bound {big : Int} (h0 : 0 ≤ big) (h1 : big ≤ 1099511627776) (r : Nat) : -1099511627776 ≤ third big r ∧ third big r ≤ 1099511627776 := by
  unfold third; split
  · omega
  · split <;> omega
def Lev.ps (a b : Lev) : List ByteArray := b.params (a.params [])
def Lev.big (a b : Lev) : Int := 2 + a.succs + b.succs
def refAt (a b : Lev) (k : Nat) : Prop := a.worth (pval (a.ps b) (digs (a.big b) k (a.ps b).length)) ≤ b.worth (pval (a.ps b) (digs (a.big b) k (a.ps b).length))
instance (a b : Lev) (k : Nat) : Decidable (refAt a b k) := by unfold refAt; infer_instance
/-- the reference's 'Leq' -/
def refLeq (a b : Lev) : Bool := decide (∀ k, k < 3 ^ (a.ps b).length → refAt a b k)
/-! the reference's reader -/
def nameB (c : Int) (first : Bool) : Bool := decide ((97 ≤ c ∧ c ≤ 122) ∨ (65 ≤ c ∧ c ≤ 90) ∨ c = 95 ∨ (first = false ∧ ((48 ≤ c ∧ c ≤ 57) ∨ c = 46 ∨ c = 39)))
def isNameB (t : ByteArray) : Bool := decide (t ≠ .empty) && nameB (byteAt t 0) true
theorem size_pos_of_ne {t : ByteArray} (h : t ≠ .empty) : 0 < t.size := by
  rcases Nat.eq_zero_or_pos t.size with h0 | h0
  · refine absurd ?_ h
    apply ByteArray.ext
    exact Array.eq_empty_of_size_eq_zero h0
  · exact h0
/-- the end of a row of bytes of a sort -/
def spanB (f : Int → Bool) (s : ByteArray) (p : Nat) : Nat := if h : p < s.size ∧ f (byteAt s p) = true then spanB f s (p + 1) else p
termination_by s.size - p
decreasing_by omega
def wsB (c : Int) : Bool := decide (c = 32 ∨ c = 9 ∨ c = 10)
def digB (c : Int) : Bool := decide (48 ≤ c ∧ c ≤ 57)
/-- the reference's 'token': its text, its place, whether it is one -/
def tokR (s : ByteArray) (p0 : Nat) : ByteArray × Nat × Bool :=
  let p := spanB wsB s p0
  if p = s.size then (.empty, p, true) else
  let c := byteAt s p
  if c = 40 ∨ c = 41 then (s.extract p (p + 1), p, true) else
  if nameB c true then
    let q := spanB (nameB · false) s (p + 1)
    if q - p > 40 then (.empty, p, false) else (s.extract p q, p, true)
  else if c = 35 ∨ digB c then
    let q := spanB digB s (p + 1)
    let d := if c = 35 then p + 1 else p
    if q = d ∨ q - d > 5 ∨ (q - d > 1 ∧ byteAt s d = 48) then (.empty, p, false) else (s.extract p q, p, true)
  else (.empty, p, false)
theorem spanB_le (f : Int → Bool) (s : ByteArray) (p : Nat) (h : p ≤ s.size) : p ≤ spanB f s p ∧ spanB f s p ≤ s.size := by
  rw [spanB]
  split
  · rename_i h1
    have := spanB_le f s (p + 1) (by omega)
    omega
  · omega
termination_by s.size - p
theorem spanB_step {f : Int → Bool} {s : ByteArray} {p : Nat} (h : p < s.size) (hf : f (byteAt s p) = true) : spanB f s p = spanB f s (p + 1) := by
  rw [spanB]; simp [h, hf]
theorem spanB_end {f : Int → Bool} {s : ByteArray} {p : Nat} (h : ¬ (p < s.size ∧ f (byteAt s p) = true)) : spanB f s p = p := by
  rw [spanB]; simp only [h]; rfl
/-! what the reference's other functions compute -/
mutual
/-- the reference's 'SubstLevel' -/
def Lvl.subst (ps : List ByteArray) (ls : List Lvl) : Lvl → Lvl
  | .mk k s args => if k = 4 then (match ps.findIdx? (· = s) with | some i => ls.getD i (.mk k s args) | none => .mk k s args) else .mk k s (substL ps ls args)
def substL (ps : List ByteArray) (ls : List Lvl) : List Lvl → List Lvl
  | [] => []
  | l :: r => l.subst ps ls :: substL ps ls r
end
theorem substL_len (ps : List ByteArray) (ls : List Lvl) : ∀ a : List Lvl, (substL ps ls a).length = a.length
  | [] => rfl
  | l :: r => by simp [substL, substL_len ps ls r]
theorem substL_app (ps : List ByteArray) (ls : List Lvl) : ∀ a b : List Lvl, substL ps ls (a ++ b) = substL ps ls a ++ substL ps ls b
  | [], b => rfl
  | l :: r, b => by simp [substL, substL_app ps ls r b]
theorem substL_take {ps : List ByteArray} {ls a : List Lvl} {i : Nat} {x : Lvl} (h : a[i]? = some x) : substL ps ls (a.take (i + 1)) = substL ps ls (a.take i) ++ [x.subst ps ls] := by
  rw [List.take_add_one, h, substL_app]; rfl
theorem findIdx_some {ps : List ByteArray} {s : ByteArray} {i : Nat} (h : i < ps.length) (h1 : s ∉ ps.take i) (h2 : ps[i] = s) : ps.findIdx? (· = s) = some i := by
  rw [List.findIdx?_eq_some_iff_getElem]
  refine ⟨h, by simpa using h2, fun j hj => ?_⟩
  simp only [decide_eq_true_eq]
  intro e
  exact h1 (List.mem_iff_getElem.2 ⟨j, by simp; omega, by simpa using e⟩)
theorem findIdx_none {ps : List ByteArray} {s : ByteArray} (h : s ∉ ps) : ps.findIdx? (· = s) = none := by
  rw [List.findIdx?_eq_none_iff]
  intro x hx
  simp only [decide_eq_false_iff_not]
  intro e; subst e; exact h hx
/-- the reference's 'PrintLevel' -/
def Lev.print : Lev → ByteArray
  | .zero => ⟨#[48]⟩
  | .succ a => ⟨#[40, 115, 32]⟩ ++ a.print ++ ⟨#[41]⟩
  | .max a b => ⟨#[40]⟩ ++ ⟨#[109, 97, 120]⟩ ++ ⟨#[32]⟩ ++ a.print ++ ⟨#[32]⟩ ++ b.print ++ ⟨#[41]⟩
  | .imax a b => ⟨#[40]⟩ ++ ⟨#[105, 109, 97, 120]⟩ ++ ⟨#[32]⟩ ++ a.print ++ ⟨#[32]⟩ ++ b.print ++ ⟨#[41]⟩
  | .param s => s
theorem size_mk (a : Array UInt8) : (ByteArray.mk a).size = a.size := rfl
/-- the bytes of a level's names, and ten for each of its parts -/
def Lev.weight : Lev → Nat
  | .zero => 10
  | .succ a => 10 + a.weight
  | .max a b => 10 + a.weight + b.weight
  | .imax a b => 10 + a.weight + b.weight
  | .param s => 10 + s.size
theorem Lev.size_le_weight : ∀ l : Lev, l.size ≤ l.weight
  | .zero => by simp [Lev.size, Lev.weight]
  | .succ a => by have := a.size_le_weight; simp [Lev.size, Lev.weight]; omega
  | .max a b => by have := a.size_le_weight; have := b.size_le_weight; simp [Lev.size, Lev.weight]; omega
  | .imax a b => by have := a.size_le_weight; have := b.size_le_weight; simp [Lev.size, Lev.weight]; omega
  | .param s => by simp [Lev.size, Lev.weight]; omega
theorem Lev.print_size : ∀ l : Lev, l.print.size ≤ l.weight
  | .zero => by decide
  | .succ a => by
    have := a.print_size
    simp only [Lev.print, Lev.weight, ByteArray.size_append, size_mk, List.size_toArray, List.length_cons, List.length_nil]; omega
  | .max a b => by
    have := a.print_size
    have := b.print_size
    simp only [Lev.print, Lev.weight, ByteArray.size_append, size_mk, List.size_toArray, List.length_cons, List.length_nil]; omega
  | .imax a b => by
    have := a.print_size
    have := b.print_size
    simp only [Lev.print, Lev.weight, ByteArray.size_append, size_mk, List.size_toArray, List.length_cons, List.length_nil]; omega
  | .param s => by simp only [Lev.print, Lev.weight]; omega
mutual
def fitP : Lvl → Prop
  | .mk k s args => 0 ≤ k ∧ k ≤ 4 ∧ (k = 4 → s ≠ .empty) ∧ fitL args
def fitL : List Lvl → Prop
  | [] => True
  | l :: r => fitP l ∧ fitL r
end
end Go.Vd
namespace Go.Vd
open Go Go.RowKit
/-- a reader's place and its first fault -/
structure RS where
  p : Nat
  f : Option Nat
def fcode : Option Nat → Int
  | none => 0
  | some _ => 1
def fat : Option Nat → Int
  | none => 0
  | some a => a
def RS.fail (at' : Nat) (r : RS) : RS := match r.f with
  | none => ⟨r.p, some at'⟩
  | some a => ⟨r.p, some a⟩
def nextR (s : ByteArray) (r : RS) : ByteArray × RS :=
  let t := tokR s r.p
  if t.2.2 = false ∨ t.1 = .empty then (.empty, r.fail t.2.1)
  else match r.f with
    | none => (t.1, ⟨t.2.1 + t.1.size, none⟩)
    | some a => (.empty, ⟨r.p, some a⟩)
def takeR (s w : ByteArray) (r : RS) : RS :=
  let t := tokR s r.p
  if t.2.2 = false ∨ t.1 ≠ w then r.fail t.2.1
  else match r.f with
    | none => ⟨t.2.1 + t.1.size, none⟩
    | some a => ⟨r.p, some a⟩
def kindR (w : ByteArray) : Int :=
  if w = ⟨#[115]⟩ then 1 else if w = ⟨#[109, 97, 120]⟩ then 2 else if w = ⟨#[105, 109, 97, 120]⟩ then 3 else 0
def zeroL : Lvl := .mk 0 .empty []
def levelR : Nat → ByteArray → RS → Lvl × RS
  | 0, _, r => (zeroL, r)
  | n + 1, s, r =>
    match r.f with
    | some _ => (zeroL, r)
    | none =>
      let t := tokR s r.p
      if t.1 = ⟨#[48]⟩ then (zeroL, (nextR s r).2)
      else if isNameB t.1 then (.mk 4 t.1 [], (nextR s r).2)
      else if t.1 = ⟨#[40]⟩ then
        let r1 := (nextR s r).2
        let w := tokR s r1.p
        if kindR w.1 = 0 then (zeroL, r1.fail w.2.1)
        else
          let r2 := (nextR s r1).2
          let a := levelR n s r2
          if kindR w.1 = 1 then (.mk 1 .empty [a.1], takeR s ⟨#[41]⟩ a.2)
          else
            let b := levelR n s a.2
            (.mk (kindR w.1) .empty [a.1, b.1], takeR s ⟨#[41]⟩ b.2)
      else (zeroL, r.fail t.2.1)
def doneR (s : ByteArray) (r : RS) : RS :=
  let t := tokR s r.p
  if t.2.2 = false ∨ t.1 ≠ .empty then r.fail t.2.1 else r
/-- the reference's 'ParseLevel': the level, or the fault's code and place -/
def parseR (s : ByteArray) : Lvl × Int × Int :=
  if s.size > 20000 then (zeroL, 2, 0)
  else
    let a := levelR (s.size + 1) s ⟨0, none⟩
    match (doneR s a.2).f with
    | none => (a.1, 0, 0)
    | some at' => (zeroL, 1, at')
section
variable {s : ByteArray} {p i : Nat}
theorem tok_end (h : spanB wsB s p = spanB wsB s i) (hi : i = s.size) : tokR s p = (.empty, i, true) := by
  have h1 : spanB wsB s p = i := h.trans (spanB_end (by omega))
  unfold tokR; simp only [h1, hi]; rfl
theorem tok_par (h : spanB wsB s p = i) (hi : i < s.size) (hc : byteAt s i = 40 ∨ byteAt s i = 41) : tokR s p = (s.extract i (i + 1), i, true) := by
  unfold tokR; simp only [h]; rw [if_neg (by omega), if_pos hc]
theorem spanB_run {f : Int → Bool} {s : ByteArray} {p q : Nat} (h : spanB f s p = spanB f s q) (hn : (s.size : Int) ≤ q ∨ f (byteAt s q) = false) : spanB f s p = q := h.trans (spanB_end (by
  rintro ⟨h1, h2⟩
  rcases hn with h3 | h3
  · omega
  · rw [h3] at h2; cases h2))
theorem spanB_runD {s : ByteArray} {p q : Nat} (h : spanB digB s p = spanB digB s q) (hn : ¬ ((q : Int) < s.size ∧ 48 ≤ byteAt s q ∧ byteAt s q ≤ 57)) : spanB digB s p = q := h.trans (spanB_end (by
  rintro ⟨h1, h2⟩
  simp only [digB, decide_eq_true_eq] at h2
  omega))
theorem tok_nameNo {q : Nat} (h : spanB wsB s p = i) (hi : i < s.size) (hc : ¬ (byteAt s i = 40 ∨ byteAt s i = 41)) (hn : nameB (byteAt s i) true = true) (hq : spanB (nameB · false) s (i + 1) = q) (hl : 40 < q - i) : tokR s p = (.empty, i, false) := by
  unfold tokR; simp only [h]; rw [if_neg (by omega), if_neg hc, if_pos hn, hq, if_pos hl]
theorem tok_name {q : Nat} (h : spanB wsB s p = i) (hi : i < s.size) (hc : ¬ (byteAt s i = 40 ∨ byteAt s i = 41)) (hn : nameB (byteAt s i) true = true) (hq : spanB (nameB · false) s (i + 1) = q) (hl : ¬ 40 < q - i) : tokR s p = (s.extract i q, i, true) := by
  unfold tokR; simp only [h]; rw [if_neg (by omega), if_neg hc, if_pos hn, hq, if_neg hl]
theorem tok_numNo {q d : Nat} (h : spanB wsB s p = i) (hi : i < s.size) (hc : ¬ (byteAt s i = 40 ∨ byteAt s i = 41)) (hn : nameB (byteAt s i) true = false) (hd : byteAt s i = 35 ∨ (48 ≤ byteAt s i ∧ byteAt s i ≤ 57)) (hq : spanB digB s (i + 1) = q) (hdd : (if byteAt s i = 35 then i + 1 else i) = d) (hl : q = d ∨ 5 < q - d ∨ (1 < q - d ∧ byteAt s d = 48)) : tokR s p = (.empty, i, false) := by
  have h2 : byteAt s i = 35 ∨ digB (byteAt s i) = true := by simpa [digB] using hd
  unfold tokR; simp only [h]; rw [if_neg (by omega), if_neg hc, if_neg (by simp [hn]), if_pos h2, hq, hdd, if_pos hl]
theorem tok_num {q d : Nat} (h : spanB wsB s p = i) (hi : i < s.size) (hc : ¬ (byteAt s i = 40 ∨ byteAt s i = 41)) (hn : nameB (byteAt s i) true = false) (hd : byteAt s i = 35 ∨ (48 ≤ byteAt s i ∧ byteAt s i ≤ 57)) (hq : spanB digB s (i + 1) = q) (hdd : (if byteAt s i = 35 then i + 1 else i) = d) (hl : ¬ (q = d ∨ 5 < q - d ∨ (1 < q - d ∧ byteAt s d = 48))) : tokR s p = (s.extract i q, i, true) := by
  have h2 : byteAt s i = 35 ∨ digB (byteAt s i) = true := by simpa [digB] using hd
  unfold tokR; simp only [h]; rw [if_neg (by omega), if_neg hc, if_neg (by simp [hn]), if_pos h2, hq, hdd, if_neg hl]
theorem tok_none (h : spanB wsB s p = i) (hi : i < s.size) (hc : ¬ (byteAt s i = 40 ∨ byteAt s i = 41)) (hn : nameB (byteAt s i) true = false) (hd : ¬ (byteAt s i = 35 ∨ (48 ≤ byteAt s i ∧ byteAt s i ≤ 57))) : tokR s p = (.empty, i, false) := by
  have h2 : ¬ (byteAt s i = 35 ∨ digB (byteAt s i) = true) := by simpa [digB] using hd
  unfold tokR; simp only [h]; rw [if_neg (by omega), if_neg hc, if_neg (by simp [hn]), if_neg h2]
end
theorem tokR_at {s : ByteArray} {p : Nat} (hp : p ≤ s.size) : p ≤ (tokR s p).2.1 ∧ (tokR s p).2.1 + (tokR s p).1.size ≤ s.size := by
  have h1 := spanB_le wsB s p hp
  unfold tokR
  simp only
  split
  · rename_i h; exact ⟨h1.1, by simp; omega⟩
  · rename_i h
    have h2 : spanB wsB s p + 1 ≤ s.size := by omega
    split
    · exact ⟨h1.1, by simp [ByteArray.size_extract]; omega⟩
    · split
      · have h3 := spanB_le (nameB · false) s _ h2
        split
        · exact ⟨h1.1, by simp; omega⟩
        · exact ⟨h1.1, by simp [ByteArray.size_extract]; omega⟩
      · have h3 := spanB_le digB s _ h2
        repeat' split
        all_goals first
          | exact ⟨h1.1, by simp; omega⟩
          | exact ⟨h1.1, by simp [ByteArray.size_extract]; omega⟩
theorem tokR_empty {s : ByteArray} {p : Nat} : (tokR s p).2.2 = false → (tokR s p).1 = .empty := by
  unfold tokR
  dsimp only
  repeat' split
  all_goals first
    | (intro _; rfl)
    | (intro h; cases h)
theorem nextR_ok {s : ByteArray} {p : Nat} (ht : (tokR s p).1 ≠ .empty) : nextR s ⟨p, none⟩ = ((tokR s p).1, ⟨(tokR s p).2.1 + (tokR s p).1.size, none⟩) := by
  unfold nextR
  dsimp only
  rw [if_neg]
  rintro (h | h)
  · exact ht (tokR_empty h)
  · exact ht h
theorem RS.fail_p (at' : Nat) (r : RS) : (r.fail at').p = r.p := by obtain ⟨p, f⟩ := r; cases f <;> rfl
theorem nextR_le {s : ByteArray} {r : RS} (hp : r.p ≤ s.size) : r.p ≤ (nextR s r).2.p ∧ (nextR s r).2.p ≤ s.size := by
  have hat := tokR_at (s := s) hp
  obtain ⟨p, f⟩ := r
  simp only at hp hat
  unfold nextR
  dsimp only
  split
  · rw [RS.fail_p]; exact ⟨Nat.le_refl _, hp⟩
  · cases f with
    | none => dsimp only; exact ⟨by omega, hat.2⟩
    | some a => exact ⟨Nat.le_refl _, hp⟩
theorem takeR_le {s w : ByteArray} {r : RS} (hp : r.p ≤ s.size) : r.p ≤ (takeR s w r).p ∧ (takeR s w r).p ≤ s.size := by
  have hat := tokR_at (s := s) hp
  obtain ⟨p, f⟩ := r
  simp only at hp hat
  unfold takeR
  dsimp only
  split
  · rw [RS.fail_p]; exact ⟨Nat.le_refl _, hp⟩
  · cases f with
    | none => dsimp only; exact ⟨by omega, hat.2⟩
    | some a => exact ⟨Nat.le_refl _, hp⟩
theorem levelR_le {s : ByteArray} : ∀ (n : Nat) {r : RS}, r.p ≤ s.size → r.p ≤ (levelR n s r).2.p ∧ (levelR n s r).2.p ≤ s.size := by
  intro n
  induction n with
  | zero => intro r hp; exact ⟨Nat.le_refl _, hp⟩
  | succ n ih =>
    intro r hp
    obtain ⟨p, f⟩ := r
    simp only at hp
    cases f with
    | some a => exact ⟨Nat.le_refl _, hp⟩
    | none =>
      have h1 := nextR_le (s := s) (r := ⟨p, none⟩) hp
      have h2 := nextR_le (s := s) (r := (nextR s ⟨p, none⟩).2) h1.2
      have h3 := ih h2.2
      have h4 := ih h3.2
      simp only at h1
      simp only [levelR]
      split
      · exact h1
      · split
        · exact h1
        · split
          · split
            · rw [RS.fail_p]; exact h1
            · split
              · have h5 := takeR_le (s := s) (w := ⟨#[41]⟩) h3.2
                exact ⟨Nat.le_trans (m := (levelR n s (nextR s (nextR s ⟨p, none⟩).2).2).2.p) (by omega) h5.1, h5.2⟩
              · have h5 := takeR_le (s := s) (w := ⟨#[41]⟩) h4.2
                exact ⟨Nat.le_trans (m := (levelR n s (levelR n s (nextR s (nextR s ⟨p, none⟩).2).2).2).2.p) (by omega) h5.1, h5.2⟩
          · rw [RS.fail_p]; exact ⟨Nat.le_refl _, hp⟩
section
variable {s : ByteArray} {p n : Nat}
theorem levelR_zero (h5 : (tokR s p).1 = ⟨#[48]⟩) : levelR (n + 1) s ⟨p, none⟩ = (zeroL, (nextR s ⟨p, none⟩).2) := by simp only [levelR]; rw [if_pos h5]
theorem levelR_name (h5 : ¬ (tokR s p).1 = ⟨#[48]⟩) (h7 : isNameB (tokR s p).1 = true) : levelR (n + 1) s ⟨p, none⟩ = (.mk 4 (tokR s p).1 [], (nextR s ⟨p, none⟩).2) := by simp only [levelR]; rw [if_neg h5, if_pos h7]
theorem levelR_kind (h5 : ¬ (tokR s p).1 = ⟨#[48]⟩) (h7 : isNameB (tokR s p).1 = false) (h10 : (tokR s p).1 = ⟨#[40]⟩) (h21 : kindR (tokR s (nextR s ⟨p, none⟩).2.p).1 = 0) :
    levelR (n + 1) s ⟨p, none⟩ = (zeroL, (nextR s ⟨p, none⟩).2.fail (tokR s (nextR s ⟨p, none⟩).2.p).2.1) := by simp only [levelR]; rw [if_neg h5, if_neg (by simp [h7]), if_pos h10, if_pos h21]
theorem levelR_one (h5 : ¬ (tokR s p).1 = ⟨#[48]⟩) (h7 : isNameB (tokR s p).1 = false) (h10 : (tokR s p).1 = ⟨#[40]⟩) (h27 : kindR (tokR s (nextR s ⟨p, none⟩).2.p).1 = 1) :
    levelR (n + 1) s ⟨p, none⟩ = (.mk 1 .empty [(levelR n s (nextR s (nextR s ⟨p, none⟩).2).2).1], takeR s ⟨#[41]⟩ (levelR n s (nextR s (nextR s ⟨p, none⟩).2).2).2) := by
  simp only [levelR]; rw [if_neg h5, if_neg (by simp [h7]), if_pos h10, if_neg (by omega), if_pos h27]
theorem levelR_two (h5 : ¬ (tokR s p).1 = ⟨#[48]⟩) (h7 : isNameB (tokR s p).1 = false) (h10 : (tokR s p).1 = ⟨#[40]⟩) (h21 : ¬ kindR (tokR s (nextR s ⟨p, none⟩).2.p).1 = 0) (h27 : ¬ kindR (tokR s (nextR s ⟨p, none⟩).2.p).1 = 1) :
    levelR (n + 1) s ⟨p, none⟩ = (.mk (kindR (tokR s (nextR s ⟨p, none⟩).2.p).1) .empty [(levelR n s (nextR s (nextR s ⟨p, none⟩).2).2).1, (levelR n s (levelR n s (nextR s (nextR s ⟨p, none⟩).2).2).2).1], takeR s ⟨#[41]⟩ (levelR n s (levelR n s (nextR s (nextR s ⟨p, none⟩).2).2).2).2) := by
  simp only [levelR]; rw [if_neg h5, if_neg (by simp [h7]), if_pos h10, if_neg h21, if_neg h27]
theorem levelR_else (h5 : ¬ (tokR s p).1 = ⟨#[48]⟩) (h7 : isNameB (tokR s p).1 = false) (h10 : ¬ (tokR s p).1 = ⟨#[40]⟩) : levelR (n + 1) s ⟨p, none⟩ = (zeroL, (RS.mk p none).fail (tokR s p).2.1) := by
  simp only [levelR]; rw [if_neg h5, if_neg (by simp [h7]), if_neg h10]
end
theorem parseR_bad {s : ByteArray} (h : ¬ s.size > 20000) (hf : ¬ fcode (doneR s (levelR (s.size + 1) s ⟨0, none⟩).2).f = 0) :
    parseR s = (zeroL, fcode (doneR s (levelR (s.size + 1) s ⟨0, none⟩).2).f, fat (doneR s (levelR (s.size + 1) s ⟨0, none⟩).2).f) := by
  unfold parseR
  rw [if_neg h]
  simp only
  cases hf2 : (doneR s (levelR (s.size + 1) s ⟨0, none⟩).2).f with
  | none => rw [hf2] at hf; exact absurd rfl hf
  | some a => rfl
theorem parseR_good {s : ByteArray} (h : ¬ s.size > 20000) (hf : fcode (doneR s (levelR (s.size + 1) s ⟨0, none⟩).2).f = 0) :
    parseR s = ((levelR (s.size + 1) s ⟨0, none⟩).1, fcode (doneR s (levelR (s.size + 1) s ⟨0, none⟩).2).f, fat (doneR s (levelR (s.size + 1) s ⟨0, none⟩).2).f) := by
  unfold parseR
  rw [if_neg h]
  simp only
  cases hf2 : (doneR s (levelR (s.size + 1) s ⟨0, none⟩).2).f with
  | none => rfl
  | some a => rw [hf2] at hf; cases hf
end Go.Vd
