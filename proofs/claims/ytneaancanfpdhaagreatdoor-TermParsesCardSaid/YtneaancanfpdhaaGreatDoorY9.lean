/-
  What is proved here: rules for the operations that make or write memory; over any program.
-/
import Derived.Test.YtneaancanfpdhaaGreatDoorY8
namespace Go.Vd
open Go Go.RowKit

section
variable {P : Program} {GL : Nat → List D} {n0 : Nat} {Pn : PnS}

theorem RelG.put' {B : Bs} {n : Nat} {sl : List (Nat × SV)} {ob : List Ob} {g : Gh} {a : Act} {w : World} (h : RelG GL B ⟨n, sl, ob⟩ g a w) {t : Nat} (ht : Nat.blt t n = true) {s : SV} {x : Value} (hx : s.Den g x) : RelG GL B ⟨n, (t, s) :: sl, ob⟩ g (a.put (some t) x) w := h.put ht hx

theorem newcells_ok {g : Gh} {w : World} {cs : List SV} {vs : List Value} {ty : TypeId} {B : Bs} {σ : St} {a : Act} (hr : RelG GL B σ g a w) (hd : SDenL g cs vs) :
    RelG GL B ⟨σ.n, σ.sl, σ.ob ++ [.cells cs ty]⟩ ⟨g.m, g.gs ++ [.loc w.heap.size]⟩ a (w.alloc (.cells ⟨vs⟩ ty)) ∧ Keep (fun _ => False) σ.ob g w ⟨g.m, g.gs ++ [.loc w.heap.size]⟩ (w.alloc (.cells ⟨vs⟩ ty)) := by
  have hle : Gle g ⟨g.m, g.gs ++ [.loc w.heap.size]⟩ := ⟨Mle.refl _, fun i p hp => by
    show (g.gs ++ [_])[i]? = some p
    rw [List.getElem?_append_left (List.getElem?_eq_some_iff.1 hp).1]; exact hp⟩
  have hmn : ∀ o, g.m w.heap.size o = none := fun o => by
    cases hx : g.m w.heap.size o with
    | none => rfl
    | some x => have := hr.store.sat_lt hx; omega
  exact hr.new1 ((Fr.refl _ w).alloc _) (Mle.refl _) (fun b o x h1 h2 => by rw [h2] at h1; cases h1) ⟨vs, heap_alloc_new w _, SDenL.mono hle cs hd, hmn⟩ (fun b hb => by simp only [blkOf, Option.some.injEq] at hb; omega) (fun i f dn cur e => by cases e)
theorem blk_den {g : Gh} {ob : List Ob} {b : Nat} (hlen : ob.length = g.gs.length) : (SV.blk ob.length 0).Den ⟨g.m, g.gs ++ [.loc b]⟩ (.pointer (some ⟨b, 0, none⟩)) := ⟨b, by rw [hlen]; simp, rfl⟩

theorem op_alloc {o : Oper} {n t : Nat} {sl : List (Nat × SV)} {ob ob' : List Ob} {K : St → Prop} {T : Nat → Prop} {ty : TypeId} {ti : TI} {cs : List SV} {k : Nat} (hT : tiOf P ty = ti) (hz : ti.zok = true) (ho : o.op = .alloc ty) (hd : o.dst = some t) (ht : Nat.blt t n = true) (hm : mapVS ti.zero = some cs) (hl : ob.length = k) (hob : appO ob [.cells cs ty] = some ob')
    (h : K ⟨n, (t, .blk k 0) :: sl, ob'⟩) : OpR P GL n0 Pn T o ⟨n, sl, ob⟩ K := fun B hB g a w hr next Q hK hP => by
  subst hT hl
  rw [appO_eq hob] at h
  have hz' : ∃ i z, P.info? ty = some i ∧ i.zero = some z ∧ (tiOf P ty).zero = z.cells.toList := by
    simp only [tiOf, Option.isSome_iff_exists, Option.bind_eq_some_iff] at hz
    obtain ⟨z, i, hi, hzz⟩ := hz
    exact ⟨i, z, hi, hzz, by simp [tiOf, hi, hzz]⟩
  obtain ⟨i, z, hi, hzz, hze⟩ := hz'
  have hrun : (execOp a.eval o).run P w = .ok (.value (.pointer (some ⟨w.heap.size, 0, none⟩))) (w.alloc (.cells ⟨z.cells.toList⟩ ty)) := by
    simp [execOp, ho, Instr.alloc, zeroValue, typeInfo, hi, hzz, newVar, newRow]
  unfold Oper.wp
  rw [hrun]
  show next (a.put o.dst _) _
  rw [hd]
  obtain ⟨h1, h2⟩ := newcells_ok (ty := ty) hr (cs := cs) (vs := z.cells.toList) (by rw [mapVS_eq hm, hze]; exact SDenL.ofv _)
  exact hK _ _ _ _ (h1.put' (s := .blk ob.length 0) ht (blk_den hr.store.len)) ⟨h2.1, fun i b o _ => h2.2 i b o (fun x => x)⟩ h

theorem alc {o : Oper} {n t : Nat} {sl : List (Nat × SV)} {ob ob' : List Ob} {K : St → Prop} {T : Nat → Prop} {ty : TypeId} {ti : TI} {cs : List SV} {k : Nat} (hT : tiOf P ty = ti) (h : K ⟨n, (t, .blk k 0) :: sl, ob'⟩) (ho : o.op = .alloc ty := by exact rfl) (hd : o.dst = some t := by exact rfl) (hz : ti.zok = true := by exact rfl) (ht : Nat.blt t n = true := by exact rfl) (hm : mapVS ti.zero = some cs := by exact rfl) (hob : appO ob [.cells cs ty] = some ob' := by exact rfl) (hl : ob.length = k := by omega) : OpR P GL n0 Pn T o ⟨n, sl, ob⟩ K := op_alloc hT hz ho hd ht hm hl hob h
theorem op_box {o : Oper} {n t : Nat} {sl : List (Nat × SV)} {ob ob' : List Ob} {K : St → Prop} {T : Nat → Prop} {ty : TypeId} {x : Operand} {s : SV} {ti : TI} {cs : List SV} {k : Nat} (hT : tiOf P ty = ti) (ho : o.op = .box ty x) (hd : o.dst = some t) (ht : Nat.blt t n = true) (hx : evO GL sl x = some s) (hm : cellsO ti.agg s = some cs) (hl : ob.length = k) (hob : appO ob [.cells cs ty] = some ob')
    (h : K ⟨n, (t, .blk k 0) :: sl, ob'⟩) : OpR P GL n0 Pn T o ⟨n, sl, ob⟩ K := fun B hB g a w hr next Q hK hP => by
  subst hT hl
  rw [appO_eq hob] at h
  have hrun : (execOp a.eval o).run P w = .ok (.value (.pointer (some ⟨w.heap.size, 0, none⟩))) (w.alloc (.cells ⟨(a.eval x).cells.toList⟩ ty)) := by
    simp [execOp, ho, Instr.box, newVar, newRow]
  unfold Oper.wp
  rw [hrun]
  show next (a.put o.dst _) _
  rw [hd]
  obtain ⟨h1, h2⟩ := newcells_ok (ty := ty) hr (cs := cs) (vs := (a.eval x).cells.toList) (cellsO_den hm (hr.evo hx))
  exact hK _ _ _ _ (h1.put' (s := .blk ob.length 0) ht (blk_den hr.store.len)) ⟨h2.1, fun i b o _ => h2.2 i b o (fun x => x)⟩ h

theorem bx {o : Oper} {n t : Nat} {sl : List (Nat × SV)} {ob ob' : List Ob} {K : St → Prop} {T : Nat → Prop} {ty : TypeId} {x : Operand} {s : SV} {ti : TI} {cs : List SV} {k : Nat} (hT : tiOf P ty = ti) (h : K ⟨n, (t, .blk k 0) :: sl, ob'⟩) (ho : o.op = .box ty x := by exact rfl) (hd : o.dst = some t := by exact rfl) (hx : evO GL sl x = some s := by exact rfl) (ht : Nat.blt t n = true := by exact rfl) (hm : cellsO ti.agg s = some cs := by exact rfl) (hob : appO ob [.cells cs ty] = some ob' := by exact rfl) (hl : ob.length = k := by omega) : OpR P GL n0 Pn T o ⟨n, sl, ob⟩ K := op_box hT ho hd ht hx hm hl hob h
/-- no iterator goes over object i -/
def noItOn (i : Nat) : List Ob → Bool
  | [] => true
  | .itI j _ _ _ :: r => cond (Nat.beq j i) false (noItOn i r)
  | .cells _ _ :: r => noItOn i r
  | .row _ _ :: r => noItOn i r
  | .nilrow _ _ :: r => noItOn i r
  | .mapI _ :: r => noItOn i r
  | .dead :: r => noItOn i r
theorem noItOn_get {i : Nat} : ∀ {ob : List Ob}, noItOn i ob = true → ∀ (j : Nat) f dn cur, ob[j]? ≠ some (.itI i f dn cur)
  | [], _, j, f, dn, cur => by simp
  | o :: r, h, 0, f, dn, cur => by intro e; simp at e; subst e; simp [noItOn] at h
  | o :: r, h, j + 1, f, dn, cur => by
    have : noItOn i r = true := by
      cases o <;> simp only [noItOn] at h <;> try exact h
      rename_i j' _ _ _
      cases hb : Nat.beq j' i <;> rw [hb] at h
      · exact h
      · cases h
    simpa using noItOn_get this j f dn cur
def noItOns : List Nat → List Ob → Bool
  | [], _ => true
  | i :: r, ob => cond (noItOn i ob) (noItOns r ob) false
theorem noItOns_get : ∀ {ix : List Nat} {ob : List Ob}, noItOns ix ob = true → ∀ i ∈ ix, ∀ (j : Nat) f dn cur, ob[j]? ≠ some (.itI i f dn cur)
  | [], _, _, i, hi => by cases hi
  | k :: r, ob, h, i, hi => by
    simp only [noItOns] at h
    cases hb : noItOn k ob with
    | false => rw [hb] at h; cases h
    | true =>
      rw [hb] at h
      rcases List.mem_cons.1 hi with rfl | hi
      · exact noItOn_get hb
      · exact noItOns_get h i hi

theorem op_store {o : Oper} {n : Nat} {sl : List (Nat × SV)} {ob ob' : List Ob} {K : St → Prop} {ty ty0 : TypeId} {x y : Operand} {i off : Nat} {s : SV} {ti : TI} {cs l l' : List SV} (hT : tiOf P ty = ti) (hok : ti.ok = true) (ho : o.op = .store ty x y) (hd : o.dst = none) (hx : evO GL sl x = some (.blk i off)) (hy : evO GL sl y = some s)
    (hi : nthO i ob = some (.cells l ty0)) (hc : cellsO ti.agg s = some cs) (hsz : Nat.beq cs.length ti.size = true) (hone : allOneS cs = true) (hs : setO off cs l = some l') (hob : set1 i (.cells l' ty0) ob = some ob')
    (h : K ⟨n, sl, ob'⟩) : OpR P GL n0 Pn (fun j => j = i) o ⟨n, sl, ob⟩ K := fun B hB g a w hr next Q hK hP => by
  subst hT
  obtain ⟨b, hb, hpx⟩ := hr.evo hx
  have hi' := nthO_eq hi
  obtain ⟨vs, hh, hdl, hmn⟩ := hr.store.obs i _ _ hi' hb
  obtain ⟨ti, d, hinf, hdd, hsi, _⟩ := ti_ok hok
  have hcd := cellsO_den hc (hr.evo hy)
  have hcl := hcd.length
  have hll := hdl.length
  have hs2 := setO_eq hs
  have hsz' : cs.length = (tiOf P ty).size := by simpa using hsz
  have hsz3 : (a.eval y).cells.toList.length = ti.size := by omega
  have hst := run_storeCells_at (P := P) b off ty0 (a.eval y).cells.toList 0 ⟨vs⟩ w hh (by simp at hsz3 ⊢; omega) (allOneS_den hone hcd)
  have hrun : (execOp a.eval o).run P w = .ok .skip (w.setRow b ⟨vs.take off ++ (a.eval y).cells.toList ++ vs.drop (off + (a.eval y).cells.toList.length)⟩) := by
    have hsz2 : (a.eval y).cells.size = ti.size := by simpa using hsz3
    simp only [execOp, ho, hpx, Instr.storeAt, Instr.sureAddr, storeVar, sizeOf, typeInfo, Sem.run_bind, Sem.run_pure, Result.andThen_ok, run_program, hinf, hsz2]
    simp only [ne_eq, not_true_eq_false, if_false]
    simp only [Nat.add_zero] at hst
    rw [hst]
    simp
  unfold Oper.wp
  rw [hrun]
  show next (a.put o.dst _) _
  rw [hd]
  have hset := set1_eq hob
  obtain ⟨h1, h2⟩ := hr.upd1 (w' := w.setRow b ⟨vs.take off ++ (a.eval y).cells.toList ++ vs.drop (off + (a.eval y).cells.toList.length)⟩) (o' := .cells l' ty0) hi' hb rfl ⟨rfl, rfl, rfl, by simp, fun c _ hc => setRow_other w _ _ _ hc⟩
    ⟨_, setRow_heap w b _ _ _ _ hh, setO_den hs hdl hcd, hmn⟩ (.inl rfl) (fun j f dn cur e => by
      have h7 := hr.store.its j i f dn cur e
      rw [hi'] at h7; cases h7) (fun k f dn cur e => by cases e) hmn
  rw [hset.1] at h
  exact hK _ _ _ _ h1 h2 h

theorem sto {o : Oper} {n : Nat} {sl : List (Nat × SV)} {ob ob' : List Ob} {K : St → Prop} {ty ty0 : TypeId} {x y : Operand} {i off : Nat} {s : SV} {ti : TI} {cs l l' : List SV} (hT : tiOf P ty = ti) (h : K ⟨n, sl, ob'⟩) (ho : o.op = .store ty x y := by exact rfl) (hd : o.dst = none := by exact rfl) (hx : evO GL sl x = some (.blk i off) := by exact rfl) (hy : evO GL sl y = some s := by exact rfl) (hi : nthO i ob = some (.cells l ty0) := by exact rfl) (hok : ti.ok = true := by exact rfl) (hc : cellsO ti.agg s = some cs := by exact rfl) (hsz : Nat.beq cs.length ti.size = true := by exact rfl) (hone : allOneS cs = true := by exact rfl) (hs : setO off cs l = some l' := by exact rfl) (hob : set1 i (.cells l' ty0) ob = some ob' := by exact rfl) : OpR P GL n0 Pn (fun j => j = i) o ⟨n, sl, ob⟩ K := op_store hT hok ho hd hx hy hi hc hsz hone hs hob h
/-! slices -/
def mset (m : Mem) (b : Nat) (xs : List Value) : Mem := fun c o => if c = b then xs[o]? else m c o

/-- elements, as data -/
def elsO (GL : Nat → List D) (sl : List (Nat × SV)) (ag : Bool) : List Operand → Option (List (List D))
  | [] => some []
  | x :: r => (evO GL sl x).bind fun s => (cellsO ag s).bind fun cs => (toDL cs).bind fun ds => (elsO GL sl ag r).bind fun l => some (ds :: l)
def oneDL : List D → Bool
  | [] => true
  | d :: r => cond (oneD d) (oneDL r) false
def allEl (k : Nat) : List (List D) → Bool
  | [] => true
  | e :: r => cond (Nat.beq e.length k) (cond (oneDL e) (allEl k r) false) false
theorem oneDL_den {m : Mem} : ∀ {l : List D} {vs : List Value}, oneDL l = true → DenL m l vs → ∀ x ∈ vs, x.oneCell' = true
  | [], _, _, h, x, hx => by cases h; cases hx
  | s :: r, _, h, ⟨y, l', e, h1, h2⟩, x, hx => by
    subst e
    unfold oneDL at h
    cases hs : oneD s with
    | false => rw [hs] at h; cases h
    | true =>
      rw [hs] at h
      cases hx with
      | head => exact oneD_den hs h1
      | tail _ hx => exact oneDL_den h h2 x hx

theorem els_den {B : Bs} {σ : St} {g : Gh} {a : Act} {w : World} (hr : RelG GL B σ g a w) {ag : Bool} {k : Nat} : ∀ {xs : List Operand} {els : List (List D)}, elsO GL σ.sl ag xs = some els → allEl k els = true →
    els.length = xs.length ∧ (∀ v ∈ xs.map a.eval, v.cells.size = k) ∧ (∀ u ∈ (xs.map a.eval).flatMap fun v => v.cells.toList, u.oneCell' = true) ∧
      (∀ (m : Mem) (b off : Nat), Mle g.m m → (∀ i x, ((xs.map a.eval).flatMap fun v => v.cells.toList)[i]? = some x → m b (off + i) = some x) → DenR m k b off els)
  | [], els, h, _ => by simp [elsO] at h; subst h; exact ⟨rfl, by simp, by simp, fun _ _ _ _ _ => trivial⟩
  | x :: r, els, h, hall => by
    simp only [elsO, Option.bind_eq_some_iff, Option.some.injEq] at h
    obtain ⟨s, h1, cs, h2, ds, h3, l, h4, rfl⟩ := h
    simp only [allEl] at hall
    cases hb : Nat.beq ds.length k with
    | false => rw [hb] at hall; cases hall
    | true =>
    rw [hb] at hall
    cases hb2 : oneDL ds with
    | false => rw [hb2] at hall; cases hall
    | true =>
    rw [hb2] at hall
    simp only [cond_true] at hall
    have hk : ds.length = k := by simpa using hb
    obtain ⟨e1, e2, e3, e4⟩ := els_den hr h4 hall
    have hd := SDenL.toD _ (cellsO_den h2 (hr.evo h1)) h3
    have hlen := hd.length
    have hsz : (a.eval x).cells.size = k := by have : (a.eval x).cells.toList.length = k := by omega
                                               simpa using this
    refine ⟨by simp [e1], fun v hv => ?_, fun u hu => ?_, fun m b off hm hx => ?_⟩
    · simp only [List.map_cons, List.mem_cons] at hv
      rcases hv with rfl | hv
      · exact hsz
      · exact e2 v hv
    · simp only [List.map_cons, List.flatMap_cons, List.mem_append] at hu
      rcases hu with hu | hu
      · exact oneDL_den hb2 hd u hu
      · exact e3 u hu
    · simp only [List.map_cons, List.flatMap_cons] at hx
      refine ⟨⟨hk, DenC.of_vals (DenL.mono hm _ hd) fun i y hy => hx i y ?_⟩, e4 m b (off + k) hm fun i y hy => ?_⟩
      · rw [List.getElem?_append_left (List.getElem?_eq_some_iff.1 hy).1]; exact hy
      · have := hx (k + i) y (by rw [List.getElem?_append_right (by omega), show k + i - (a.eval x).cells.toList.length = i by omega]; exact hy)
        rwa [show off + (k + i) = off + k + i by omega] at this

def idxO : Nat → List Operand → Option (List (Nat × Operand))
  | _, [] => some []
  | k, x :: r => (idxO (k + 1) r).bind fun l => some ((k, x) :: l)
theorem idxO_eq : ∀ {xs : List Operand} {k : Nat} {l : List (Nat × Operand)}, idxO k xs = some l → l = (xs.zipIdx k).map fun p => (p.2, p.1)
  | [], k, l, h => by simp [idxO] at h; subst h; rfl
  | x :: r, k, l, h => by
    simp only [idxO, Option.bind_eq_some_iff, Option.some.injEq] at h
    obtain ⟨l', h1, rfl⟩ := h
    simp [idxO_eq h1]

theorem Mle.set {m : Mem} {b : Nat} {xs : List Value} (h : ∀ o x, m b o = some x → xs[o]? = some x) : Mle m (mset m b xs) := fun c o x hx => by
  unfold mset
  by_cases e : c = b
  · subst e; rw [if_pos rfl]; exact h o x hx
  · rw [if_neg e]; exact hx

theorem op_lit {o : Oper} {n t len k : Nat} {sl : List (Nat × SV)} {ob ob' : List Ob} {K : St → Prop} {T : Nat → Prop} {ty e : TypeId} {size bytes : Nat} {parts : Array (Nat × Operand)} (TS : SlTy P ty e size bytes) (xs : List Operand) {els : List (List D)} {ti : TI} (hT : tiOf P e = ti) (ho : o.op = .buildSlice ty len parts)
    (hd : o.dst = some t) (ht : Nat.blt t n = true) (hp : idxO 0 xs = some parts.toList) (hel : elsO GL sl ti.agg xs = some els) (hall : allEl size els = true) (hn : xs.length = len) (hsz : 0 < size) (hn0 : 0 < len) (hbig : len * size ≤ 16777216) (hl : ob.length = k) (hob : appO ob [.row e size] = some ob')
    (h : K ⟨n, (t, .own k size els) :: sl, ob'⟩) : OpR P GL n0 Pn T o ⟨n, sl, ob⟩ K := fun B hB g a w hr next Q hK hP => by
  subst hl
  rw [appO_eq hob] at h
  obtain ⟨e1, e2, e3, e4⟩ := els_den hr hel hall
  have hrun0 := run_lit (P := P) (ρ := a.eval) TS xs (xs.map a.eval) rfl (idxO_eq hp) (by simp [hn]) e2 hsz hn0 hbig w
  have hrun : (execOp a.eval o).run P w = .ok (.value (.slice (some ⟨w.heap.size, 0, none⟩) len len)) (w.alloc (.cells ⟨(xs.map a.eval).flatMap fun v => v.cells.toList⟩ e)) := by
    simp only [execOp, ho, Sem.run_bind]
    rw [hrun0]; rfl
  unfold Oper.wp
  rw [hrun]
  show next (a.put o.dst _) _
  rw [hd]
  generalize hfl : ((xs.map a.eval).flatMap fun v => v.cells.toList) = fl at *
  have hfll : fl.length = len * size := by rw [← hfl, flat_len _ e2]; simp [hn]
  have hm0 : ∀ o, g.m w.heap.size o = none := fun o => by
    cases hx : g.m w.heap.size o with
    | none => rfl
    | some x => have := hr.store.sat_lt hx; omega
  have hm : Mle g.m (mset g.m w.heap.size fl) := Mle.set fun o x hx => by rw [hm0] at hx; cases hx
  have hcell : ∀ o x, fl[o]? = some x → (w.alloc (.cells ⟨fl⟩ e)).cell? ⟨w.heap.size, o, none⟩ = some x := fun o x hx => by
    simp only [World.cell?, heap_alloc_new w (.cells ⟨fl⟩ e)]
    simpa using hx
  have hlen63 : len ≤ maxLen := by
    have : len ≤ len * size := Nat.le_mul_of_pos_right _ hsz
    simp only [maxLen]; omega
  have hrow : (w.alloc (.cells ⟨fl⟩ e)).ownsRow 0 e size (.slice (some ⟨w.heap.size, 0, none⟩) len len) len fl :=
    ⟨hfll, .inr ⟨w.heap.size, len, ⟨fl⟩, rfl, Nat.zero_le _, heap_alloc_new w _, Nat.le_refl _, hlen63, by simp [hfll], by rw [← hfll]; exact List.take_length⟩⟩
  have hA : ∀ b o x, mset g.m w.heap.size fl b o = some x → g.m b o = none → w.heap.size ≤ b ∧ (w.alloc (.cells ⟨fl⟩ e)).cell? ⟨b, o, none⟩ = some x ∧ x.oneCell' = true := fun b o x hx hn => by
    unfold mset at hx
    by_cases e5 : b = w.heap.size
    · subst e5
      rw [if_pos rfl] at hx
      exact ⟨Nat.le_refl _, hcell o x hx, e3 x (List.mem_of_getElem? hx)⟩
    · rw [if_neg e5, hn] at hx; cases hx
  have hB' : ∀ c, some w.heap.size = some c → ∀ o, len * size ≤ o → mset g.m w.heap.size fl c o = none := fun c hc o ho => by
    simp only [Option.some.injEq] at hc; subst hc
    unfold mset; rw [if_pos rfl, List.getElem?_eq_none (by omega)]
  obtain ⟨h1, h2⟩ := hr.new1 (w' := w.alloc (.cells ⟨fl⟩ e)) ((Fr.refl _ w).alloc _) hm hA (o' := .row e size) (pl := .row (some w.heap.size) len len) ⟨⟨fl, hrow⟩, hB'⟩ (fun b hb => by simp only [blkOf, Option.some.injEq] at hb; omega) (fun i f dn cur e => by cases e)
  refine hK _ _ _ _ (h1.put' (s := .own ob.length size els) ht ⟨some w.heap.size, len, ?_, ?_, ?_, fun _ => ⟨w.heap.size, rfl, e4 _ _ 0 hm fun i x hx => ?_⟩⟩) ⟨h2.1, fun i b o _ => h2.2 i b o (fun x => x)⟩ h
  · show (g.gs ++ [_])[ob.length]? = _
    have hl2 : ob.length = g.gs.length := hr.store.len
    rw [hl2, e1, hn]; simp
  · rw [e1, hn]; rfl
  · rw [e1, hn]; exact Nat.le_refl _
  · show mset _ _ _ _ _ = _
    unfold mset; rw [if_pos rfl, Nat.zero_add]; exact hx

theorem row_get {w : World} {e : TypeId} {k : Nat} {b : Nat} {n cap : Nat} {xs : List Value} (h : w.ownsRow 0 e k (.slice (some ⟨b, 0, none⟩) n cap) n xs) : n ≤ cap ∧ ∀ o x, xs[o]? = some x → w.cell? ⟨b, o, none⟩ = some x := by
  refine ⟨?_, fun o x hx => ?_⟩
  · rcases h.2 with ⟨h1, _⟩ | ⟨g0, c0, cur, h1, _, _, h4, _⟩
    · cases h1
    · simp only [Value.slice.injEq] at h1; omega
  · have := h.cells (g := b) rfl o x hx
    have hadd : (⟨b, 0, none⟩ : Addr).add o = ⟨b, o, none⟩ := by rw [addr_add]; simp
    rwa [hadd] at this

theorem denR_of_row {m m' : Mem} {k b c : Nat} (hm : Mle m m') : ∀ {ls : List (List D)} {off off' : Nat}, DenR m k b off ls → (∀ i x, i < ls.length * k → m b (off + i) = some x → m' c (off' + i) = some x) → DenR m' k c off' ls
  | [], _, _, _, _ => trivial
  | e :: r, off, off', ⟨⟨h0, h1⟩, h2⟩, h => by
    refine ⟨⟨h0, ?_⟩, denR_of_row hm h2 fun i x hi hx => ?_⟩
    · obtain ⟨vs, hv, hc⟩ := h1.vals
      have hl := hv.length
      refine DenC.of_vals (DenL.mono hm _ hv) fun i x hx => h i x ?_ (hc i x hx)
      have := (List.getElem?_eq_some_iff.1 hx).1
      simp only [List.length_cons, Nat.add_mul]; omega
    · have := h (k + i) x (by simp only [List.length_cons, Nat.add_mul]; omega) (by rwa [show off + (k + i) = off + k + i by omega])
      rwa [show off' + (k + i) = off' + k + i by omega] at this

theorem denR_len {m : Mem} {k b : Nat} : ∀ {ls : List (List D)} {off : Nat}, DenR m k b off ls → ∃ fl : List Value, fl.length = ls.length * k ∧ ∀ i x, fl[i]? = some x → m b (off + i) = some x
  | [], _, _ => ⟨[], by simp, by simp⟩
  | e :: r, off, ⟨⟨h0, h1⟩, h2⟩ => by
    obtain ⟨vs, hv, hc⟩ := h1.vals
    obtain ⟨fl, h3, h4⟩ := denR_len h2
    have hl := hv.length
    refine ⟨vs ++ fl, by simp [h3, hl, h0, Nat.add_mul]; omega, fun i x hx => ?_⟩
    rw [List.getElem?_append] at hx
    split at hx
    · exact hc i x hx
    · have := h4 _ x hx
      rwa [show off + k + (i - vs.length) = off + i by omega] at this

/-- a row of one's own goes on -/
theorem op_app_core {o : Oper} {n t i : Nat} {sl sl' : List (Nat × SV)} {ob ob1 ob' : List Ob} {K : St → Prop} {e : TypeId} {size : Nat} {s : Operand} {ls news : List (List D)} {or : Ob} 
    (hd : o.dst = some t) (ht : Nat.blt t n = true) (hs : evO GL sl s = some (.own i size ls) ∨ (evO GL sl s = some (.d (.v (.slice none 0 0))) ∧ ls = [] ∧ or = .nilrow e size)) (hi : nthO i ob = some or) (hor : or = .row e size ∨ or = .nilrow e size)
    (happ : ∀ B g a w, RelG GL B ⟨n, sl, ob⟩ g a w → ∀ xs, w.ownsRow 0 e size (a.eval s) ls.length xs → ∃ nv v' w', (execOp a.eval o).run P w = .ok (.value v') w' ∧ w'.ownsRow 0 e size v' (ls.length + news.length) (xs ++ nv) ∧ Fr (fun c => (a.eval s).ownBlock = some c ∧ v'.ownBlock = some c) w w' ∧
      (∃ k, v'.ownBlock = some k ∧ ((a.eval s).ownBlock = some k ∨ k = w.heap.size) ∧ k < w'.heap.size ∧ ∃ c, v' = .slice (some ⟨k, 0, none⟩) (ls.length + news.length) c) ∧ nv.length = news.length * size ∧ (∀ u ∈ nv, u.oneCell' = true) ∧
      ∀ (m : Mem) c off, Mle g.m m → (∀ (j : Nat) y, nv[j]? = some y → m c (off + j) = some y) → DenR m size c off news)
    (hsl : kSl i sl = some sl') (hob : kOb i ob = some ob1) (hob' : set1 i (.row e size) ob1 = some ob')
    (h : K ⟨n, (t, .own i size (ls ++ news)) :: sl', ob'⟩) : OpR P GL n0 Pn (fun j => j = i) o ⟨n, sl, ob⟩ K := fun B hB g a w hr next Q hK hP => by
  have hi' := nthO_eq hi
  rw [(set1_eq hob').1] at h
  -- the row as it is
  have hrow : ∃ b cap, g.gs[i]? = some (.row b cap ls.length) ∧ a.eval s = .slice (b.map fun b => ⟨b, 0, none⟩) ls.length cap ∧ (ls ≠ [] → ∃ c, b = some c ∧ DenR g.m size c 0 ls) := by
    rcases hs with hs | ⟨hs, rfl, rfl⟩
    · obtain ⟨b, cap, h1, h2, h3, h4⟩ := hr.evo hs
      exact ⟨b, cap, h1, h2, h4⟩
    · have hv : a.eval s = .slice none 0 0 := hr.evo hs
      obtain ⟨p, hp⟩ := hr.store.place hi'
      have hok := hr.store.obs _ _ _ hi' hp
      simp only [ObOk] at hok; subst hok
      exact ⟨none, 0, hp, hv, fun h => absurd rfl h⟩
  obtain ⟨b, cap, hpl, hval, hden⟩ := hrow
  have hown : ∃ xs, w.ownsRow 0 e size (a.eval s) ls.length xs ∧ (∀ c, b = some c → ∀ off, ls.length * size ≤ off → g.m c off = none) := by
    have hok := hr.store.obs _ _ _ hi' hpl
    rcases hor with rfl | rfl
    · obtain ⟨⟨xs, h1⟩, h2⟩ := hok
      exact ⟨xs, by rw [hval]; exact h1, h2⟩
    · simp only [ObOk, Pl.row.injEq] at hok
      obtain ⟨rfl, rfl, h3⟩ := hok
      refine ⟨[], ?_, fun c hc => by cases hc⟩
      rw [hval, h3]
      exact ⟨by simp, .inl ⟨rfl, rfl⟩⟩
  obtain ⟨xs, hown, hfree⟩ := hown
  obtain ⟨nv, v', w', hrun2, hrow', hfr0, ⟨k, hk1, hk2, hk3, c', rfl⟩, hnl, hnone, hden2⟩ := happ B g a w hr xs hown
  unfold Oper.wp
  rw [hrun2]
  show next (a.put o.dst _) _
  rw [hd]
  have hob2 : (a.eval s).ownBlock = b := by rw [hval]; cases b <;> rfl
  have hfr : Fr (fun c => b = some c) w w' := hfr0.mono fun c _ h => by rw [← hob2]; exact h.1
  rw [hob2] at hk2
  have hxl := hown.1
  have hcell' := (row_get hrow').2
  have hcell := fun c (hc : b = some c) => (row_get (b := c) (n := ls.length) (cap := cap) (xs := xs) (e := e) (k := size) (w := w) (by rw [hval, hc] at hown; exact hown)).2
  -- the data of the old block
  have hin : ∀ c, b = some c → ∀ off y, g.m c off = some y → xs[off]? = some y := fun c hc off y hy => by
    have hlt : off < ls.length * size := by
      rcases Nat.lt_or_ge off (ls.length * size) with h5 | h5
      · exact h5
      · rw [hfree c hc off h5] at hy; cases hy
    have h6 : xs[off]? = some xs[off] := List.getElem?_eq_getElem (by omega)
    have h7 := hcell c hc off _ h6
    rw [(hr.store.sat _ _ _ hy).1] at h7; cases h7
    exact h6
  have hnb : ∀ off, (b = some k → False) → g.m k off = none := fun off hbk => by
    rcases hk2 with h5 | h5
    · exact (hbk h5).elim
    · cases hx : g.m k off with
      | none => rfl
      | some y => have := hr.store.sat_lt hx; omega
  have hmle : Mle g.m (mset g.m k (xs ++ nv)) := Mle.set fun off y hy => by
    by_cases hbk : b = some k
    · have h6 := hin k hbk off y hy
      rw [List.getElem?_append_left (List.getElem?_eq_some_iff.1 h6).1]; exact h6
    · rw [hnb off (fun h => hbk h)] at hy; cases hy
  have hcor : (b = some k ∧ or = .row e size) ∨ w.heap.size ≤ k := by
    rcases hk2 with h5 | h5
    · rcases hor with h6 | rfl
      · exact .inl ⟨h5, h6⟩
      · have hok := hr.store.obs _ _ _ hi' hpl
        simp only [ObOk, Pl.row.injEq] at hok
        rw [hok.1] at h5; cases h5
    · exact .inr (by omega)
  have hfr2 : Fr (fun c => b = some c ∧ or = .row e size) w w' := ⟨hfr.os, hfr.tape, hfr.output, hfr.size, fun c hc hn => hfr.block c hc (fun hb => by
    rcases hor with h6 | rfl
    · exact hn ⟨hb, h6⟩
    · have hok := hr.store.obs _ _ _ hi' hpl
      simp only [ObOk, Pl.row.injEq] at hok
      rw [hok.1] at hb; cases hb)⟩
  have hA : ∀ d off y, mset g.m k (xs ++ nv) d off = some y → g.m d off = none → d = k := fun d off y hy hn => by
    unfold mset at hy
    by_cases e5 : d = k
    · exact e5
    · rw [if_neg e5, hn] at hy; cases hy
  have hB' : ∀ off y, mset g.m k (xs ++ nv) k off = some y → w'.cell? ⟨k, off, none⟩ = some y ∧ y.oneCell' = true := fun off y hy => by
    unfold mset at hy
    rw [if_pos rfl] at hy
    refine ⟨hcell' off y hy, ?_⟩
    rw [List.getElem?_append] at hy
    split at hy
    · rename_i hlt
      by_cases hl0 : ls = []
      · subst hl0; simp at hxl; subst hxl; simp at hlt
      · obtain ⟨c, hc, hdd⟩ := hden hl0
        obtain ⟨fl, hfl1, hfl2⟩ := denR_len hdd
        have h7 : fl[off]? = some fl[off] := List.getElem?_eq_getElem (by omega)
        have h8 := hfl2 off _ h7
        rw [Nat.zero_add] at h8
        have h9 := hin c hc off _ h8
        rw [hy] at h9; cases h9
        exact (hr.store.sat _ _ _ h8).2
    · exact hnone y (List.mem_of_getElem? hy)
  have hC : ∀ d off y, b = some d → g.m d off = some y → w'.cell? ⟨d, off, none⟩ = some y := fun d off y hd hy => by
    by_cases hdk : d = k
    · subst hdk
      have h6 := hin d hd off y hy
      exact hcell' off y (by rw [List.getElem?_append_left (List.getElem?_eq_some_iff.1 h6).1]; exact h6)
    · have hlt := hr.store.sat_lt hy
      have hold : w'.heap[d]? = w.heap[d]? := hfr0.block d hlt fun h => by
        have h9 := h.2
        simp only [Value.ownBlock, Option.some.injEq] at h9
        exact hdk h9.symm
      rw [World.cell?_of_block (w := w) hold]; exact (hr.store.sat _ _ _ hy).1
  have hD : ∀ off, (ls.length + news.length) * size ≤ off → mset g.m k (xs ++ nv) k off = none := fun off hoff => by
    unfold mset
    rw [if_pos rfl]
    exact List.getElem?_eq_none (by have : (ls.length + news.length) * size = ls.length * size + news.length * size := Nat.add_mul _ _ _
                                    rw [List.length_append]; omega)
  obtain ⟨h1, h2⟩ := hr.row1 (w' := w') (m' := mset g.m k (xs ++ nv)) (cap' := c') (n' := ls.length + news.length) hi' hor hpl hfr2 hmle hcor hA hB' hC ⟨_, hrow'⟩ hD hsl hob
  refine hK _ _ _ _ (h1.put' (s := .own i size (ls ++ news)) ht ⟨some k, c', ?_, ?_, ?_, fun _ => ⟨k, rfl, ?_⟩⟩) h2 h
  · show (g.gs.set i _)[i]? = _
    rw [List.getElem?_set_self (List.getElem?_eq_some_iff.1 hpl).1]; simp
  · simp
  · have := (row_get hrow').1; simpa using this
  · refine DenR.append ?_ ?_
    · by_cases hl0 : ls = []
      · subst hl0; trivial
      · obtain ⟨c, hc, hdd⟩ := hden hl0
        refine denR_of_row hmle hdd fun j y hj hy => ?_
        rw [Nat.zero_add] at hy ⊢
        have h6 := hin c hc j y hy
        show mset _ _ _ _ _ = _
        unfold mset
        rw [if_pos rfl, List.getElem?_append_left (List.getElem?_eq_some_iff.1 h6).1]; exact h6
    · refine hden2 _ _ _ hmle fun j y h6 => ?_
      show mset _ _ _ _ _ = _
      unfold mset
      rw [if_pos rfl, List.getElem?_append_right (by omega), show 0 + ls.length * size + j - xs.length = j by omega]; exact h6

/-- append of a piece of data to a row of one's own -/
theorem op_append_of {o : Oper} {n t i : Nat} {sl sl' : List (Nat × SV)} {ob ob1 ob' : List Ob} {K : St → Prop} {ty e : TypeId} {size bytes : Nat} {s x : Operand} {ls news : List (List D)} {or : Ob} (TS : SlTy P ty e size bytes) (ho : o.op = .call { callee := .builtin .append, args := #[s, x], argTypes := #[ty, ty] })
    (hd : o.dst = some t) (ht : Nat.blt t n = true) (hs : evO GL sl s = some (.own i size ls) ∨ (evO GL sl s = some (.d (.v (.slice none 0 0))) ∧ ls = [] ∧ or = .nilrow e size)) (hi : nthO i ob = some or) (hor : or = .row e size ∨ or = .nilrow e size)
    (hx : ∀ B g a w, RelG GL B ⟨n, sl, ob⟩ g a w → (D.sl size news).Den g.m (a.eval x))
    (hsz : 0 < size) (hne : news ≠ []) (h63 : ls.length + news.length ≤ maxLen) (hbytes : (ls.length + news.length) * bytes ≤ 140737488355328) (hsl : kSl i sl = some sl') (hob : kOb i ob = some ob1) (hob' : set1 i (.row e size) ob1 = some ob')
    (h : K ⟨n, (t, .own i size (ls ++ news)) :: sl', ob'⟩) : OpR P GL n0 Pn (fun j => j = i) o ⟨n, sl, ob⟩ K :=
  op_app_core (news := news) hd ht hs hi hor (fun B g a w hr xs hown => by
    obtain ⟨ax, capx, hvx, hlx, hdx⟩ := hx B g a w hr
    obtain ⟨bx, offx, rfl, hdx2⟩ := hdx hne
    obtain ⟨nv, hnl, hnv⟩ := denR_len hdx2
    have hm : 0 < news.length := List.length_pos_iff.2 hne
    have hncell : ∀ j u, nv[j]? = some u → w.cell? ((⟨bx, offx, none⟩ : Addr).add j) = some u := fun j u hu => by
      rw [addr_add]; exact (hr.store.sat _ _ _ (hnv j u hu)).1
    have hnone : ∀ u ∈ nv, u.oneCell' = true := fun u hu => by
      obtain ⟨j, hj⟩ := List.getElem?_of_mem hu
      exact (hr.store.sat _ _ _ (hnv j u hj)).2
    obtain ⟨v', w', hrun, hrow', hfr0, k, hk1, hk2, hk3, c', rfl⟩ := run_app (P := P) (ty := o.type) TS hsz hown (a := ⟨bx, offx, none⟩) (c := capx) hnl hm hncell hnone h63 hbytes
    refine ⟨nv, _, w', ?_, hrow', hfr0, ⟨k, hk1, hk2, hk3, c', rfl⟩, hnl, hnone, fun m c off hmm hj => denR_of_row hmm hdx2 fun i y hi hy => ?_⟩
    · unfold execOp
      simp only [ho, resolve, invoke, builtin, Sem.run_bind, Sem.run_pure, Result.andThen_ok, List.map_toArray, List.map_cons, List.map_nil, hvx, hrun]
    · have h7 : nv[i]? = some nv[i] := List.getElem?_eq_getElem (by omega)
      have := hnv i _ h7
      rw [hy] at this; cases this; exact hj i _ h7) hsl hob hob' h

/-- append of data to a row of one's own -/
theorem op_append {o : Oper} {n t i : Nat} {sl sl' : List (Nat × SV)} {ob ob1 ob' : List Ob} {K : St → Prop} {ty e : TypeId} {size bytes : Nat} {s x : Operand} {ls news : List (List D)} {or : Ob} {sx : SV} (TS : SlTy P ty e size bytes) (ho : o.op = .call { callee := .builtin .append, args := #[s, x], argTypes := #[ty, ty] })
    (hd : o.dst = some t) (ht : Nat.blt t n = true) (hs : evO GL sl s = some (.own i size ls)) (hx : evO GL sl x = some sx) (hxD : sx.toD = some (.sl size news)) (hi : nthO i ob = some or) (hor : or = .row e size ∨ or = .nilrow e size)
    (hsz : 0 < size) (hne : news ≠ []) (h63 : ls.length + news.length ≤ maxLen ∧ (ls.length + news.length) * bytes ≤ 140737488355328) (hsl : kSl i sl = some sl') (hob : kOb i ob = some ob1) (hob' : set1 i (.row e size) ob1 = some ob')
    (h : K ⟨n, (t, .own i size (ls ++ news)) :: sl', ob'⟩) : OpR P GL n0 Pn (fun j => j = i) o ⟨n, sl, ob⟩ K :=
  op_append_of TS ho hd ht (.inl hs) hi hor (fun B g a w hr => SV.Den.toD _ (hr.evo hx) hxD) hsz hne h63.1 h63.2 hsl hob hob' h

theorem keep_new {T : Nat → Prop} {ob ob' : List Ob} {g g' g'' : Gh} {w w' w'' : World} (h1 : Keep (fun _ => False) ob g w g' w') (h2 : Keep T ob' g' w' g'' w'') (hob : ∀ (i : Nat) o, ob[i]? = some o → ob'[i]? = some o ∧ ¬ T i) : Keep (fun _ => False) ob g w g'' w'' :=
  ⟨h1.1.trans h2.1, fun i b o _ e1 e2 e3 => by
    obtain ⟨f1, f2⟩ := h1.2 i b o (fun x => x) e1 e2 e3
    obtain ⟨f3, f4⟩ := h2.2 i b o (hob i o e1).2 (hob i o e1).1 f1 e3
    exact ⟨f3, f4.trans f2⟩⟩

/-- a nil row of one's own is had at any time -/
theorem op_nilrow {o : Oper} {n : Nat} {sl : List (Nat × SV)} {ob ob' : List Ob} {K : St → Prop} {T T' : Nat → Prop} (e : TypeId) (k : Nat) (hob : appO ob [.nilrow e k] = some ob') (hT : ∀ i, i < ob.length → T' i → T i) (h : OpR P GL n0 Pn T' o ⟨n, sl, ob'⟩ K) : OpR P GL n0 Pn T o ⟨n, sl, ob⟩ K := fun B hB g a w hr next Q hK hP => by
  rw [appO_eq hob] at h
  obtain ⟨h1, h2⟩ := hr.new1 (w' := w) (Fr.refl _ w) (Mle.refl _) (fun b o x h1 h2 => by rw [h2] at h1; cases h1) (o' := .nilrow e k) (pl := .row none 0 0) rfl (fun b hb => by simp [blkOf] at hb) (fun i f dn cur e => by cases e)
  refine h B hB _ a w h1 next Q (fun σ' g' a' w' hr' hk hK' => hK σ' g' a' w' hr' ⟨h2.1.trans hk.1, fun i b o hi e1 e2 e3 => ?_⟩ hK') hP
  obtain ⟨f1, f2⟩ := h2.2 i b o (fun x => x) e1 e2 e3
  have hil := (List.getElem?_eq_some_iff.1 e1).1
  exact hk.2 i b o (fun hx => hi (hT i hil hx)) (by show (ob ++ [_])[i]? = _; rw [List.getElem?_append_left hil]; exact e1) f1 e3
/-- append to nil -/
theorem op_append_nil {o : Oper} {n t k : Nat} {sl sl' : List (Nat × SV)} {ob ob1 ob2 ob' : List Ob} {K : St → Prop} {ty e : TypeId} {size bytes : Nat} {s x : Operand} {news : List (List D)} {sx : SV} (TS : SlTy P ty e size bytes) (ho : o.op = .call { callee := .builtin .append, args := #[s, x], argTypes := #[ty, ty] })
    (hd : o.dst = some t) (ht : Nat.blt t n = true) (hs : evO GL sl s = some (.d (.v (.slice none 0 0)))) (hx : evO GL sl x = some sx) (hxD : sx.toD = some (.sl size news)) (hl : ob.length = k) (hob0 : appO ob [.nilrow e size] = some ob1) (hi : nthO k ob1 = some (.nilrow e size))
    (hsz : 0 < size) (hne : news ≠ []) (h63 : news.length ≤ maxLen ∧ news.length * bytes ≤ 140737488355328) (hsl : kSl k sl = some sl') (hob : kOb k ob1 = some ob2) (hob' : set1 k (.row e size) ob2 = some ob')
    (h : K ⟨n, (t, .own k size news) :: sl', ob'⟩) {T : Nat → Prop} : OpR P GL n0 Pn T o ⟨n, sl, ob⟩ K :=
  op_nilrow (T' := fun j => j = k) e size hob0 (fun i hi hx => by omega) (op_append_of (ls := []) TS ho hd ht (.inr ⟨hs, rfl, rfl⟩) hi (.inr rfl) (fun B g a w hr => SV.Den.toD _ (hr.evo hx) hxD) hsz hne (by simpa using h63.1) (by simpa using h63.2) hsl hob hob' h)

/-! calls, as they are mostly -/
/-- a call by a contract of data alone -/
theorem op_call_d {o : Oper} {σ : St} {K : St → Prop} {T : Nat → Prop} {f : FuncId} {argsc : List D} {svs : List SV} {Q : D → Prop} (hrun : ∀ B g a w, RelG GL B σ g a w → ∃ vs, (execOp a.eval o).run P w = .ok (.enter f ⟨vs⟩) w ∧ SDenL g svs vs) (hfa : FitL σ.ob svs (argsc.map .d))
    (ht : Tri P GL f [] (argsc.map .d) fun out ob' => ob' = [] ∧ ∃ d, out = .ret (.d d) ∧ Q d) (hret : ∀ d, Q d → (∀ t, o.dst = some t → Nat.blt t σ.n = true ∧ K ⟨σ.n, (t, .d d) :: σ.sl, σ.ob⟩) ∧ (o.dst = none → K σ)) : OpR P GL n0 Pn T o σ K := fun B hB g a w hr next Q' hK hP => by
  obtain ⟨vs, hrun, hd⟩ := hrun B g a w hr
  have hren : ∀ l : List D, renL [] (l.map .d) = some (l.map .d) := by
    intro l
    induction l with
    | nil => rfl
    | cons x l ih => simp [renL, SV.ren, ih]
  have hsub := hr.store.sub (obc := []) (ρ := []) .nil List.nodup_nil (fun j i f dn cur hj => by simp at hj)
  have hd2 := renL_back hsub.2.1 _ (hren argsc) (hfa.den hr.store hd)
  unfold Oper.wp
  rw [hrun, Oper.upon_enter]
  refine (ht _ w vs hsub.1 hd2).mono fun e w' he => ?_
  obtain ⟨g', ob', hs, hst, hle, hno', he⟩ := he
  cases e with
  | returned v =>
    obtain ⟨s, hs1, rfl, d, e1, hq⟩ := he
    cases e1
    obtain ⟨gn, hrel, hkeep, hden⟩ := hr.after (obc := []) (ix := []) .nil List.nodup_nil rfl (fun i hi => by cases hi) hs hst hle hno' (obr := []) (ob1 := σ.ob) (obn := σ.ob) (sl1 := σ.sl) rfl rfl (by
      have : ∀ l : List Ob, appO l [] = some l := by
        intro l
        induction l with
        | nil => rfl
        | cons x l ih => simp [appO, ih]
      exact this _) rfl
    have hkeep' : Keep T σ.ob g w gn w' := ⟨hkeep.1, fun i b o _ => hkeep.2 i b o (by simp)⟩
    obtain ⟨h1, h2⟩ := hret d hq
    show next (a.put o.dst v) w'
    cases hdst : o.dst with
    | none => exact hK _ _ _ _ hrel hkeep' (h2 hdst)
    | some t =>
      obtain ⟨e8, e9⟩ := h1 t hdst
      exact hK _ _ _ _ (hrel.put (s := .d d) e8 (hden (.d d) (.d d) v rfl hs1)) hkeep' e9
  | panicked c =>
    obtain ⟨v, s, _, _, _, d, e1, _⟩ := he
    cases e1
  | outgrown => exact he.elim
end
end Go.Vd
