/-
  What is proved here: rules for maps from texts to numbers; over any program.
-/
import Derived.Test.YtneaancanfpdhaaGreatDoorY16
import Derived.Carry
set_option linter.unusedSimpArgs false
set_option linter.unusedVariables false
namespace Go.Vd
open Go Go.RowKit

section
variable {P : Program} {GL : Nat → List D} {n0 : Nat} {Pn : PnS}

theorem op_mapmake {o : Oper} {n t : Nat} {sl : List (Nat × SV)} {ob ob' : List Ob} {K : St → Prop} {T : Nat → Prop} {ty : TypeId} {k : Nat} (ho : o.op = .makeMap ty none) (hd : o.dst = some t) (ht : Nat.blt t n = true) (hl : ob.length = k) (hob : appO ob [.mapI fun _ => none] = some ob')
    (h : K ⟨n, (t, .map k) :: sl, ob'⟩) : OpR P GL n0 Pn T o ⟨n, sl, ob⟩ K := fun B hB g a w hr next Q hK hP => by
  subst hl
  rw [appO_eq hob] at h
  have hrun : (execOp a.eval o).run P w = .ok (.value (.map (some w.heap.size))) (w.alloc (.map #[] 0)) := by
    simp only [execOp, ho, Option.map_none, Sem.run_bind, Sem.run_pure, run_makeMap, Result.andThen_ok]
  have hmn : ∀ o, g.m w.heap.size o = none := fun o => by
    cases hx : g.m w.heap.size o with
    | none => rfl
    | some x => have := hr.store.sat_lt hx; omega
  obtain ⟨h1, h2⟩ := hr.new1 ((Fr.refl _ w).alloc (.map #[] 0)) (Mle.refl _) (fun b o x h1 h2 => by rw [h2] at h1; cases h1) (o' := .mapI fun _ => none) (pl := .loc w.heap.size) ⟨MapSI.made w, hmn⟩ (fun b hb => by simp only [blkOf, Option.some.injEq] at hb; omega) (fun i f dn cur e => by cases e)
  unfold Oper.wp
  rw [hrun]
  show next (a.put o.dst _) _
  rw [hd]
  exact hK _ _ _ _ (h1.put' (s := .map ob.length) ht ⟨w.heap.size, by rw [hr.store.len]; simp, rfl⟩) ⟨h2.1, fun i b o _ => h2.2 i b o (fun x => x)⟩ h

theorem op_lookup {o : Oper} {n t : Nat} {sl : List (Nat × SV)} {ob : List Ob} {K : St → Prop} {T : Nat → Prop} {ty k e : TypeId} {x y : Operand} {c : Bool} {i : Nat} {f : ByteArray → Option Int} {s : ByteArray} (hm : MapTy P ty k e) (ho : o.op = .lookup ty x y c) (hd : o.dst = some t) (ht : Nat.blt t n = true)
    (hx : evO GL sl x = some (.map i)) (hy : evO GL sl y = some (.d (.v (.string s)))) (hi : nthO i ob = some (.mapI f)) (h : K ⟨n, (t, .d (if c then .tup [.v (.int .i64 ((f s).getD 0)), .v (.bool (f s).isSome)] else .v (.int .i64 ((f s).getD 0)))) :: sl, ob⟩) : OpR P GL n0 Pn T o ⟨n, sl, ob⟩ K :=
  opr_look hd ht fun B g a w hr => by
    obtain ⟨b, hb, hbe⟩ := hr.evo hx
    have hye : a.eval y = .string s := hr.evo hy
    obtain ⟨hmap, _⟩ := hr.store.obs _ _ _ (nthO_eq hi) hb
    have hrun := hmap.lookup hm.under hm.key hm.zero s c
    refine ⟨_, if c then .tuple #[.int .i64 ((f s).getD 0), .bool (f s).isSome] else .int .i64 ((f s).getD 0), by simp only [execOp, ho, hbe, hye, Sem.run_bind, hrun, Result.andThen_ok, Sem.run_pure], ?_, h⟩
    cases c
    · rfl
    · exact ⟨_, rfl, _, _, rfl, rfl, _, _, rfl, rfl, rfl⟩

theorem op_lookup1 {o : Oper} {n t : Nat} {sl : List (Nat × SV)} {ob : List Ob} {K : St → Prop} {ty k e : TypeId} {x y : Operand} {i : Nat} {f : ByteArray → Option Int} {s : ByteArray} (hm : MapTy P ty k e) (ho : o.op = .lookup ty x y false) (hd : o.dst = some t) (ht : Nat.blt t n = true)
    (hx : evO GL sl x = some (.map i)) (hy : evO GL sl y = some (.d (.v (.string s)))) (hi : nthO i ob = some (.mapI f)) (h : K ⟨n, (t, .d (.v (.int .i64 ((f s).getD 0)))) :: sl, ob⟩) : OpR P GL n0 Pn (fun _ => False) o ⟨n, sl, ob⟩ K := op_lookup hm ho hd ht hx hy hi h
theorem op_lookup2 {o : Oper} {n t : Nat} {sl : List (Nat × SV)} {ob : List Ob} {K : St → Prop} {ty k e : TypeId} {x y : Operand} {i : Nat} {f : ByteArray → Option Int} {s : ByteArray} (hm : MapTy P ty k e) (ho : o.op = .lookup ty x y true) (hd : o.dst = some t) (ht : Nat.blt t n = true)
    (hx : evO GL sl x = some (.map i)) (hy : evO GL sl y = some (.d (.v (.string s)))) (hi : nthO i ob = some (.mapI f)) (h : K ⟨n, (t, .d (.tup [.v (.int .i64 ((f s).getD 0)), .v (.bool (f s).isSome)])) :: sl, ob⟩) : OpR P GL n0 Pn (fun _ => False) o ⟨n, sl, ob⟩ K := op_lookup hm ho hd ht hx hy hi h

theorem op_mapupd {o : Oper} {n : Nat} {sl : List (Nat × SV)} {ob ob' : List Ob} {K : St → Prop} {ty k e : TypeId} {x y z : Operand} {i : Nat} {f : ByteArray → Option Int} {s : ByteArray} {v : Int} (hm : MapTy P ty k e) (ho : o.op = .mapUpdate ty x y z) (hd : o.dst = none)
    (hx : evO GL sl x = some (.map i)) (hy : evO GL sl y = some (.d (.v (.string s)))) (hz : evO GL sl z = some (.d (.v (.int .i64 v)))) (hi : nthO i ob = some (.mapI f)) (hno : noItOn i ob = true) (hob : set1 i (.mapI (updM f s v)) ob = some ob') (h : K ⟨n, sl, ob'⟩) : OpR P GL n0 Pn (fun j => j = i) o ⟨n, sl, ob⟩ K := fun B hB g a w hr next Q hK hP => by
  obtain ⟨b, hb, hbe⟩ := hr.evo hx
  have hye : a.eval y = .string s := hr.evo hy
  have hze : a.eval z = .int .i64 v := hr.evo hz
  obtain ⟨hmap, hmn⟩ := hr.store.obs _ _ _ (nthO_eq hi) hb
  obtain ⟨w', hrun, hm', hfr⟩ := hmap.update hm.under hm.key s v
  have hrun2 : (execOp a.eval o).run P w = .ok .skip w' := by simp only [execOp, ho, hbe, hye, hze, Sem.run_bind, hrun, Result.andThen_ok, Sem.run_pure]
  unfold Oper.wp
  rw [hrun2]
  show next (a.put o.dst _) _
  rw [hd]
  obtain ⟨h1, h2⟩ := hr.upd1 (o' := .mapI (updM f s v)) (nthO_eq hi) hb rfl hfr ⟨hm', hmn⟩ (.inl rfl) (noItOn_get hno) (fun k f dn cur h => by cases h) hmn
  rw [← (set1_eq hob).1] at h1
  exact hK _ _ _ _ h1 h2 h

theorem op_delete {o : Oper} {n : Nat} {sl : List (Nat × SV)} {ob ob' : List Ob} {K : St → Prop} {ty k e : TypeId} {x y : Operand} {i : Nat} {f : ByteArray → Option Int} {s : ByteArray} (hm : MapTy P ty k e) (ho : o.op = .call { callee := .builtin .delete, args := #[x, y], argTypes := #[ty, k] }) (hd : o.dst = none)
    (hx : evO GL sl x = some (.map i)) (hy : evO GL sl y = some (.d (.v (.string s)))) (hi : nthO i ob = some (.mapI f)) (hno : noItOn i ob = true) (hob : set1 i (.mapI (delM f s)) ob = some ob') (h : K ⟨n, sl, ob'⟩) : OpR P GL n0 Pn (fun j => j = i) o ⟨n, sl, ob⟩ K := fun B hB g a w hr next Q hK hP => by
  obtain ⟨b, hb, hbe⟩ := hr.evo hx
  have hye : a.eval y = .string s := hr.evo hy
  obtain ⟨hmap, hmn⟩ := hr.store.obs _ _ _ (nthO_eq hi) hb
  obtain ⟨w', hrun, hm', hfr⟩ := hmap.delete (ty := o.type) hm.under hm.key s
  have hrun2 : (execOp a.eval o).run P w = .ok (.value (.tuple #[])) w' := by
    simp only [execOp, ho, resolve, Sem.run_bind, Sem.run_pure, Result.andThen_ok, invoke, builtin, List.map_toArray, List.map_cons, List.map_nil, hbe, hye, hrun]
  unfold Oper.wp
  rw [hrun2]
  show next (a.put o.dst _) _
  rw [hd]
  obtain ⟨h1, h2⟩ := hr.upd1 (o' := .mapI (delM f s)) (nthO_eq hi) hb rfl hfr ⟨hm', hmn⟩ (.inl rfl) (noItOn_get hno) (fun k f dn cur h => by cases h) hmn
  rw [← (set1_eq hob).1] at h1
  exact hK _ _ _ _ h1 h2 h

theorem op_range {o : Oper} {n t : Nat} {sl : List (Nat × SV)} {ob ob' : List Ob} {K : St → Prop} {T : Nat → Prop} {ty k e : TypeId} {x : Operand} {i j : Nat} {f : ByteArray → Option Int} (hm : MapTy P ty k e) (ho : o.op = .range ty x) (hd : o.dst = some t) (ht : Nat.blt t n = true)
    (hx : evO GL sl x = some (.map i)) (hi : nthO i ob = some (.mapI f)) (hl : ob.length = j) (hob : appO ob [.itI i f [] none] = some ob') (h : K ⟨n, (t, .blk j 0) :: sl, ob'⟩) : OpR P GL n0 Pn T o ⟨n, sl, ob⟩ K := fun B hB g a w hr next Q hK hP => by
  subst hl
  rw [appO_eq hob] at h
  obtain ⟨b, hb, hbe⟩ := hr.evo hx
  obtain ⟨hmap, _⟩ := hr.store.obs _ _ _ (nthO_eq hi) hb
  obtain ⟨w', m, hrun, hit, hfr⟩ := hmap.range hm.under
  have hrun2 : (execOp a.eval o).run P w = .ok (.value (.pointer (some ⟨w.heap.size, 0, none⟩))) w' := by simp only [execOp, ho, hbe, Sem.run_bind, hrun, Result.andThen_ok, Sem.run_pure]
  have hmn : ∀ o, g.m w.heap.size o = none := fun o => by
    cases hx : g.m w.heap.size o with
    | none => rfl
    | some x => have := hr.store.sat_lt hx; omega
  have hbn : (g.gs ++ [Pl.loc w.heap.size])[i]? = some (.loc b) := by rw [List.getElem?_append_left (List.getElem?_eq_some_iff.1 hb).1]; exact hb
  obtain ⟨h1, h2⟩ := hr.new1 hfr (Mle.refl _) (fun b o x h1 h2 => by rw [h2] at h1; cases h1) (o' := .itI i f [] none) (pl := .loc w.heap.size) ⟨b, hbn, ⟨m, hit⟩, (fun s n e => by cases e), hmn⟩ (fun b hb => by simp only [blkOf, Option.some.injEq] at hb; omega) (fun i' f' dn cur e => by cases e; exact nthO_eq hi)
  unfold Oper.wp
  rw [hrun2]
  show next (a.put o.dst _) _
  rw [hd]
  exact hK _ _ _ _ (h1.put' (s := .blk ob.length 0) ht (blk_den hr.store.len)) ⟨h2.1, fun i b o _ => h2.2 i b o (fun x => x)⟩ h

theorem op_next {o : Oper} {n t : Nat} {sl : List (Nat × SV)} {ob : List Ob} {K : St → Prop} {x : Operand} {i j : Nat} {f : ByteArray → Option Int} {dn : List (ByteArray × Int)} {cur : Option (ByteArray × Int)} (ho : o.op = .next x false) (hd : o.dst = some t) (ht : Nat.blt t n = true)
    (hx : evO GL sl x = some (.blk j 0)) (hj : nthO j ob = some (.itI i f dn cur)) (hno : noItOn j ob = true)
    (h1 : (∀ s n, f s = some n → (s, n) ∈ dn) → K ⟨n, (t, .d (.tup [.v (.bool false)])) :: sl, ob⟩)
    (h2 : ∀ s v, f s = some v → (s, v) ∉ dn → ∃ ob', set1 j (.itI i f ((s, v) :: dn) (some (s, v))) ob = some ob' ∧ K ⟨n, (t, .d (.tup [.v (.bool true), .v (.string s), .v (.int .i64 v)])) :: sl, ob'⟩) : OpR P GL n0 Pn (fun k => k = j) o ⟨n, sl, ob⟩ K := fun B hB g a w hr next Q hK hP => by
  obtain ⟨b, hb, hbe⟩ := hr.evo hx
  obtain ⟨c, hc, ⟨m, hit⟩, hat, hmn⟩ := hr.store.obs _ _ _ (nthO_eq hj) hb
  have hmi := hr.store.its _ _ _ _ _ (nthO_eq hj)
  rcases ItSI.next (P := P) (ty := o.type) hit with ⟨hrun, hall⟩ | ⟨s, v, m', w', hrun, hf, hnd, _, hit', hat', hfr⟩
  · have hrun2 : (execOp a.eval o).run P w = .ok (.value (.tuple #[.bool false])) w := by simp only [execOp, ho, hbe, Sem.run_bind, hrun, Result.andThen_ok, Sem.run_pure]
    unfold Oper.wp
    rw [hrun2]
    show next (a.put o.dst _) _
    rw [hd]
    exact hK _ _ _ _ (hr.put' (s := .d (.tup [.v (.bool false)])) ht ⟨_, rfl, _, _, rfl, rfl, rfl⟩) (Keep.refl _ _ _ _) (h1 hall)
  · obtain ⟨ob', hob, hk⟩ := h2 s v hf hnd
    have hrun2 : (execOp a.eval o).run P w = .ok (.value (.tuple #[.bool true, .string s, .int .i64 v])) w' := by simp only [execOp, ho, hbe, Sem.run_bind, hrun, Result.andThen_ok, Sem.run_pure]
    have hij : i ≠ j := fun e => by subst e; rw [nthO_eq hj] at hmi; cases hmi
    obtain ⟨h3, h4⟩ := hr.upd1 (o' := .itI i f ((s, v) :: dn) (some (s, v))) (nthO_eq hj) hb rfl hfr ⟨c, hc, ⟨m', hit'⟩, (fun s' n' e => by cases e; exact hat'), hmn⟩ (.inl rfl) (noItOn_get hno) (fun k f' dn' cur' h => by cases h; exact ⟨hij, hmi⟩) hmn
    unfold Oper.wp
    rw [hrun2]
    show next (a.put o.dst _) _
    rw [hd]
    rw [← (set1_eq hob).1] at h3
    exact hK _ _ _ _ (h3.put' (s := .d (.tup [.v (.bool true), .v (.string s), .v (.int .i64 v)])) ht ⟨_, rfl, _, _, rfl, rfl, _, _, rfl, rfl, _, _, rfl, rfl, rfl⟩) h4 hk

theorem op_entry {o : Oper} {n t : Nat} {sl : List (Nat × SV)} {ob : List Ob} {K : St → Prop} {T : Nat → Prop} {x : Operand} {i j : Nat} {f : ByteArray → Option Int} {dn : List (ByteArray × Int)} {s : ByteArray} {v : Int} (ho : o.op = .entry x) (hd : o.dst = some t) (ht : Nat.blt t n = true)
    (hx : evO GL sl x = some (.blk j 0)) (hj : nthO j ob = some (.itI i f dn (some (s, v)))) (h : K ⟨n, (t, .d (.tup [.v (.string s), .v (.int .i64 v)])) :: sl, ob⟩) : OpR P GL n0 Pn T o ⟨n, sl, ob⟩ K :=
  opr_look hd ht fun B g a w hr => by
    obtain ⟨b, hb, hbe⟩ := hr.evo hx
    obtain ⟨c, hc, _, hat, _⟩ := hr.store.obs _ _ _ (nthO_eq hj) hb
    have hrun := (hat s v rfl).entry (P := P)
    exact ⟨.d (.tup [.v (.string s), .v (.int .i64 v)]), .tuple #[.string s, .int .i64 v], by simp only [execOp, ho, hbe, Sem.run_bind, hrun, Result.andThen_ok, Sem.run_pure], ⟨_, rfl, _, _, rfl, rfl, _, _, rfl, rfl, rfl⟩, h⟩

/-- what objects stand under iterators -/
def itsL (ob : List Ob) : List Ob → Prop
  | [] => True
  | .itI i f _ _ :: r => nthO i ob = some (.mapI f) ∧ itsL ob r
  | .cells _ _ :: r => itsL ob r
  | .row _ _ :: r => itsL ob r
  | .nilrow _ _ :: r => itsL ob r
  | .mapI _ :: r => itsL ob r
  | .dead :: r => itsL ob r
theorem itsL_get {ob : List Ob} : ∀ {l : List Ob}, itsL ob l → ∀ (j i : Nat) f dn cur, l[j]? = some (.itI i f dn cur) → ob[i]? = some (.mapI f)
  | [], _, j, i, f, dn, cur, h => by simp at h
  | o :: r, h, j, i, f, dn, cur, hj => by
    cases j with
    | zero =>
      simp at hj; subst hj
      exact nthO_eq h.1
    | succ j =>
      have : itsL ob r := by cases o <;> first | exact h | exact h.2
      exact itsL_get this j i f dn cur (by simpa using hj)
theorem mei {n : Nat} {sl sl' : List (Nat × SV)} {ob ob' : List Ob} {ρ : List Nat} (hob : ObFits ob ρ ob' ρ) (hsl : SlFit ob ρ sl sl') (hits : itsL ob' ob') (hp : pre 0 n0 ρ = true := by exact rfl) (hnd : nodupB ρ = true := by exact rfl) : Meets n0 ⟨n, sl, ob⟩ ⟨n, sl', ob'⟩ ρ :=
  ⟨rfl, hp, hnd, itsL_get hits, hob, hsl⟩
theorem boi {ob : List Ob} {ρ : List Nat} {r : List Ob} {k i i' : Nat} {is : List Nat} {f : ByteArray → Option Int} {dn : List (ByteArray × Int)} {cur : Option (ByteArray × Int)} (hr : ObFits ob ρ r is) (hi : nthO i ob = some (.itI i' f dn cur) := by exact rfl) (hk : nthO k ρ = some i' := by exact rfl) : ObFits ob ρ (.itI k f dn none :: r) (i :: is) := .cons hi (.itI hk (.inr rfl)) hr
end
end Go.Vd
