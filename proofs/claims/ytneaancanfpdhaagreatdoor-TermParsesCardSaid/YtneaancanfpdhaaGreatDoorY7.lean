/-
  What is proved here: a call by a contract takes a state to the next one; over any program.
-/
import Derived.Test.YtneaancanfpdhaaGreatDoorY6
namespace Go.Vd
open Go Go.RowKit

mutual
theorem kill_kill (p q : Nat → Bool) : ∀ s : SV, (s.kill p).kill q = s.kill fun j => p j || q j
  | .own j k ls => by
    simp only [SV.kill]
    cases hp : p j <;> simp [SV.kill]
  | .rp j => by
    simp only [SV.kill]
    cases hp : p j <;> simp [SV.kill]
  | .agg l => by simp only [SV.kill, killL_killL p q l]
  | .tup l => by simp only [SV.kill, killL_killL p q l]
  | .fn f a b => by simp only [SV.kill, killL_killL p q a, killL_killL p q b]
  | .ifc T s => by simp only [SV.kill, kill_kill p q s]
  | .d x => rfl
  | .blk j off => rfl
  | .map j => rfl
  | .junk => rfl
theorem killL_killL (p q : Nat → Bool) : ∀ l : List SV, killL q (killL p l) = killL (fun j => p j || q j) l
  | [] => rfl
  | s :: r => by simp only [killL, kill_kill p q s, killL_killL p q r]
end
mutual
theorem kill_no : ∀ s : SV, s.kill (fun _ => false) = s
  | .own j k ls => rfl
  | .rp j => rfl
  | .agg l => by simp only [SV.kill, killL_no l]
  | .tup l => by simp only [SV.kill, killL_no l]
  | .fn f a b => by simp only [SV.kill, killL_no a, killL_no b]
  | .ifc T s => by simp only [SV.kill, kill_no s]
  | .d x => rfl
  | .blk j off => rfl
  | .map j => rfl
  | .junk => rfl
theorem killL_no : ∀ l : List SV, killL (fun _ => false) l = l
  | [] => rfl
  | s :: r => by simp only [killL, kill_no s, killL_no r]
end
def inIx : List Nat → Nat → Bool
  | [], _ => false
  | i :: ix, j => Nat.beq j i || inIx ix j
theorem inIx_iff : ∀ {ix : List Nat} {j : Nat}, inIx ix j = true ↔ j ∈ ix
  | [], j => by simp [inIx]
  | i :: ix, j => by simp [inIx, inIx_iff (ix := ix)]
theorem kSlL_slk {t : Nat} : ∀ {ix : List Nat} {l l' : List (Nat × SV)}, kSlL ix l = some l' → slk t l' = (slk t l).kill (inIx ix)
  | [], l, l', h => by simp [kSlL] at h; subst h; exact (kill_no _).symm
  | i :: ix, l, l', h => by
    simp only [kSlL, Option.bind_eq_some_iff] at h
    obtain ⟨l1, h1, h2⟩ := h
    rw [kSlL_slk h2, kSl_slk h1, kill_kill]
    rfl
theorem kObL_get : ∀ {ix : List Nat} {l l' : List Ob}, kObL ix l = some l' → l'.length = l.length ∧ ∀ {g g' : Gh}, Gkl (inIx ix) g g' → ∀ (j : Nat) o', l'[j]? = some o' → ∃ o, l[j]? = some o ∧ ObLe g g' o o' ∧ (∀ i f dn cur, o' = .itI i f dn cur → o = .itI i f dn cur) ∧ (∀ f, o = .mapI f → o' = .mapI f)
  | [], l, l', h => by
    simp [kObL] at h; subst h
    exact ⟨rfl, fun {g g'} hg j o' ho => ⟨o', ho, ObLe.refl ⟨hg.m, fun i p hp => hg.gs i p hp rfl⟩ o', fun _ _ _ _ h => h, fun _ h => h⟩⟩
  | i :: ix, l, l', h => by
    simp only [kObL, Option.bind_eq_some_iff] at h
    obtain ⟨l1, h1, h2⟩ := h
    have ih := kObL_get h2
    have h3 := kOb_get h1
    refine ⟨by rw [ih.1, h3.1], fun {g g'} hg j o' ho => ?_⟩
    -- the places in between: those of g, but for row i
    obtain ⟨o1, a1, a2, a3, a4⟩ := (kObL_get h2).2 (g := g') (g' := g') ⟨Mle.refl _, fun _ _ h _ => h, fun _ _ h => h⟩ j o' ho
    obtain ⟨o, b1, b2⟩ := h3.2 j o1 a1
    have e1 : ∀ i f dn cur, o1 = .itI i f dn cur → o = .itI i f dn cur := by
      intro i' f dn cur e
      subst e
      cases o <;> simp only [Ob.kO, Option.bind_eq_some_iff, Option.some.injEq] at b2
      case cells => obtain ⟨_, _, b2⟩ := b2; cases b2
      all_goals first | (cases b2; rfl) | cases b2
    have e2 : ∀ f, o = .mapI f → o1 = .mapI f := by
      intro f e; subst e; simp [Ob.kO] at b2; exact b2.symm
    refine ⟨o, b1, ?_, fun _ _ _ _ h => e1 _ _ _ _ (a3 _ _ _ _ h), fun f h => a4 f (e2 f h)⟩
    cases o with
    | cells l0 ty =>
      simp only [Ob.kO, Option.bind_eq_some_iff, Option.some.injEq] at b2
      obtain ⟨l2, c1, rfl⟩ := b2
      cases o' <;> simp only [ObLe] at a2 ⊢
      case cells l3 ty3 =>
        obtain ⟨rfl, a2⟩ := a2
        refine ⟨rfl, fun vs hd => ?_⟩
        -- kill by i, then by ix, in one
        have hl3 : l3 = killL (inIx ix) l2 := by
          have key : ∀ {ix : List Nat} {l l' : List Ob}, kObL ix l = some l' → ∀ (j : Nat) a ty b ty', l[j]? = some (.cells a ty) → l'[j]? = some (.cells b ty') → b = killL (inIx ix) a := by
            intro ix
            induction ix with
            | nil => intro l l' h j a ty b ty' h1 h2; simp [kObL] at h; subst h; rw [h1] at h2; cases h2; exact (killL_no _).symm
            | cons i ix ih =>
              intro l l' h j a ty b ty' h1 h2
              simp only [kObL, Option.bind_eq_some_iff] at h
              obtain ⟨l1, h3, h4⟩ := h
              have h5 := kOb_get h3
              have hlt : j < l1.length := by rw [h5.1]; exact (List.getElem?_eq_some_iff.1 h1).1
              obtain ⟨o2, h6, h7⟩ := h5.2 j l1[j] (by simp [hlt])
              rw [h1] at h6; cases h6
              simp only [Ob.kO, Option.bind_eq_some_iff, Option.some.injEq] at h7
              obtain ⟨a', h8, h9⟩ := h7
              have := ih h4 j a' ty b ty' (by rw [List.getElem?_eq_getElem hlt, ← h9]) h2
              rw [this, kOL_eq h8, killL_killL]
              rfl
          exact key h2 j l2 _ l3 _ a1 ho
        rw [hl3, kOL_eq c1, killL_killL]
        exact SDenL.kill hg _ hd
    | row e k => simp [Ob.kO] at b2; subst b2; cases o' <;> exact a2
    | nilrow e k => simp [Ob.kO] at b2; subst b2; cases o' <;> exact a2
    | mapI f => simp [Ob.kO] at b2; subst b2; cases o' <;> exact a2
    | itI i f dn cur => simp [Ob.kO] at b2; subst b2; cases o' <;> exact a2
    | dead => simp [Ob.kO] at b2; subst b2; cases o' <;> exact a2

theorem merge_ex {α : Type} : ∀ {ix : List Nat} {l rs : List α}, (∀ i ∈ ix, i < l.length) → ix.length ≤ rs.length → ∃ r, mergeO ix l rs = some r
  | [], l, rs, _, _ => by
    have : ∀ l : List α, ∃ r, appO l rs = some r := by
      intro l
      induction l with
      | nil => exact ⟨rs, rfl⟩
      | cons x l ih => obtain ⟨r, h⟩ := ih; exact ⟨x :: r, by simp [appO, h]⟩
    exact this l
  | i :: ix, l, [], _, h => by simp at h
  | i :: ix, l, y :: rs, h1, h2 => by
    have h3 := h1 i List.mem_cons_self
    have : ∀ (n : Nat) (l : List α), n < l.length → set1 n y l = some (l.set n y) := by
      intro n
      induction n with
      | zero => intro l hl; cases l with | nil => simp at hl | cons x l => rfl
      | succ n ih => intro l hl; cases l with | nil => simp at hl | cons x l => simp [set1, ih l (by simpa using hl)]
    obtain ⟨r, hr⟩ := merge_ex (ix := ix) (l := l.set i y) (rs := rs) (fun j hj => by simpa using h1 j (List.mem_cons_of_mem _ hj)) (by simpa using h2)
    exact ⟨r, by simp only [mergeO, this i l h3, Option.bind_some, hr]⟩

section
variable {P : Program} {GL : Nat → List D} {B : Bs} {σ : St} {g : Gh} {a : Act} {w : World}

theorem RelG.after (h : RelG GL B σ g a w) {obc ob' : List Ob} {ix : List Nat} (hfit : ObFits σ.ob ix obc ix) (hnd : ix.Nodup) (hno : noIt obc = true) (hit : ∀ i ∈ ix, ∀ (j : Nat) f dn cur, σ.ob[j]? ≠ some (.itI i f dn cur))
    {g' : Gh} {w' : World} (hs : StoreOk GL ob' g' w') (hst : Stp ⟨⟨g.m, ix.map fun i => g.gs.getD i (.loc 0)⟩, w, blocksOf obc ⟨g.m, ix.map fun i => g.gs.getD i (.loc 0)⟩, obc.length, []⟩ ob' g' w') (hle : obc.length ≤ ob'.length) (hno' : noIt ob' = true)
    {obr ob1 obn : List Ob} {sl1 : List (Nat × SV)} (h1 : renOb (names ix σ.ob.length (ob'.length - ix.length)) ob' = some obr) (h2 : kObL ix σ.ob = some ob1) (h3 : mergeO ix ob1 obr = some obn) (h4 : kSlL ix σ.sl = some sl1) :
    ∃ gn, RelG GL B ⟨σ.n, sl1, obn⟩ gn a w' ∧ Keep (· ∈ ix) σ.ob g w gn w' ∧ ∀ (s s' : SV) (v : Value), s.ren (names ix σ.ob.length (ob'.length - ix.length)) = some s' → s.Den g' v → s'.Den gn v := by
  have hlen := h.store.len
  have hsub := h.store.sub hfit hnd (fun j i f dn cur hj => absurd hj (noIt_get hno j i f dn cur))
  have hfg := hfit.get
  have hixlt : ∀ i ∈ ix, i < σ.ob.length := fun i hi => by
    obtain ⟨k, hk, e⟩ := List.mem_iff_getElem.1 hi
    obtain ⟨i', o, a1, a2, _⟩ := hfg.2 k (obc[k]'(by rw [hfg.1]; exact hk)) (by simp [hfg.1, hk])
    rw [List.getElem?_eq_getElem hk, e] at a1; cases a1
    exact (List.getElem?_eq_some_iff.1 a2).1
  have hle' : ix.length ≤ g'.gs.length := by rw [← hs.len, ← hfg.1]; exact hle
  obtain ⟨gsn, hgsn⟩ := merge_ex (ix := ix) (l := g.gs) (rs := g'.gs) (fun i hi => by rw [← hlen]; exact hixlt i hi) hle'
  obtain ⟨m1, m2, m3, m4, m5, m6⟩ := merge_get hgsn hnd
  have hren := renOb_get h1
  have hk1 := kObL_get h2
  obtain ⟨q1, q2, q3, q4, q5, q6⟩ := merge_get h3 hnd
  rw [hk1.1] at q2 q3 q5 q6
  have hobrl : obr.length = ob'.length := hren.1
  have hnn : obn.length = gsn.length := by rw [q3, m3, hobrl, hlen, hs.len]
  -- places of the callee, in the caller's names
  have hRG : RenG (names ix σ.ob.length (ob'.length - ix.length)) g' ⟨g'.m, gsn⟩ := by
    refine ⟨Mle.refl _, fun k j p hk hp => ?_⟩
    have hkl : k < ix.length + (ob'.length - ix.length) := by
      have := (List.getElem?_eq_some_iff.1 hk).1; rwa [names_len] at this
    rw [names_get _ _ _ _ hkl] at hk
    by_cases hki : k < ix.length
    · rw [dif_pos hki] at hk; cases hk
      exact m4 k _ p (by simp [hki]) hp
    · rw [dif_neg hki] at hk; cases hk
      have := m6 k (by omega)
      show gsn[_]? = _
      rw [hlen, this]; exact hp
  have hplc : ∀ (k i : Nat) p, ix[k]? = some i → g.gs[i]? = some p → (ix.map fun i => g.gs.getD i (.loc 0))[k]? = some p := fun k i p e1 e2 => by
    rw [List.getElem?_map, e1]; simp [List.getD_eq_getElem?_getD, e2]
  have hat : ∀ (i b : Nat), g.gs[i]? = some (.loc b) → gsn[i]? = some (.loc b) := fun i b hb => by
    by_cases hi : i ∈ ix
    · obtain ⟨k, hk, e⟩ := List.mem_iff_getElem.1 hi
      have hk2 : ix[k]? = some i := by rw [List.getElem?_eq_getElem hk, e]
      exact m4 k i _ hk2 (hst.at' k b (by show k < obc.length; rw [hfg.1]; exact hk) (hplc k i _ hk2 hb))
    · rw [m5 i hi (List.getElem?_eq_some_iff.1 hb).1]; exact hb
  have hkl : Gkl (inIx ix) g ⟨g'.m, gsn⟩ := ⟨hst.mem, fun i q hq hi => by
      have hi' : i ∉ ix := fun hm => by rw [inIx_iff.2 hm] at hi; cases hi
      show gsn[i]? = _
      rw [m5 i hi' (List.getElem?_eq_some_iff.1 hq).1]; exact hq, hat⟩
  have hX : ∀ b, blocksOf obc ⟨g.m, ix.map fun i => g.gs.getD i (.loc 0)⟩ b → ∃ (i : Nat) (o : Ob) (p : Pl), i ∈ ix ∧ σ.ob[i]? = some o ∧ g.gs[i]? = some p ∧ blkOf o p = some b := fun b hb => by
    obtain ⟨i, k, o, p, e1, e2, e3, e4⟩ := hsub.2.2 b hb
    exact ⟨i, o, p, List.mem_of_getElem? e1, e2, e3, e4⟩
  have hneX : ∀ (j : Nat) oj pj b, j ∉ ix → σ.ob[j]? = some oj → g.gs[j]? = some pj → blkOf oj pj = some b → ¬ blocksOf obc ⟨g.m, ix.map fun i => g.gs.getD i (.loc 0)⟩ b := fun j oj pj b hj e1 e2 e3 hb => by
    obtain ⟨i, o, p, f1, f2, f3, f4⟩ := hX b hb
    have := h.store.disj i j o oj p pj b f2 e1 f3 e2 f4 e3
    subst this; exact hj f1
  -- what stands at a place that the callee knows
  have htou : ∀ (j : Nat) o', (j ∈ ix ∨ σ.ob.length ≤ j) → obn[j]? = some o' → ∃ (k : Nat) (oc : Ob), (names ix σ.ob.length (ob'.length - ix.length))[k]? = some j ∧ ob'[k]? = some oc ∧ oc.ren (names ix σ.ob.length (ob'.length - ix.length)) = some o' := fun j o' hj ho => by
    rcases hj with hj | hj
    · obtain ⟨k, hk, e⟩ := List.mem_iff_getElem.1 hj
      have hk2 : ix[k]? = some j := by rw [List.getElem?_eq_getElem hk, e]
      have hkr : k < obr.length := by omega
      have := q4 k j obr[k] hk2 (by simp [hkr])
      rw [ho] at this; cases this
      obtain ⟨oc, e1, e2⟩ := hren.2 k obr[k] (by simp [hkr])
      exact ⟨k, oc, by rw [names_get _ _ _ _ (by omega), dif_pos hk, e], e1, e2⟩
    · have hjl := (List.getElem?_eq_some_iff.1 ho).1
      rw [q3] at hjl
      have := q6 (ix.length + (j - σ.ob.length)) (by omega)
      rw [show σ.ob.length + (ix.length + (j - σ.ob.length) - ix.length) = j by omega, ho] at this
      obtain ⟨oc, e1, e2⟩ := hren.2 _ o' this.symm
      refine ⟨ix.length + (j - σ.ob.length), oc, ?_, e1, e2⟩
      rw [names_get _ _ _ _ (by omega), dif_neg (by omega)]
      congr 1; omega
  have hninj : ∀ (k k' j : Nat), (names ix σ.ob.length (ob'.length - ix.length))[k]? = some j → (names ix σ.ob.length (ob'.length - ix.length))[k']? = some j → k = k' := fun k k' j e1 e2 => by
    have l1 := (List.getElem?_eq_some_iff.1 e1).1
    have l2 := (List.getElem?_eq_some_iff.1 e2).1
    rw [names_len] at l1 l2
    rw [names_get _ _ _ _ l1] at e1
    rw [names_get _ _ _ _ l2] at e2
    by_cases c1 : k < ix.length <;> by_cases c2 : k' < ix.length
    · rw [dif_pos c1] at e1; rw [dif_pos c2] at e2
      simp only [Option.some.injEq] at e1 e2
      exact (List.getElem?_inj c1 hnd).1 (by rw [List.getElem?_eq_getElem c1, List.getElem?_eq_getElem c2, e1, e2])
    · rw [dif_pos c1] at e1; rw [dif_neg c2] at e2
      simp only [Option.some.injEq] at e1 e2
      have := hixlt _ (List.getElem_mem c1); omega
    · rw [dif_neg c1] at e1; rw [dif_pos c2] at e2
      simp only [Option.some.injEq] at e1 e2
      have := hixlt _ (List.getElem_mem c2); omega
    · rw [dif_neg c1] at e1; rw [dif_neg c2] at e2
      simp only [Option.some.injEq] at e1 e2
      omega
  have hpl2 : ∀ (k j : Nat) p, (names ix σ.ob.length (ob'.length - ix.length))[k]? = some j → gsn[j]? = some p → k < g'.gs.length → g'.gs[k]? = some p := fun k j p e1 e2 e3 => by
    have := hRG.2 k j g'.gs[k] e1 (by simp [e3])
    have e4 : gsn[j]? = some g'.gs[k] := this
    rw [e2] at e4; cases e4
    simp [e3]
  refine ⟨⟨g'.m, gsn⟩, ⟨h.defers, h.size, fun t => ?_, ?_, ?_⟩, ⟨hst.mem, fun i b o hi e1 e2 e3 => ⟨hat i b e2, hst.fr.block b (h.store.lt e1 e2 e3) (hneX i o _ b hi e1 e2 e3)⟩⟩, fun s s' v e1 e2 => SV.ren_den hRG s e1 e2⟩
  · show (slk t sl1).Den _ _
    rw [kSlL_slk h4]
    exact SV.Den.kill hkl _ (h.slots t)
  · refine h.store.step (p := fun j => j ∈ ix ∨ σ.ob.length ≤ j) hst.mem hat (fun i q hi hq => hkl.gs i q hq (by cases hb : inIx ix i with | false => rfl | true => exact absurd (.inl (inIx_iff.1 hb)) hi)) hs.sat hnn (fun j o1 hj ho => ?_) (fun j i f dn cur ho => ?_) (fun j i f dn cur hj ho => ?_)
      (fun j o1 q b hj ho hq hb => ?_) (fun j o1 hj ho => ?_) (fun j o1 q b hj ho hq hb => ?_) (fun i j oi oj pi pj b hi hj e1 e2 e3 e4 e5 e6 => ?_)
    · simp only [not_or, Nat.not_le] at hj
      rw [q5 j hj.1 hj.2] at ho
      obtain ⟨o, e1, e2, _⟩ := hk1.2 hkl j o1 ho
      exact ⟨o, e1, e2⟩
    · by_cases hj : j ∈ ix ∨ σ.ob.length ≤ j
      · obtain ⟨k, oc, e1, e2, e3⟩ := htou j _ hj ho
        cases oc <;> simp only [Ob.ren, Option.bind_eq_some_iff, Option.some.injEq, reduceCtorEq] at e3
        case cells => obtain ⟨_, _, e3⟩ := e3; cases e3
      · simp only [not_or, Nat.not_le] at hj
        rw [q5 j hj.1 hj.2] at ho
        obtain ⟨o, e1, _, e3, _⟩ := hk1.2 hkl j _ ho
        have e4 := e3 i f dn cur rfl
        subst e4
        have e5 := h.store.its j i f dn cur e1
        have hi : i ∉ ix := fun hm => hit i hm j f dn cur e1
        have hil := (List.getElem?_eq_some_iff.1 e5).1
        rw [q5 i hi hil]
        obtain ⟨o2, f1, f2, f3, f4⟩ := hk1.2 hkl i ob1[i] (by simp [hk1.1, hil])
        rw [e5] at f1; cases f1
        have := f4 f rfl
        rw [List.getElem?_eq_getElem (by rw [hk1.1]; exact hil), this]
    · simp only [not_or, Nat.not_le] at hj
      rw [q5 j hj.1 hj.2] at ho
      obtain ⟨o, e1, _, e3, _⟩ := hk1.2 hkl j _ ho
      have e4 := e3 i f dn cur rfl
      subst e4
      have e5 := h.store.its j i f dn cur e1
      have hil := (List.getElem?_eq_some_iff.1 e5).1
      simp only [not_or, Nat.not_le]
      exact ⟨fun hm => hit i hm j f dn cur e1, hil⟩
    · simp only [not_or, Nat.not_le] at hj
      have hlt := h.store.lt ho hq hb
      have hnx := hneX j o1 q b hj.1 ho hq hb
      refine ⟨hst.fr.block b hlt hnx, fun off hn => ?_⟩
      show g'.m b off = none
      cases hx : g'.m b off with
      | none => rfl
      | some x =>
        rcases hst.new b off x hx hn with h5 | h5
        · exact absurd h5 hnx
        · have h6 : w.heap.size ≤ b := h5
          omega
    · obtain ⟨k, oc, e1, e2, e3⟩ := htou j o1 hj ho
      obtain ⟨p, hp⟩ := hs.place e2
      have := hs.obs k oc p e2 hp
      exact ⟨p, hRG.2 k j p e1 hp, (ObOk.ren hRG rfl e3 this).1⟩
    · obtain ⟨k, oc, e1, e2, e3⟩ := htou j o1 hj ho
      obtain ⟨p, hp⟩ := hs.place e2
      have h5 : gsn[j]? = some p := hRG.2 k j p e1 hp
      have h5' : gsn[j]? = some q := hq
      rw [h5] at h5'; cases h5'
      have h6 := (ObOk.ren hRG rfl e3 (hs.obs k oc _ e2 hp)).2 b hb
      rcases hst.own k oc _ b e2 hp h6 with h7 | h7
      · obtain ⟨i, o, p', f1, f2, f3, f4⟩ := hX b h7
        exact .inl ⟨i, o, p', .inl f1, f2, f3, f4⟩
      · exact .inr h7
    · obtain ⟨k, oc, a1, a2, a3⟩ := htou i oi hi e1
      obtain ⟨k', oc', b1, b2, b3⟩ := htou j oj hj e2
      obtain ⟨p, hp⟩ := hs.place a2
      obtain ⟨p', hp'⟩ := hs.place b2
      have c1 : gsn[i]? = some p := hRG.2 k i p a1 hp
      have c1' : gsn[i]? = some pi := e3
      rw [c1] at c1'; cases c1'
      have c2 : gsn[j]? = some p' := hRG.2 k' j p' b1 hp'
      have c2' : gsn[j]? = some pj := e4
      rw [c2] at c2'; cases c2'
      have d1 := (ObOk.ren hRG rfl a3 (hs.obs k oc _ a2 hp)).2 b e5
      have d2 := (ObOk.ren hRG rfl b3 (hs.obs k' oc' _ b2 hp')).2 b e6
      have := hs.disj k k' oc oc' _ _ b a2 b2 hp hp' d1 d2
      subst this
      rw [a1] at b1; cases b1; rfl
  · refine h.stp.step hst.fr (fun b hb => ?_) hst.mem (fun b o x hx hn => hst.new b o x hx hn) (fun j o p b e1 e2 e3 => ?_) hat
    · obtain ⟨i, o, p, _, f2, f3, f4⟩ := hX b hb
      exact h.stp.own i o p b f2 f3 f4
    · by_cases hj : j ∈ ix ∨ σ.ob.length ≤ j
      · obtain ⟨k, oc, a1, a2, a3⟩ := htou j o hj e1
        obtain ⟨p', hp⟩ := hs.place a2
        have c1 : gsn[j]? = some p' := hRG.2 k j p' a1 hp
        have c1' : gsn[j]? = some p := e2
        rw [c1] at c1'; cases c1'
        have d1 := (ObOk.ren hRG rfl a3 (hs.obs k oc _ a2 hp)).2 b e3
        rcases hst.own k oc _ b a2 hp d1 with h7 | h7
        · obtain ⟨i, o, p', f1, f2, f3, f4⟩ := hX b h7
          exact .inl (h.stp.own i o p' b f2 f3 f4)
        · exact .inr h7
      · simp only [not_or, Nat.not_le] at hj
        rw [q5 j hj.1 hj.2] at e1
        have e2' : gsn[j]? = some p := e2
        rw [m5 j hj.1 (by omega)] at e2'
        obtain ⟨o2, f1, f2, _⟩ := hk1.2 hkl j o e1
        refine .inl (h.stp.own j o2 p b f1 e2' ?_)
        rcases f2.blk e3 (fun _ _ => trivial) with f3 | ⟨e', k', rfl⟩
        · exact f3
        · have := h.store.obs _ _ _ f1 e2'
          simp only [ObOk] at this; subst this
          cases o <;> simp [blkOf] at e3
end
end Go.Vd
