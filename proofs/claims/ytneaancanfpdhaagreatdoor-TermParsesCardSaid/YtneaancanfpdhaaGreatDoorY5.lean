/-
  What is proved here: how a state goes on when its objects are made, written, appended to or given up; over any program.
-/
import Derived.Test.YtneaancanfpdhaaGreatDoorYRow
namespace Go.Vd
open Go Go.RowKit

/-- what a step leaves alone: all data, and the objects that T does not name -/
def Keep (T : Nat → Prop) (ob : List Ob) (g : Gh) (w : World) (g' : Gh) (w' : World) : Prop :=
  Mle g.m g'.m ∧ ∀ (i b : Nat) o, ¬ T i → ob[i]? = some o → g.gs[i]? = some (.loc b) → blkOf o (.loc b) = some b → g'.gs[i]? = some (.loc b) ∧ w'.heap[b]? = w.heap[b]?
theorem Keep.refl (T : Nat → Prop) (ob : List Ob) (g : Gh) (w : World) : Keep T ob g w g w := ⟨Mle.refl _, fun _ _ _ _ _ h _ => ⟨h, rfl⟩⟩

theorem ObLe.refl {g g' : Gh} (h : Gle g g') : ∀ o : Ob, ObLe g g' o o
  | .cells l ty => ⟨rfl, fun vs hd => SDenL.mono h l hd⟩
  | .row e k => ⟨rfl, rfl⟩
  | .nilrow e k => ⟨rfl, rfl⟩
  | .mapI f => rfl
  | .itI i f dn cur => ⟨rfl, rfl, rfl, .inl rfl⟩
  | .dead => trivial

section
variable {GL : Nat → List D} {B : Bs} {σ : St} {g : Gh} {a : Act} {w : World}

theorem Stp.step {ob ob' : List Ob} {g' : Gh} {w' : World} (h : Stp B ob g w) {X : Nat → Prop} (hf : Fr X w w') (hX : ∀ b, X b → B.X b ∨ B.w.heap.size ≤ b) (hm : Mle g.m g'.m)
    (hnew : ∀ b o x, g'.m b o = some x → g.m b o = none → X b ∨ w.heap.size ≤ b)
    (hown : ∀ (i : Nat) o p b, ob'[i]? = some o → g'.gs[i]? = some p → blkOf o p = some b → (B.X b ∨ B.w.heap.size ≤ b) ∨ w.heap.size ≤ b)
    (hat : ∀ (i b : Nat), g.gs[i]? = some (.loc b) → g'.gs[i]? = some (.loc b)) : Stp B ob' g' w' := by
  have hs := h.fr.size
  refine ⟨h.fr.then hf (fun i hi => by rcases hX i hi with h1 | h1; exact .inl h1; exact .inr h1), h.mem.trans hm, fun b o x hx hn => ?_, fun i o p b h1 h2 h3 => ?_, fun i b hi hb => hat i b (h.at' i b hi hb)⟩
  · cases hg : g.m b o with
    | some y => exact h.new b o y hg hn
    | none =>
      rcases hnew b o x hx hg with h1 | h1
      · exact hX b h1
      · exact .inr (by omega)
  · rcases hown i o p b h1 h2 h3 with h4 | h4
    · exact h4
    · exact .inr (by omega)

theorem StoreOk.lt {ob : List Ob} (h : StoreOk GL ob g w) {i : Nat} {o : Ob} {p : Pl} {b : Nat} (ho : ob[i]? = some o) (hp : g.gs[i]? = some p) (hb : blkOf o p = some b) : b < w.heap.size := (h.obs i o p ho hp).lt hb

theorem StoreOk.sat_lt {ob : List Ob} (h : StoreOk GL ob g w) {b o : Nat} {x : Value} (hx : g.m b o = some x) : b < w.heap.size := World.block_lt_of_cell? w ⟨b, o, none⟩ (h.sat b o x hx).1

/-- one new object -/
theorem RelG.new1 (h : RelG GL B σ g a w) {w' : World} (hf : Fr (fun _ => False) w w') {m' : Mem} (hm : Mle g.m m')
    (hnew : ∀ b o x, m' b o = some x → g.m b o = none → w.heap.size ≤ b ∧ w'.cell? ⟨b, o, none⟩ = some x ∧ x.oneCell' = true)
    {o' : Ob} {pl : Pl} (hok : ObOk ⟨m', g.gs ++ [pl]⟩ w' o' pl) (hblk : ∀ b, blkOf o' pl = some b → w.heap.size ≤ b) (hit : ∀ i f dn cur, o' = .itI i f dn cur → σ.ob[i]? = some (.mapI f)) :
    RelG GL B ⟨σ.n, σ.sl, σ.ob ++ [o']⟩ ⟨m', g.gs ++ [pl]⟩ a w' ∧ Keep (fun _ => False) σ.ob g w ⟨m', g.gs ++ [pl]⟩ w' := by
  have hlen := h.store.len
  have hle : Gle g ⟨m', g.gs ++ [pl]⟩ := ⟨hm, fun i p hp => by
    show (g.gs ++ [pl])[i]? = some p
    rw [List.getElem?_append_left (List.getElem?_eq_some_iff.1 hp).1]; exact hp⟩
  have hnone : ∀ b i, b < w.heap.size → g.m b i = none → m' b i = none := fun b i hb hn => by
    cases hx : m' b i with
    | none => rfl
    | some x => have := (hnew b i x hx hn).1; omega
  have hlast : (g.gs ++ [pl])[σ.ob.length]? = some pl := by rw [hlen]; simp
  refine ⟨⟨h.defers, h.size, fun t => SV.Den.mono hle _ (h.slots t), ?_, ?_⟩, hm, fun i b o _ ho hg hb => ⟨hle.gs _ _ hg, hf.block b (h.store.lt ho hg hb) (fun x => x)⟩⟩
  · refine h.store.step (p := fun j => j = σ.ob.length) hm (fun i b => hle.gs i _) (fun i q _ => hle.gs i q) (fun b o x hx => ?_) (by simp [hlen]) (fun j o1 hj ho => ?_) (fun j i f dn cur ho => ?_) (fun j i f dn cur hj ho hi => ?_)
      (fun j o1 q b hj ho hq hb => ?_) (fun j o1 hj ho => ?_) (fun j o1 q b hj ho hq hb => ?_) (fun i j oi oj pi pj b hi hj _ _ _ _ _ _ => hi.trans hj.symm)
    · cases hg : g.m b o with
      | some y =>
        have e := hm b o y hg
        simp only at hx
        rw [e] at hx; cases hx
        have hs := h.store.sat b o x hg
        refine ⟨?_, hs.2⟩
        rw [World.cell?_of_block (w := w) (hf.block b (h.store.sat_lt hg) (fun x => x))]; exact hs.1
      | none => exact (hnew b o x hx hg).2
    · have hlt : j < σ.ob.length := by
        have := (List.getElem?_eq_some_iff.1 ho).1
        simp at this; omega
      rw [List.getElem?_append_left hlt] at ho
      exact ⟨o1, ho, ObLe.refl hle o1⟩
    · by_cases hj : j < σ.ob.length
      · rw [List.getElem?_append_left hj] at ho
        have := h.store.its j i f dn cur ho
        rw [List.getElem?_append_left (List.getElem?_eq_some_iff.1 this).1]; exact this
      · have hj' : j = σ.ob.length := by have := (List.getElem?_eq_some_iff.1 ho).1; simp at this; omega
        subst hj'
        simp at ho
        have := hit i f dn cur ho
        rw [List.getElem?_append_left (List.getElem?_eq_some_iff.1 this).1]; exact this
    · have hlt : j < σ.ob.length := by
        have := (List.getElem?_eq_some_iff.1 ho).1
        simp at this; omega
      rw [List.getElem?_append_left hlt] at ho
      have := (List.getElem?_eq_some_iff.1 (h.store.its j i f dn cur ho)).1
      omega
    · have hlt := h.store.lt ho hq hb
      exact ⟨hf.block b hlt (fun x => x), fun i hn => hnone b i hlt hn⟩
    · subst hj
      simp at ho; subst ho
      exact ⟨pl, hlast, hok⟩
    · subst hj
      simp at ho; subst ho
      simp only at hq
      rw [hlast] at hq; cases hq
      exact .inr (hblk b hb)
  · refine h.stp.step hf (fun b hb => hb.elim) hm (fun b o x hx hn => .inr (hnew b o x hx hn).1) (fun i o p b h1 h2 h3 => ?_) (fun i b => hle.gs i _)
    by_cases hj : i < σ.ob.length
    · rw [List.getElem?_append_left hj] at h1
      simp only at h2
      rw [List.getElem?_append_left (by omega)] at h2
      exact .inl (h.stp.own i o p b h1 h2 h3)
    · have hj' : i = σ.ob.length := by have := (List.getElem?_eq_some_iff.1 h1).1; simp at this; omega
      subst hj'
      simp at h1; subst h1
      simp only at h2
      rw [hlast] at h2; cases h2
      exact .inr (hblk b h3)

/-- an object is written, where it is -/
theorem RelG.upd1 (h : RelG GL B σ g a w) {w' : World} {i b : Nat} {o o' : Ob} (ho : σ.ob[i]? = some o) (hpl : g.gs[i]? = some (.loc b)) (hb : blkOf o (.loc b) = some b) (hf : Fr (fun c => c = b) w w')
    (hok : ObOk g w' o' (.loc b)) (hb' : blkOf o' (.loc b) = some b ∨ o' = .dead) (hno : ∀ (j : Nat) f dn cur, σ.ob[j]? ≠ some (.itI i f dn cur)) (hit : ∀ k f dn cur, o' = .itI k f dn cur → k ≠ i ∧ σ.ob[k]? = some (.mapI f))
    (hmn : ∀ off, g.m b off = none) :
    RelG GL B ⟨σ.n, σ.sl, σ.ob.set i o'⟩ g a w' ∧ Keep (fun j => j = i) σ.ob g w g w' := by
  have hlen := h.store.len
  have hi := (List.getElem?_eq_some_iff.1 ho).1
  have hne : ∀ (j : Nat) oj pj c, j ≠ i → σ.ob[j]? = some oj → g.gs[j]? = some pj → blkOf oj pj = some c → c ≠ b := fun j oj pj c hj h1 h2 h3 e => by
    subst e; exact hj (h.store.disj j i oj o pj _ c h1 ho h2 hpl h3 hb)
  refine ⟨⟨h.defers, h.size, h.slots, ?_, ?_⟩, Mle.refl _, fun j c oj hj h1 h2 h3 => ⟨h2, hf.block c (h.store.lt h1 h2 h3) (hne j oj _ c hj h1 h2 h3)⟩⟩
  · refine h.store.step (p := fun j => j = i) (Mle.refl _) (fun _ _ h => h) (fun _ _ _ h => h) (fun c off x hx => ?_) (by simp [hlen]) (fun j o1 hj h1 => ?_) (fun j k f dn cur h1 => ?_) (fun j k f dn cur hj h1 hk => ?_)
      (fun j o1 q c hj h1 h2 h3 => ⟨hf.block c (h.store.lt h1 h2 h3) (hne j o1 q c hj h1 h2 h3), fun _ h => h⟩) (fun j o1 hj h1 => ?_) (fun j o1 q c hj h1 h2 h3 => ?_) (fun i j oi oj pi pj b hi hj _ _ _ _ _ _ => hi.trans hj.symm)
    · have hs := h.store.sat c off x hx
      refine ⟨?_, hs.2⟩
      have hcb : ¬ c = b := fun e => by subst e; rw [hmn] at hx; cases hx
      rw [World.cell?_of_block (w := w) (hf.block c (h.store.sat_lt hx) hcb)]; exact hs.1
    · rw [List.getElem?_set_ne (Ne.symm hj)] at h1
      exact ⟨o1, h1, ObLe.refl (Gle.refl g) o1⟩
    · by_cases hj : j = i
      · subst hj
        rw [List.getElem?_set_self hi] at h1
        cases h1
        obtain ⟨h5, h6⟩ := hit k f dn cur rfl
        rw [List.getElem?_set_ne (Ne.symm h5)]; exact h6
      · rw [List.getElem?_set_ne (Ne.symm hj)] at h1
        have h2 := h.store.its j k f dn cur h1
        by_cases hk : k = i
        · subst hk; exact absurd h1 (hno j f dn cur)
        · rw [List.getElem?_set_ne (Ne.symm hk)]; exact h2
    · rw [List.getElem?_set_ne (Ne.symm hj)] at h1
      subst hk
      exact hno j f dn cur h1
    · subst hj
      rw [List.getElem?_set_self hi] at h1
      cases h1
      exact ⟨_, hpl, hok⟩
    · subst hj
      rw [List.getElem?_set_self hi] at h1
      cases h1
      rw [hpl] at h2; cases h2
      rcases hb' with hb' | rfl
      · rw [hb'] at h3; cases h3
        exact .inl ⟨j, o, _, rfl, ho, hpl, hb⟩
      · simp [blkOf] at h3
  · refine h.stp.step hf (fun c e => by subst e; exact h.stp.own i o _ c ho hpl hb) (Mle.refl _) (fun c off x hx hn => by rw [hn] at hx; cases hx) (fun j o1 p c h1 h2 h3 => ?_) (fun _ _ h => h)
    by_cases hj : j = i
    · subst hj
      rw [List.getElem?_set_self hi] at h1
      cases h1
      rw [hpl] at h2; cases h2
      rcases hb' with hb' | rfl
      · rw [hb'] at h3; cases h3
        exact .inl (h.stp.own j o _ _ ho hpl hb)
      · simp [blkOf] at h3
    · rw [List.getElem?_set_ne (Ne.symm hj)] at h1
      exact .inl (h.stp.own j o1 p c h1 h2 h3)

/-! rows that go on -/
mutual
def SV.kO (i : Nat) : SV → Option SV
  | .own j k ls => cond (Nat.beq j i) (some (.d (.sl k ls))) (some (.own j k ls))
  | .agg l => (kOL i l).bind fun l' => some (.agg l')
  | .tup l => (kOL i l).bind fun l' => some (.tup l')
  | .fn f first caps => (kOL i first).bind fun a => (kOL i caps).bind fun b => some (.fn f a b)
  | .ifc T s => (s.kO i).bind fun s' => some (.ifc T s')
  | .d x => some (.d x)
  | .blk j off => some (.blk j off)
  | .map j => some (.map j)
  | .rp j => cond (Nat.beq j i) (some .junk) (some (.rp j))
  | .junk => some .junk
def kOL (i : Nat) : List SV → Option (List SV)
  | [] => some []
  | s :: r => (s.kO i).bind fun s' => (kOL i r).bind fun r' => some (s' :: r')
end
mutual
theorem kO_eq {i : Nat} : ∀ {s s' : SV}, s.kO i = some s' → s' = s.kill fun j => Nat.beq j i
  | .own j k ls, s', h => by
    simp only [SV.kO] at h
    simp only [SV.kill]
    cases hb : Nat.beq j i <;> rw [hb] at h <;> simp at h <;> simp [h]
  | .agg l, s', h => by
    simp only [SV.kO, Option.bind_eq_some_iff, Option.some.injEq] at h
    obtain ⟨l', h1, rfl⟩ := h
    simp only [SV.kill, kOL_eq h1]
  | .tup l, s', h => by
    simp only [SV.kO, Option.bind_eq_some_iff, Option.some.injEq] at h
    obtain ⟨l', h1, rfl⟩ := h
    simp only [SV.kill, kOL_eq h1]
  | .fn f a b, s', h => by
    simp only [SV.kO, Option.bind_eq_some_iff, Option.some.injEq] at h
    obtain ⟨a', h1, b', h2, rfl⟩ := h
    simp only [SV.kill, kOL_eq h1, kOL_eq h2]
  | .ifc T s, s', h => by
    simp only [SV.kO, Option.bind_eq_some_iff, Option.some.injEq] at h
    obtain ⟨a', h1, rfl⟩ := h
    simp only [SV.kill, kO_eq h1]
  | .d x, s', h => by simp [SV.kO] at h; subst h; rfl
  | .blk j off, s', h => by simp [SV.kO] at h; subst h; rfl
  | .map j, s', h => by simp [SV.kO] at h; subst h; rfl
  | .rp j, s', h => by
    simp only [SV.kO] at h
    simp only [SV.kill]
    cases hb : Nat.beq j i <;> rw [hb] at h <;> simp at h <;> simp [h]
  | .junk, s', h => by simp [SV.kO] at h; subst h; rfl
theorem kOL_eq {i : Nat} : ∀ {s s' : List SV}, kOL i s = some s' → s' = killL (fun j => Nat.beq j i) s
  | [], s', h => by simp [kOL] at h; subst h; rfl
  | s :: r, s', h => by
    simp only [kOL, Option.bind_eq_some_iff, Option.some.injEq] at h
    obtain ⟨a', h1, b', h2, rfl⟩ := h
    simp only [killL, kO_eq h1, kOL_eq h2]
end
def kSl (i : Nat) : List (Nat × SV) → Option (List (Nat × SV))
  | [] => some []
  | (t, s) :: r => (s.kO i).bind fun s' => (kSl i r).bind fun r' => some ((t, s') :: r')
theorem kSl_slk {i t : Nat} : ∀ {l l' : List (Nat × SV)}, kSl i l = some l' → slk t l' = (slk t l).kill fun j => Nat.beq j i
  | [], l', h => by simp [kSl] at h; subst h; rfl
  | (k, s) :: r, l', h => by
    simp only [kSl, Option.bind_eq_some_iff, Option.some.injEq] at h
    obtain ⟨a', h1, b', h2, rfl⟩ := h
    rw [slk_cons, slk_cons]
    split
    · exact kO_eq h1
    · exact kSl_slk h2
def Ob.kO (i : Nat) : Ob → Option Ob
  | .cells l ty => (kOL i l).bind fun l' => some (.cells l' ty)
  | .row e k => some (.row e k)
  | .nilrow e k => some (.nilrow e k)
  | .mapI f => some (.mapI f)
  | .itI j f dn cur => some (.itI j f dn cur)
  | .dead => some .dead
def kOb (i : Nat) : List Ob → Option (List Ob)
  | [] => some []
  | o :: r => (o.kO i).bind fun o' => (kOb i r).bind fun r' => some (o' :: r')
theorem kOb_get {i : Nat} : ∀ {l l' : List Ob}, kOb i l = some l' → l'.length = l.length ∧ ∀ (j : Nat) o', l'[j]? = some o' → ∃ o, l[j]? = some o ∧ o.kO i = some o'
  | [], l', h => by simp [kOb] at h; subst h; simp
  | o :: r, l', h => by
    simp only [kOb, Option.bind_eq_some_iff, Option.some.injEq] at h
    obtain ⟨a', h1, b', h2, rfl⟩ := h
    have ih := kOb_get h2
    refine ⟨by simp [ih.1], fun j o' hj => ?_⟩
    cases j with
    | zero => simp at hj; subst hj; exact ⟨o, rfl, h1⟩
    | succ j => simpa using ih.2 j o' (by simpa using hj)
theorem ObLe.kO {g g' : Gh} {i : Nat} (h : Gkl (fun j => Nat.beq j i) g g') {o o' : Ob} (hk : o.kO i = some o') : ObLe g g' o o' := by
  cases o <;> simp only [Ob.kO, Option.bind_eq_some_iff, Option.some.injEq] at hk
  case cells l ty => obtain ⟨l', h1, rfl⟩ := hk; rw [kOL_eq h1]; exact ⟨rfl, fun vs hd => SDenL.kill h l hd⟩
  case row => subst hk; exact ⟨rfl, rfl⟩
  case nilrow => subst hk; exact ⟨rfl, rfl⟩
  case mapI => subst hk; rfl
  case itI => subst hk; exact ⟨rfl, rfl, rfl, .inl rfl⟩
  case dead => subst hk; trivial

/-- row i gets a new place, or more in it -/
theorem RelG.row1 (h : RelG GL B σ g a w) {w' : World} {i : Nat} {o : Ob} {b : Option Nat} {cap n : Nat} {e : TypeId} {k : Nat} (ho : σ.ob[i]? = some o) (hor : o = .row e k ∨ o = .nilrow e k) (hpl : g.gs[i]? = some (.row b cap n)) (hf : Fr (fun c => b = some c ∧ o = .row e k) w w')
    {m' : Mem} (hm : Mle g.m m') {c cap' n' : Nat} (hc : (b = some c ∧ o = .row e k) ∨ w.heap.size ≤ c)
    (hnew : ∀ d off x, m' d off = some x → g.m d off = none → d = c) (hsat : ∀ off x, m' c off = some x → w'.cell? ⟨c, off, none⟩ = some x ∧ x.oneCell' = true)
    (hold : ∀ d off x, b = some d → g.m d off = some x → w'.cell? ⟨d, off, none⟩ = some x)
    (hok : ∃ xs, w'.ownsRow 0 e k (.slice (some ⟨c, 0, none⟩) n' cap') n' xs) (hfree : ∀ off, n' * k ≤ off → m' c off = none)
    {sl' : List (Nat × SV)} {ob' : List Ob} (hsl : kSl i σ.sl = some sl') (hob : kOb i σ.ob = some ob') :
    RelG GL B ⟨σ.n, sl', ob'.set i (.row e k)⟩ ⟨m', g.gs.set i (.row (some c) cap' n')⟩ a w' ∧ Keep (fun j => j = i) σ.ob g w ⟨m', g.gs.set i (.row (some c) cap' n')⟩ w' := by
  have hlen := h.store.len
  have hi := (List.getElem?_eq_some_iff.1 ho).1
  have hob2 := kOb_get hob
  have hself : (g.gs.set i (.row (some c) cap' n'))[i]? = some (.row (some c) cap' n') := List.getElem?_set_self (by omega)
  have hgs : ∀ (j : Nat) q, j ≠ i → g.gs[j]? = some q → (g.gs.set i (.row (some c) cap' n'))[j]? = some q := fun j q hj hq => by rw [List.getElem?_set_ne (Ne.symm hj)]; exact hq
  have hat : ∀ (j d : Nat), g.gs[j]? = some (.loc d) → (g.gs.set i (.row (some c) cap' n'))[j]? = some (.loc d) := fun j d hd => hgs j _ (fun e => by subst e; rw [hpl] at hd; cases hd) hd
  have hkl : Gkl (fun j => Nat.beq j i) g ⟨m', g.gs.set i (.row (some c) cap' n')⟩ := ⟨hm, fun j q hq hj => hgs j q (fun e => by subst e; simp at hj) hq, hat⟩
  have hbr : ∀ d, b = some d ∧ o = .row e k → blkOf o (.row b cap n) = some d := fun d hd => by rw [hd.2, hd.1]; rfl
  have hne : ∀ (j : Nat) oj pj d, j ≠ i → σ.ob[j]? = some oj → g.gs[j]? = some pj → blkOf oj pj = some d → ¬ (b = some d ∧ o = .row e k) ∧ d ≠ c := fun j oj pj d hj h1 h2 h3 => by
    have h4 : ¬ (b = some d ∧ o = .row e k) := fun hd => hj (h.store.disj j i oj o pj _ d h1 ho h2 hpl h3 (hbr d hd))
    refine ⟨h4, fun e => ?_⟩
    subst e
    rcases hc with hc | hc
    · exact h4 hc
    · have := h.store.lt h1 h2 h3; omega
  refine ⟨⟨h.defers, h.size, fun t => ?_, ?_, ?_⟩, hm, fun j d oj hj h1 h2 h3 => ⟨hat j d h2, hf.block d (h.store.lt h1 h2 h3) (hne j oj _ d hj h1 h2 h3).1⟩⟩
  · show (slk t sl').Den _ _
    rw [kSl_slk hsl]
    exact SV.Den.kill hkl _ (h.slots t)
  · refine h.store.step (p := fun j => j = i) hm hat hgs (fun d off x hx => ?_) (by simp [hob2.1, hlen]) (fun j o1 hj h1 => ?_) (fun j q f dn cur h1 => ?_) (fun j q f dn cur hj h1 hk => ?_)
      (fun j o1 q d hj h1 h2 h3 => ⟨hf.block d (h.store.lt h1 h2 h3) (hne j o1 q d hj h1 h2 h3).1, fun off hn => ?_⟩) (fun j o1 hj h1 => ?_) (fun j o1 q d hj h1 h2 h3 => ?_) (fun i j oi oj pi pj b hi hj _ _ _ _ _ _ => hi.trans hj.symm)
    · by_cases hdc : d = c
      · subst hdc; exact hsat off x hx
      · cases hg : g.m d off with
        | none => exact absurd (hnew d off x hx hg) hdc
        | some y =>
          have e1 := hm d off y hg
          simp only at hx
          rw [e1] at hx; cases hx
          have hs := h.store.sat d off x hg
          refine ⟨?_, hs.2⟩
          by_cases hbd : b = some d ∧ o = .row e k
          · exact hold d off x hbd.1 hg
          · rw [World.cell?_of_block (w := w) (hf.block d (h.store.sat_lt hg) hbd)]; exact hs.1
    · rw [List.getElem?_set_ne (Ne.symm hj)] at h1
      obtain ⟨o2, h2, h3⟩ := hob2.2 j o1 h1
      exact ⟨o2, h2, ObLe.kO hkl h3⟩
    · by_cases hj : j = i
      · subst hj
        rw [List.getElem?_set_self (by rw [hob2.1]; exact hi)] at h1
        cases h1
      · rw [List.getElem?_set_ne (Ne.symm hj)] at h1
        obtain ⟨o2, h2, h3⟩ := hob2.2 j _ h1
        have h4 : o2 = .itI q f dn cur := by
          cases o2 <;> simp only [Ob.kO, Option.bind_eq_some_iff, Option.some.injEq] at h3
          case cells => obtain ⟨_, _, h3⟩ := h3; cases h3
          all_goals (cases h3; try rfl)
        subst h4
        have h5 := h.store.its j q f dn cur h2
        have hq : q ≠ i := fun e => by subst e; rw [ho] at h5; cases h5; rcases hor with hor | hor <;> cases hor
        rw [List.getElem?_set_ne (Ne.symm hq)]
        have h6 : q < ob'.length := by rw [hob2.1]; exact (List.getElem?_eq_some_iff.1 h5).1
        obtain ⟨o3, h7, h8⟩ := hob2.2 q ob'[q] (by simp [h6])
        rw [h5] at h7; cases h7
        simp [Ob.kO] at h8
        rw [List.getElem?_eq_getElem h6, ← h8]
    · rw [List.getElem?_set_ne (Ne.symm hj)] at h1
      obtain ⟨o2, h2, h3⟩ := hob2.2 j _ h1
      have h4 : o2 = .itI q f dn cur := by
        cases o2 <;> simp only [Ob.kO, Option.bind_eq_some_iff, Option.some.injEq] at h3
        case cells => obtain ⟨_, _, h3⟩ := h3; cases h3
        all_goals (cases h3; try rfl)
      have hk : q = i := hk
      subst h4 hk
      have h5 := h.store.its j _ f dn cur h2
      rw [ho] at h5; cases h5; rcases hor with hor | hor <;> cases hor
    · cases hx : m' d off with
      | none => exact hx
      | some x => exact absurd (hnew d off x hx hn) (hne j o1 q d hj h1 h2 h3).2
    · subst hj
      rw [List.getElem?_set_self (by rw [hob2.1]; exact hi)] at h1
      cases h1
      exact ⟨_, hself, hok, fun d hd off hoff => by cases hd; exact hfree off hoff⟩
    · subst hj
      rw [List.getElem?_set_self (by rw [hob2.1]; exact hi)] at h1
      cases h1
      simp only at h2
      rw [hself] at h2; cases h2
      simp only [blkOf, Option.some.injEq] at h3
      subst h3
      rcases hc with hc | hc
      · exact .inl ⟨_, o, _, rfl, ho, hpl, hbr _ hc⟩
      · exact .inr hc
  · have hX : ∀ d, b = some d ∧ o = .row e k → B.X d ∨ B.w.heap.size ≤ d := fun d hd => h.stp.own i o _ d ho hpl (hbr d hd)
    refine h.stp.step hf hX hm (fun d off x hx hn => by
        have := hnew d off x hx hn
        subst this; exact hc) (fun j o1 p d h1 h2 h3 => ?_) hat
    by_cases hj : j = i
    · subst hj
      rw [List.getElem?_set_self (by rw [hob2.1]; exact hi)] at h1
      cases h1
      simp only at h2
      rw [hself] at h2; cases h2
      simp only [blkOf, Option.some.injEq] at h3
      subst h3
      rcases hc with hc | hc
      · exact .inl (hX _ hc)
      · exact .inr hc
    · rw [List.getElem?_set_ne (Ne.symm hj)] at h1
      simp only at h2
      rw [List.getElem?_set_ne (Ne.symm hj)] at h2
      obtain ⟨o2, h4, h5⟩ := hob2.2 j o1 h1
      refine .inl (h.stp.own j o2 p d h4 h2 ?_)
      rcases (ObLe.kO hkl h5).blk h3 (fun _ _ => trivial) with h6 | ⟨e', k', rfl⟩
      · exact h6
      · simp [Ob.kO] at h5; subst h5; simp [blkOf] at h3
end
end Go.Vd
