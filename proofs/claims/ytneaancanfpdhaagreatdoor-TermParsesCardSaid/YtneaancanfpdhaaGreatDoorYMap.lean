/-
  What is proved here: maps from texts to numbers in memory: what a look-up, a store, a deletion and a range over one do; over any program P.
-/
import Derived.Test.YtneaancanfpdhaaGreatDoorY1
import Derived.Carry
import Derived.MapKept
import Derived.Laws.IdiomRangeMap
namespace Go.Vd
open Go Go.RowKit Go.MapKept

/-- block b is a map from texts to numbers -/
def MapSI (w : World) (b : Nat) (M : ByteArray → Option Int) : Prop :=
  ∃ es clock, w.heap[b]? = some (.map es clock) ∧ Stamped es clock ∧ (∀ e ∈ es.toList, ∃ s n, e.key = .string s ∧ e.val = .int .i64 n) ∧
    ∀ s n, M s = some n ↔ ∃ e ∈ es.toList, e.key = .string s ∧ e.val = .int .i64 n
def updM (M : ByteArray → Option Int) (s : ByteArray) (n : Int) : ByteArray → Option Int := fun t => if t = s then some n else M t
def delM (M : ByteArray → Option Int) (s : ByteArray) : ByteArray → Option Int := fun t => if t = s then none else M t

theorem MapSI.lt {w : World} {b : Nat} {M : ByteArray → Option Int} (h : MapSI w b M) : b < w.heap.size := by
  obtain ⟨es, clock, hb, _⟩ := h
  exact (Array.getElem?_eq_some_iff.1 hb).1
theorem MapSI.keep {w w' : World} {b : Nat} {M : ByteArray → Option Int} (h : MapSI w b M) (k : w'.heap[b]? = w.heap[b]?) : MapSI w' b M := by
  obtain ⟨es, clock, hb, r⟩ := h
  exact ⟨es, clock, k.trans hb, r⟩
theorem MapSI.fr {X : Nat → Prop} {w w' : World} {b : Nat} {M : ByteArray → Option Int} (h : MapSI w b M) (f : Fr X w w') (hx : ¬ X b) : MapSI w' b M := h.keep (f.block b h.lt hx)
theorem MapSI.made (w : World) : MapSI (w.alloc (.map #[] 0)) w.heap.size fun _ => none :=
  ⟨#[], 0, (MapKept.heap_alloc w _).1, stamped_empty 0, by simp, by simp⟩

section
variable {P : Program} {w : World} {b : Nat} {M : ByteArray → Option Int} {t k e : TypeId}

theorem one_of_key {es : Array MapEntry} {clock : Nat} (hs : Stamped es clock) {x y : MapEntry} (hx : x ∈ es.toList) (hy : y ∈ es.toList) (h : x.key = y.key) : x = y := by
  have hn := hs.2.2
  have key : ∀ l : List MapEntry, (l.map (·.key)).Nodup → x ∈ l → y ∈ l → x = y := by
    intro l
    induction l with
    | nil => intro _ h; cases h
    | cons a r ih =>
      intro hn hx hy
      simp only [List.map_cons, List.nodup_cons] at hn
      cases hx with
      | head =>
        cases hy with
        | head => rfl
        | tail _ hy => exact absurd (by rw [h]; exact List.mem_map.2 ⟨y, hy, rfl⟩) hn.1
      | tail _ hx =>
        cases hy with
        | head => exact absurd (by rw [← h]; exact List.mem_map.2 ⟨x, hx, rfl⟩) hn.1
        | tail _ hy => exact ih hn.2 hx hy
  exact key _ hn hx hy

theorem run_zero_int (hz : (P.info? e).bind (·.zero) = some (.int .i64 0)) : (zeroValue e).run P w = .ok (.int .i64 0) w := by
  cases hi : P.info? e with
  | none => simp [hi] at hz
  | some i =>
    rw [hi] at hz
    simp only [Option.bind_some] at hz
    simp [zeroValue, typeInfo, hi, hz, Result.andThen]

theorem MapSI.lookup (h : MapSI w b M) (ht : P.underlying t = some (.map k e)) (hk : P.underlying k = some .string) (hz : (P.info? e).bind (·.zero) = some (.int .i64 0)) (s : ByteArray) (c : Bool) :
    (Instr.lookup t (.map (some b)) (.string s) c).run P w = .ok (if c then .tuple #[.int .i64 ((M s).getD 0), .bool (M s).isSome] else .int .i64 ((M s).getD 0)) w := by
  obtain ⟨es, clock, hb, hs, hks, hM⟩ := h
  have hkey : IsKey .string (.string s) := trivial
  have hall : ∀ x ∈ es.toList, IsKey .string x.key := fun x hx => by obtain ⟨s', n, h1, _⟩ := hks x hx; rw [h1]; trivial
  rcases findNow_spec hkey es.toList 0 hall with ⟨h1, h2⟩ | ⟨j, e0, h1, h2, h3⟩
  · have : M s = none := by
      cases hm : M s with
      | none => rfl
      | some n => obtain ⟨x, hx, hxk, _⟩ := (hM s n).1 hm; exact absurd hxk (h2 x hx)
    rw [this]
    cases c <;> simp [Instr.lookup, run_underlying ht, MapKept.run_getObj_map hb, run_checkKey hk hkey, run_findKey hk h1, run_zero_int hz, Result.andThen]
  · have hm := List.mem_of_getElem? h2
    obtain ⟨s', n, h4, h5⟩ := hks e0 hm
    have : M s = some n := (hM s n).2 ⟨e0, hm, h3, h5⟩
    rw [this]
    cases c <;> simp [Instr.lookup, run_underlying ht, MapKept.run_getObj_map hb, run_checkKey hk hkey, run_findKey hk h1, h5, Result.andThen]

theorem fr_set {X : Nat → Prop} {w : World} {b : Nat} {o : Obj} (hx : X b) : Fr X w { w with heap := w.heap.setIfInBounds b o } :=
  ⟨rfl, rfl, rfl, by simp, fun c _ hc => by simp [show ¬ b = c from fun e => hc (e ▸ hx)]⟩

theorem MapSI.update (h : MapSI w b M) (ht : P.underlying t = some (.map k e)) (hk : P.underlying k = some .string) (s : ByteArray) (n : Int) :
    ∃ w', (Instr.mapUpdate t (.map (some b)) (.string s) (.int .i64 n)).run P w = .ok () w' ∧ MapSI w' b (updM M s n) ∧ Fr (fun c => c = b) w w' := by
  obtain ⟨es, clock, hb, hs, hks, hM⟩ := h
  have hkey : IsKey .string (.string s) := trivial
  have hall : ∀ x ∈ es.toList, IsKey .string x.key := fun x hx => by obtain ⟨s', n, h1, _⟩ := hks x hx; rw [h1]; trivial
  rcases findNow_spec hkey es.toList 0 hall with ⟨h1, h2⟩ | ⟨j, e0, h1, h2, h3⟩
  · refine ⟨{ w with heap := w.heap.setIfInBounds b (.map (es.push { key := .string s, val := .int .i64 n, born := clock }) (clock + 1)) }, ?_, ⟨_, _, (heap_set hb).1, stamped_push hs h2, ?_, ?_⟩, fr_set rfl⟩
    · simp [Instr.mapUpdate, run_underlying ht, MapKept.run_getObj_map hb, run_checkKey hk hkey, run_findKey hk h1, MapKept.run_setObj_map _ hb, Result.andThen]
    · intro x hx
      simp only [Array.toList_push, List.mem_append, List.mem_singleton] at hx
      rcases hx with hx | rfl
      · exact hks x hx
      · exact ⟨s, n, rfl, rfl⟩
    · intro s' n'
      simp only [Array.toList_push, List.mem_append, List.mem_singleton, updM]
      by_cases he : s' = s
      · subst he
        rw [if_pos rfl]
        constructor
        · intro hh; cases hh; exact ⟨_, .inr rfl, rfl, rfl⟩
        · rintro ⟨x, hx | rfl, hk1, hv1⟩
          · exact absurd hk1 (h2 x hx)
          · simp at hv1; rw [hv1]
      · rw [if_neg he, hM]
        constructor
        · rintro ⟨x, hx, hr⟩; exact ⟨x, .inl hx, hr⟩
        · rintro ⟨x, hx | rfl, hk1, hv1⟩
          · exact ⟨x, hx, hk1, hv1⟩
          · simp at hk1; exact absurd hk1.symm he
  · have hj : es[j]? = some e0 := by simpa using h2
    have hkk : ∀ e', es[j]? = some e' → ({ e' with key := .string s, val := .int .i64 n } : MapEntry).key = e'.key := fun e' he' => by rw [hj] at he'; cases he'; exact h3.symm
    have hmm : ∀ x, x ∈ (es.modify j fun e => { e with key := .string s, val := .int .i64 n }).toList ↔ (x ∈ es.toList ∧ x.key ≠ .string s) ∨ x = { e0 with key := .string s, val := .int .i64 n } := by
      intro x
      have hjl : j < es.size := (Array.getElem?_eq_some_iff.1 hj).1
      constructor
      · intro hx
        obtain ⟨i, hi⟩ := List.mem_iff_getElem?.1 hx
        rw [Array.getElem?_toList, Array.getElem?_modify] at hi
        by_cases hij : j = i
        · subst hij
          rw [if_pos rfl, hj] at hi
          simp at hi
          exact .inr hi.symm
        · rw [if_neg hij] at hi
          have hxm : x ∈ es.toList := Array.mem_toList_iff.2 (Array.mem_of_getElem? hi)
          refine .inl ⟨hxm, fun hk1 => hij ?_⟩
          have hnd := hs.2.2
          have e1 : (es.toList.map (·.key))[j]? = some (.string s) := by simp [hj, h3]
          have e2 : (es.toList.map (·.key))[i]? = some (.string s) := by simp [hi, hk1]
          exact (List.getElem?_inj (by simpa using hjl) hnd).1 (e1.trans e2.symm)
      · rintro (⟨hx, hk1⟩ | rfl)
        · obtain ⟨i, hi⟩ := List.mem_iff_getElem?.1 hx
          refine List.mem_iff_getElem?.2 ⟨i, ?_⟩
          rw [Array.getElem?_toList, Array.getElem?_modify]
          have hij : ¬ j = i := fun e => by subst e; rw [h2] at hi; cases hi; exact hk1 h3
          rw [if_neg hij]; simpa using hi
        · refine List.mem_iff_getElem?.2 ⟨j, ?_⟩
          rw [Array.getElem?_toList, Array.getElem?_modify, if_pos rfl, hj]; rfl
    refine ⟨{ w with heap := w.heap.setIfInBounds b (.map (es.modify j fun e => { e with key := .string s, val := .int .i64 n }) clock) }, ?_, ⟨_, _, (heap_set hb).1, stamped_modify hs _ _ (fun _ _ => rfl) (fun e' _ he' => hkk e' he'), ?_, ?_⟩, fr_set rfl⟩
    · simp [Instr.mapUpdate, run_underlying ht, MapKept.run_getObj_map hb, run_checkKey hk hkey, run_findKey hk h1, hj, h3, run_keyThatStays hkey, MapKept.run_setObj_map _ hb, Result.andThen]
    · intro x hx
      rcases (hmm x).1 hx with ⟨h, _⟩ | rfl
      · exact hks x h
      · exact ⟨s, n, rfl, rfl⟩
    · intro s' n'
      simp only [updM]
      by_cases he : s' = s
      · subst he
        rw [if_pos rfl]
        constructor
        · intro hh; cases hh; exact ⟨_, (hmm _).2 (.inr rfl), rfl, rfl⟩
        · rintro ⟨x, hx, hk1, hv1⟩
          rcases (hmm x).1 hx with ⟨_, h⟩ | rfl
          · exact absurd hk1 h
          · simp at hv1; rw [hv1]
      · rw [if_neg he, hM]
        constructor
        · rintro ⟨x, hx, hk1, hv1⟩; exact ⟨x, (hmm x).2 (.inl ⟨hx, by rw [hk1]; simpa using he⟩), hk1, hv1⟩
        · rintro ⟨x, hx, hk1, hv1⟩
          rcases (hmm x).1 hx with ⟨h, _⟩ | rfl
          · exact ⟨x, h, hk1, hv1⟩
          · simp at hk1; exact absurd hk1.symm he

theorem MapSI.delete {ty : TypeId} (h : MapSI w b M) (ht : P.underlying t = some (.map k e)) (hk : P.underlying k = some .string) (s : ByteArray) :
    ∃ w', (Builtin.delete_ #[t, k] ty #[.map (some b), .string s]).run P w = .ok (.tuple #[]) w' ∧ MapSI w' b (delM M s) ∧ Fr (fun c => c = b) w w' := by
  obtain ⟨es, clock, hb, hs, hks, hM⟩ := h
  have hkey : IsKey .string (.string s) := trivial
  have hall : ∀ x ∈ es.toList, IsKey .string x.key := fun x hx => by obtain ⟨s', n, h1, _⟩ := hks x hx; rw [h1]; trivial
  rcases findNow_spec hkey es.toList 0 hall with ⟨h1, h2⟩ | ⟨j, e0, h1, h2, h3⟩
  · refine ⟨{ w with heap := w.heap.setIfInBounds b (.map es clock) }, ?_, ⟨_, _, (heap_set hb).1, hs, hks, ?_⟩, fr_set rfl⟩
    · simp [Builtin.delete_, run_underlying ht, MapKept.run_getObj_map hb, run_checkKey hk hkey, run_findKey hk h1, MapKept.run_setObj_map _ hb, Result.andThen]
    · intro s' n'
      simp only [delM]
      by_cases he : s' = s
      · subst he
        rw [if_pos rfl]
        exact ⟨fun h => (by cases h), fun ⟨x, hx, hk1, _⟩ => absurd hk1 (h2 x hx)⟩
      · rw [if_neg he, hM]
  · have hjl : j < es.toList.length := (List.getElem?_eq_some_iff.1 h2).1
    have hjs : j < es.size := by simpa using hjl
    have hsub : (es.eraseIdxIfInBounds j).toList = es.toList.eraseIdx j := by
      unfold Array.eraseIdxIfInBounds
      rw [dif_pos hjs]
      simp
    have hmm : ∀ x, x ∈ (es.eraseIdxIfInBounds j).toList ↔ x ∈ es.toList ∧ x.key ≠ .string s := by
      intro x
      rw [hsub]
      have hnd := hs.2.2
      constructor
      · intro hx
        refine ⟨(List.eraseIdx_sublist _ _).subset hx, fun hk1 => ?_⟩
        obtain ⟨i, hi⟩ := List.mem_iff_getElem?.1 hx
        rw [List.getElem?_eraseIdx] at hi
        have e1 : (es.toList.map (·.key))[j]? = some (.string s) := by rw [List.getElem?_map, h2]; simp [h3]
        split at hi
        · have e2 : (es.toList.map (·.key))[i]? = some (.string s) := by rw [List.getElem?_map, hi]; simp [hk1]
          have := (List.getElem?_inj (by simpa using hjs) hnd).1 (e1.trans e2.symm)
          omega
        · have e2 : (es.toList.map (·.key))[i + 1]? = some (.string s) := by rw [List.getElem?_map, hi]; simp [hk1]
          have := (List.getElem?_inj (by simpa using hjs) hnd).1 (e1.trans e2.symm)
          omega
      · rintro ⟨hx, hk1⟩
        obtain ⟨i, hi⟩ := List.mem_iff_getElem?.1 hx
        have hij : i ≠ j := fun e => by subst e; rw [h2] at hi; cases hi; exact hk1 h3
        rw [List.mem_iff_getElem?]
        by_cases hlt : i < j
        · exact ⟨i, by rw [List.getElem?_eraseIdx, if_pos hlt]; exact hi⟩
        · exact ⟨i - 1, by rw [List.getElem?_eraseIdx, if_neg (by omega), show i - 1 + 1 = i by omega]; exact hi⟩
    refine ⟨{ w with heap := w.heap.setIfInBounds b (.map (es.eraseIdxIfInBounds j) clock) }, ?_, ⟨_, _, (heap_set hb).1, stamped_erase hs j, ?_, ?_⟩, fr_set rfl⟩
    · simp [Builtin.delete_, run_underlying ht, MapKept.run_getObj_map hb, run_checkKey hk hkey, run_findKey hk h1, MapKept.run_setObj_map _ hb, Result.andThen]
    · intro x hx
      exact hks x ((hmm x).1 hx).1
    · intro s' n'
      simp only [delM]
      by_cases he : s' = s
      · subst he
        rw [if_pos rfl]
        exact ⟨fun h => (by cases h), fun ⟨x, hx, hk1, _⟩ => absurd hk1 ((hmm x).1 hx).2⟩
      · rw [if_neg he, hM]
        constructor
        · rintro ⟨x, hx, hk1, hv1⟩; exact ⟨x, (hmm x).2 ⟨hx, by rw [hk1]; simpa using he⟩, hk1, hv1⟩
        · rintro ⟨x, hx, hk1, hv1⟩; exact ⟨x, ((hmm x).1 hx).1, hk1, hv1⟩

/-- an iterator in block it over the map in block b: what has been handed out, how many are left -/
def ItSI (w : World) (it b : Nat) (M : ByteArray → Option Int) (dn : List (ByteArray × Int)) (k : Nat) : Prop :=
  ∃ es clock seen, w.heap[it]? = some (.mapIter (some b) clock seen clock) ∧ w.heap[b]? = some (.map es clock) ∧ Stamped es clock ∧ (∀ e ∈ es.toList, ∃ s n, e.key = .string s ∧ e.val = .int .i64 n) ∧
    (∀ s n, M s = some n ↔ ∃ e ∈ es.toList, e.key = .string s ∧ e.val = .int .i64 n) ∧ (leftOf es seen).size = k ∧
    ∀ s n, (s, n) ∈ dn ↔ ∃ e ∈ es.toList, e.key = .string s ∧ e.val = .int .i64 n ∧ seen.contains e.born = true
def ItAt (w : World) (it b : Nat) (s : ByteArray) (n : Int) : Prop :=
  ∃ (es : Array MapEntry) (clock : Nat) (seen : Array Nat) (e : MapEntry), w.heap[it]? = some (.mapIter (some b) clock (seen.push e.born) clock) ∧ w.heap[b]? = some (.map es clock) ∧ Stamped es clock ∧ e ∈ es.toList ∧ e.key = .string s ∧ e.val = .int .i64 n
theorem ItSI.keep {it : Nat} {dn : List (ByteArray × Int)} {k : Nat} {w' : World} (h : ItSI w it b M dn k) (h1 : w'.heap[it]? = w.heap[it]?) (h2 : w'.heap[b]? = w.heap[b]?) : ItSI w' it b M dn k := by
  obtain ⟨es, clock, seen, a, c, r⟩ := h
  exact ⟨es, clock, seen, h1.trans a, h2.trans c, r⟩
theorem ItSI.lt {it : Nat} {dn : List (ByteArray × Int)} {k : Nat} (h : ItSI w it b M dn k) : it < w.heap.size ∧ b < w.heap.size := by
  obtain ⟨es, clock, seen, a, c, r⟩ := h
  exact ⟨(Array.getElem?_eq_some_iff.1 a).1, (Array.getElem?_eq_some_iff.1 c).1⟩
theorem ItSI.fr {X : Nat → Prop} {it : Nat} {dn : List (ByteArray × Int)} {k : Nat} {w' : World} (h : ItSI w it b M dn k) (f : Fr X w w') (h1 : ¬ X it) (h2 : ¬ X b) : ItSI w' it b M dn k :=
  h.keep (f.block it h.lt.1 h1) (f.block b h.lt.2 h2)
theorem ItSI.map {it : Nat} {dn : List (ByteArray × Int)} {k : Nat} (h : ItSI w it b M dn k) : MapSI w b M := by
  obtain ⟨es, clock, seen, a, c, d, e, f, _⟩ := h
  exact ⟨es, clock, c, d, e, f⟩
theorem ItAt.lt {it : Nat} {s : ByteArray} {n : Int} (h : ItAt w it b s n) : it < w.heap.size ∧ b < w.heap.size := by
  obtain ⟨es, clock, seen, e, a, c, r⟩ := h
  exact ⟨(Array.getElem?_eq_some_iff.1 a).1, (Array.getElem?_eq_some_iff.1 c).1⟩
theorem ItAt.fr {X : Nat → Prop} {it : Nat} {s : ByteArray} {n : Int} {w' : World} (h : ItAt w it b s n) (f : Fr X w w') (h1 : ¬ X it) (h2 : ¬ X b) : ItAt w' it b s n := by
  have hl := h.lt
  obtain ⟨es, clock, seen, e, a, c, r⟩ := h
  exact ⟨es, clock, seen, e, (f.block it hl.1 h1).trans a, (f.block b hl.2 h2).trans c, r⟩

theorem MapSI.range (h : MapSI w b M) (ht : P.underlying t = some (.map k e)) :
    ∃ w' m, (Instr.range t (.map (some b))).run P w = .ok (.pointer (some ⟨w.heap.size, 0, none⟩)) w' ∧ ItSI w' w.heap.size b M [] m ∧ Fr (fun _ => False) w w' := by
  have hlt := h.lt
  obtain ⟨es, clock, hb, hs, hks, hM⟩ := h
  refine ⟨_, _, run_range_map w t k e b es clock ht hb, ⟨es, clock, #[], (MapKept.heap_alloc w _).1, by rw [(MapKept.heap_alloc w _).2 b hlt]; exact hb, hs, hks, hM, rfl, ?_⟩, (Fr.refl _ w).alloc _⟩
  intro s n
  simp

theorem ItSI.next {it : Nat} {dn : List (ByteArray × Int)} {m : Nat} {ty : TypeId} (h : ItSI w it b M dn m) :
    ((Instr.next (.pointer (some ⟨it, 0, none⟩)) false ty).run P w = .ok (.tuple #[.bool false]) w ∧ ∀ s n, M s = some n → (s, n) ∈ dn) ∨
    ∃ s n m' w', (Instr.next (.pointer (some ⟨it, 0, none⟩)) false ty).run P w = .ok (.tuple #[.bool true, .string s, .int .i64 n]) w' ∧ M s = some n ∧ (s, n) ∉ dn ∧ m' < m ∧
      ItSI w' it b M ((s, n) :: dn) m' ∧ ItAt w' it b s n ∧ Fr (fun c => c = it) w w' := by
  obtain ⟨es, clock, seen, hit, hb, hs, hks, hM, hm, hdn⟩ := h
  subst hm
  simp only [Instr.next, getObj, Sem.run_bind, Sem.run, hit, hb, Result.andThen, next_test_false seen es clock clock hs.1 (Nat.le_refl _), Bool.false_eq_true, if_false]
  have hmem : ∀ x ∈ (leftOf es seen).toList, x.born < clock := fun x hx => hs.1 x (mem_left hx).1
  have hmem2 : ∀ x ∈ (leftOf es seen).toList, x ∈ es.toList ∧ seen.contains x.born = false := fun x hx => mem_left hx
  have hleft : ∀ x ∈ es.toList, seen.contains x.born = false → x ∈ (leftOf es seen).toList := fun x hx hc => by
    unfold leftOf
    exact Array.mem_toList_iff.2 (Array.mem_filter.2 ⟨Array.mem_toList_iff.1 hx, by rw [hc]; rfl⟩)
  have hshr : ∀ x ∈ (leftOf es seen).toList, (leftOf es (seen.push x.born)).size < (leftOf es seen).size := fun x hx => left_shrinks es seen x hx
  have efold : Array.filter (fun e => !seen.contains e.born) es = leftOf es seen := rfl
  rw [efold]
  generalize hL : leftOf es seen = L at hmem hmem2 hleft hshr ⊢
  have e1 : L.filter (fun x => decide (x.born < clock)) = L := Array.filter_eq_self.2 (fun x hx => by simpa using hmem x (by simpa using hx))
  have e2 : L.filter (fun x => decide (x.born ≥ clock)) = #[] := by
    rw [Array.filter_eq_empty_iff]
    intro x hx
    have := hmem x (by simpa using hx)
    simp
    omega
  simp only [e1, e2, Array.append_empty]
  by_cases h0 : L.size = 0
  · left
    have : L = #[] := Array.eq_empty_of_size_eq_zero h0
    subst this
    refine ⟨?_, ?_⟩
    · simp [choose, Sem.run, Question.forced]
    · intro s n hsn
      obtain ⟨x, hx, hxk, hxv⟩ := (hM s n).1 hsn
      refine (hdn s n).2 ⟨x, hx, hxk, hxv, ?_⟩
      cases hc : seen.contains x.born with
      | true => rfl
      | false => exact absurd (hleft x hx hc) (by simp)
  · right
    have hne : L.isEmpty = false := by simp [Array.isEmpty, h0]
    simp only [hne, Bool.false_eq_true, if_false, Array.empty_append, Array.size_map]
    have hch : ∃ (j : Nat) (w1 : World), j < L.size ∧ w1.heap = w.heap ∧ Fr (fun _ => False) w w1 ∧ (choose (Question.mapNext L.size)).run P w = .ok j w1 := by
      by_cases hf : L.size ≤ 1
      · exact ⟨0, w, by omega, rfl, Fr.refl _ w, by simp [choose, Sem.run, Question.forced, hf]⟩
      · exact ⟨_, w.drew, Nat.mod_lt _ (by omega), rfl, (Fr.refl _ w).drew, by
          simp only [choose, Sem.run, Question.forced, decide_eq_true_eq, hf, if_false, Question.cut]
          rfl⟩
    obtain ⟨j, w1, hj, hheap, hfr, hrun⟩ := hch
    have hjm : L[j] ∈ L.toList := by simp
    obtain ⟨hje, hjs⟩ := hmem2 _ hjm
    obtain ⟨s, n, hk1, hv1⟩ := hks _ hje
    have hit1 : w1.heap[it]? = some (.mapIter (some b) clock seen clock) := by rw [hheap]; exact hit
    have hb1 : w1.heap[b]? = some (.map es clock) := by rw [hheap]; exact hb
    have hne2 : b ≠ it := fun e => by rw [e, hit1] at hb1; cases hb1
    refine ⟨s, n, _, { w1 with heap := w1.heap.setIfInBounds it (.mapIter (some b) clock (seen.push L[j].born) clock) }, ?_, (hM s n).2 ⟨_, hje, hk1, hv1⟩, ?_, hshr _ hjm,
      ⟨es, clock, _, (heap_set hit1).1, by rw [(heap_set hit1).2 b hne2]; exact hb1, hs, hks, hM, rfl, ?_⟩, ⟨es, clock, seen, L[j], (heap_set hit1).1, by rw [(heap_set hit1).2 b hne2]; exact hb1, hs, hje, hk1, hv1⟩, ?_⟩
    · simp only [hrun, Array.getElem?_map, Array.getElem?_eq_getElem hj, Option.map_some, Sem.run_bind, setObj, Sem.run, hit1, Result.andThen, hk1, hv1]
      rfl
    · intro hd
      obtain ⟨x, hx, hxk, hxv, hxs⟩ := (hdn s n).1 hd
      have := one_of_key hs hx hje (hxk.trans hk1.symm)
      rw [this, hjs] at hxs
      cases hxs
    · intro s' n'
      simp only [List.mem_cons, Prod.mk.injEq, contains_push, Bool.or_eq_true, beq_iff_eq]
      constructor
      · rintro (⟨rfl, rfl⟩ | hd)
        · exact ⟨_, hje, hk1, hv1, .inr rfl⟩
        · obtain ⟨x, hx, hxk, hxv, hxs⟩ := (hdn s' n').1 hd
          exact ⟨x, hx, hxk, hxv, .inl hxs⟩
      · rintro ⟨x, hx, hxk, hxv, hxs | hxs⟩
        · exact .inr ((hdn s' n').2 ⟨x, hx, hxk, hxv, hxs⟩)
        · have h1 := find_born x es.toList hs.2.1 hx
          have h2 := find_born L[j] es.toList hs.2.1 hje
          rw [hxs] at h1
          rw [h1] at h2
          cases h2
          rw [hk1] at hxk
          rw [hv1] at hxv
          simp at hxk hxv
          exact .inl ⟨hxk.symm, hxv.symm⟩
    · have f2 : Fr (fun c => c = it) w1 { w1 with heap := w1.heap.setIfInBounds it (.mapIter (some b) clock (seen.push L[j].born) clock) } := fr_set rfl
      exact hfr.none.trans f2

theorem ItAt.entry {it : Nat} {s : ByteArray} {n : Int} (h : ItAt w it b s n) : (Instr.entry (.pointer (some ⟨it, 0, none⟩))).run P w = .ok (.tuple #[.string s, .int .i64 n]) w := by
  obtain ⟨es, clock, seen, e, hit, hb, hs, he, hk, hv⟩ := h
  have hf : es.find? (·.born == e.born) = some e := by rw [← Array.find?_toList]; exact find_born e es.toList hs.2.1 he
  simp only [Instr.entry, getObj, Sem.run_bind, Sem.run, hit, hb, Result.andThen, Array.back?_push, bne_self_eq_false, Bool.false_eq_true, if_false, hf, hk, hv]
  rfl
end
end Go.Vd
