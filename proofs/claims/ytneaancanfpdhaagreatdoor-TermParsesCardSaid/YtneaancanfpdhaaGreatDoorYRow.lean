/-
  What is proved here: what a slice literal and an append do to memory; over any program.
-/
import Derived.Test.YtneaancanfpdhaaGreatDoorY4
import Derived.Great.BuildSlice
import Derived.Laws.AppendOwn
namespace Go.Vd
open Go Go.RowKit

/-- t is a slice of e -/
structure SlTy (P : Program) (t e : TypeId) (size bytes : Nat) : Prop where
  under : P.underlying t = some (.slice e)
  info : (P.info? e).map (fun i => (i.size, i.bytes)) = some (size, bytes)
  zero : ((P.info? e).bind (·.zero)).map (·.cells.size) = some size
/-- t is a map from texts to numbers -/
structure MapTy (P : Program) (t k e : TypeId) : Prop where
  under : P.underlying t = some (.map k e)
  key : P.underlying k = some .string
  zero : (P.info? e).bind (·.zero) = some (.int .i64 0)

theorem flat_get {s : Nat} (hs : 0 < s) : ∀ (l : List Value) (k : Nat), (∀ v ∈ l, v.cells.size = s) → (l.flatMap fun v => v.cells.toList)[k]? = (l[k / s]?).bind fun v => v.cells[k % s]?
  | [], k, _ => by simp
  | v :: r, k, h => by
    have hv : v.cells.toList.length = s := by simpa using h v List.mem_cons_self
    simp only [List.flatMap_cons, List.getElem?_append, hv]
    by_cases hk : k < s
    · rw [if_pos hk, Nat.div_eq_of_lt hk, Nat.mod_eq_of_lt hk]
      simp
    · rw [if_neg hk, flat_get hs r (k - s) fun u hu => h u (List.mem_cons_of_mem _ hu)]
      have e1 : k / s = (k - s) / s + 1 := by rw [Nat.div_eq k s, if_pos ⟨hs, by omega⟩]
      have e2 : k % s = (k - s) % s := by rw [Nat.mod_eq k s, if_pos ⟨hs, by omega⟩]
      rw [e1, e2, List.getElem?_cons_succ]
theorem flat_len {s : Nat} : ∀ (l : List Value), (∀ v ∈ l, v.cells.size = s) → (l.flatMap fun v => v.cells.toList).length = l.length * s
  | [], _ => by simp
  | v :: r, h => by
    have hv : v.cells.toList.length = s := by simpa using h v List.mem_cons_self
    simp only [List.flatMap_cons, List.length_append, hv, flat_len r fun u hu => h u (List.mem_cons_of_mem _ hu), List.length_cons, Nat.add_mul]
    omega

section
variable {P : Program}
theorem run_lit {t e : TypeId} {size bytes n : Nat} {parts : Array (Nat × Operand)} {ρ : Operand → Value} (T : SlTy P t e size bytes) (xs : List Operand) (l : List Value) (hρ : xs.map ρ = l)
    (hp : parts.toList = (xs.zipIdx 0).map fun p => (p.2, p.1)) (hn : n = l.length) (hs : ∀ v ∈ l, v.cells.size = size) (hsz : 0 < size) (hn0 : 0 < n) (hbig : n * size ≤ 16777216) (w : World) :
    (Instr.buildSlice t n (parts.map fun (i, x) => (i, ρ x))).run P w = .ok (.slice (some ⟨w.heap.size, 0, none⟩) n n) (w.alloc (.cells ⟨l.flatMap fun v => v.cells.toList⟩ e)) := by
  have hinfo := T.info
  have hzero := T.zero
  cases hi : P.info? e with
  | none => simp [hi] at hinfo
  | some ie =>
    rw [hi] at hinfo hzero
    simp only [Option.map_some, Option.some.injEq, Prod.mk.injEq, Option.bind_some] at hinfo hzero
    cases hz : ie.zero with
    | none => simp [hz] at hzero
    | some z =>
      rw [hz] at hzero
      simp only [Option.map_some, Option.some.injEq] at hzero
      obtain ⟨h1, h2⟩ := hinfo
      have hparts : (parts.map fun (x : Nat × Operand) => (x.1, ρ x.2)).toList = (l.zipIdx 0).map fun x => (x.2, x.1) := by
        rw [Array.toList_map, hp, ← hρ]
        simp [List.zipIdx_map]
      obtain ⟨r, hr, hrs, hrk⟩ := Great.fill_dense hsz l 0 ((Array.range (n * size)).map (z.cells[· % z.cells.size]!)) hs (by simp [hn])
      have hrl : r = ⟨l.flatMap fun v => v.cells.toList⟩ := by
        apply Array.ext'
        apply List.ext_getElem?
        intro k
        have := hrk k
        rw [flat_get hsz l k hs]
        rw [Array.getElem?_toList, this]
        simp only [Nat.zero_mul, Nat.zero_le, true_and, Nat.zero_add, Nat.sub_zero]
        split
        · rfl
        · rename_i hk
          have hk' : n * size ≤ k := by rw [hn]; omega
          have h3 : l.length ≤ k / size := by rw [← hn]; exact (Nat.le_div_iff_mul_le hsz).2 hk'
          simp only [List.getElem?_eq_none h3, Option.bind_none]
          rw [Array.getElem?_eq_none]; simp; exact hk'
      have hrun := run_buildSlice w t e n (parts.map fun (i, x) => (i, ρ x)) r ie z T.under hi hz (by rw [h1]; omega) (by rw [h1]; intro h0; rcases Nat.mul_eq_zero.1 h0 with h | h <;> omega) (by rw [h1, ← hr]; congr 1)
      rw [hrun, hrl]

/-- append to a row of the function's own -/
theorem run_app {w : World} {t ty e : TypeId} {size bytes : Nat} (T : SlTy P t e size bytes) (hsz : 0 < size) {v : Value} {n : Nat} {xs : List Value} (hown : w.ownsRow 0 e size v n xs)
    {a : Addr} {m c : Nat} {news : List Value} (hl : news.length = m * size) (hm : 0 < m) (hnews : ∀ j u, news[j]? = some u → w.cell? (a.add j) = some u) (h1 : ∀ u ∈ news, u.oneCell' = true)
    (h63 : n + m ≤ maxLen) (hbytes : (n + m) * bytes ≤ 140737488355328) :
    ∃ v' w', (Builtin.append_ #[t, t] ty #[v, .slice (some a) m c]).run P w = .ok v' w' ∧ w'.ownsRow 0 e size v' (n + m) (xs ++ news) ∧ Fr (fun c => v.ownBlock = some c ∧ v'.ownBlock = some c) w w' ∧
      ∃ k, v'.ownBlock = some k ∧ (v.ownBlock = some k ∨ k = w.heap.size) ∧ k < w'.heap.size ∧ ∃ c, v' = .slice (some ⟨k, 0, none⟩) (n + m) c := by
  have hinfo := T.info
  have hzero := T.zero
  cases hi : P.info? e with
  | none => simp [hi] at hinfo
  | some i =>
    rw [hi] at hinfo hzero
    simp only [Option.map_some, Option.some.injEq, Prod.mk.injEq, Option.bind_some] at hinfo hzero
    cases hz : i.zero with
    | none => simp [hz] at hzero
    | some z =>
    rw [hz] at hzero
    simp only [Option.map_some, Option.some.injEq] at hzero
    obtain ⟨q1, q2⟩ := hinfo
    subst q1
    subst q2
    have hsmall : n + m ≤ 9223372036854775807 := by simp only [maxLen] at h63; omega
    have hlen : (xs ++ news).length = (n + m) * i.size := by rw [List.length_append, hown.1, hl, Nat.add_mul]
    have grown : ∀ (old : Nat), old < n + m → 
        (w.drew.alloc (.cells (xs.toArray ++ news.toArray ++ Builtin.zeroCells z.cells (grownCap w (n + m) old e - (n + m))) e)).ownsRow 0 e i.size
          (.slice (some ⟨w.heap.size, 0, none⟩) (n + m) (grownCap w (n + m) old e)) (n + m) (xs ++ news) := by
      intro old ho
      have hge := grownCap_ge w (n + m) old e
      have hcm : grownCap w (n + m) old e ≤ maxLen := grownCap_le_maxLen w (n + m) old e h63
      refine ⟨hlen, .inr ⟨w.heap.size, _, _, rfl, Nat.zero_le _, heap_alloc_new w.drew _, hge, hcm, ?_, ?_⟩⟩
      · simp only [Array.size_append, List.size_toArray, size_zeroCells, hzero, hown.1, hl, ← Nat.add_mul]
        congr 1
        omega
      · simp only [Array.toList_append, List.append_assoc]
        rw [← List.append_assoc, ← hlen]
        exact List.take_left
    rcases hown.2 with ⟨rfl, rfl⟩ | ⟨g, cap, cur, rfl, hbg, hg, hnc, hcm, hcs, htake⟩
    · have hx : xs = [] := List.eq_nil_of_length_eq_zero (by simpa using hown.1)
      subst hx
      have hr := run_append_nil (P := P) w t ty e i z T.under hi hz a m c news hl hnews (by omega) (by omega) (by have hb := hbytes; simp only [Nat.zero_add] at hb; omega)
      have hgr := grown 0 (by omega)
      simp only [Nat.zero_add, List.nil_append, Array.empty_append] at hgr ⊢
      exact ⟨_, _, hr, hgr, ((Fr.refl _ w).drew).alloc _, _, rfl, .inr rfl, by simp, _, rfl⟩
    · by_cases hroom : n + m ≤ cap
      · have hfit : n * i.size + news.length ≤ cur.size := by rw [hl, hcs, ← Nat.add_mul]; exact Nat.mul_le_mul_right _ hroom
        have hr := run_append_room (P := P) w t ty e i T.under hi g n cap cur hg a m c news hl hnews h1 hroom hfit
        refine ⟨_, _, hr, ⟨hlen, .inr ⟨g, cap, _, rfl, hbg, setRow_heap w g cur _ e _ hg, hroom, hcm, ?_, ?_⟩⟩, ⟨rfl, rfl, rfl, by simp, fun k _ hk => setRow_other w g k _ (fun e => hk ⟨by simp [Value.ownBlock, e], by simp [Value.ownBlock, e]⟩)⟩,
          g, rfl, .inl rfl, by have := (Array.getElem?_eq_some_iff.1 hg).1; simpa using this, _, rfl⟩
        · simp only [List.size_toArray, List.length_append, List.length_take, List.length_drop, Array.length_toList]
          omega
        · rw [htake, ← hlen]
          exact List.take_left
      · have holds : ∀ j u, xs[j]? = some u → w.cell? ((⟨g, 0, none⟩ : Addr).add j) = some u := hown.cells (g := g) rfl
        have hr := run_append_grow (P := P) w t ty e i z T.under hi hz ⟨g, 0, none⟩ n cap xs hown.1 holds a m c news hl hnews (by omega) (by omega) (growslice_fits (by omega) hbytes)
        have hgr := grown cap (by omega)
        exact ⟨_, _, hr, hgr, ((Fr.refl _ w).drew).alloc _, _, rfl, .inr rfl, by simp, _, rfl⟩

theorem ownsRow_keep {w w' : World} {e : TypeId} {size : Nat} {v : Value} {n : Nat} {xs : List Value} {X : Nat → Prop} (h : w.ownsRow 0 e size v n xs) (f : Fr X w w') (hx : ∀ k, v.ownBlock = some k → ¬ X k) : w'.ownsRow 0 e size v n xs := by
  refine ⟨h.1, ?_⟩
  rcases h.2 with hn | ⟨g, cap, cur, rfl, hb, hgg, rest⟩
  · exact .inl hn
  · exact .inr ⟨g, cap, cur, rfl, hb, by rw [f.block g (Array.getElem?_eq_some_iff.1 hgg).1 (hx g rfl)]; exact hgg, rest⟩

theorem own_slice {w : World} {e : TypeId} {size : Nat} {v : Value} {n : Nat} {xs : List Value} (h : w.ownsRow 0 e size v n xs) : ∃ a cap, v = .slice a n cap := by
  rcases h.2 with ⟨rfl, rfl⟩ | ⟨g, cap, cur, rfl, _⟩
  · exact ⟨_, _, rfl⟩
  · exact ⟨_, _, rfl⟩
theorem own_lt {w : World} {e : TypeId} {size : Nat} {v : Value} {n : Nat} {xs : List Value} (h : w.ownsRow 0 e size v n xs) {k : Nat} (hk : v.ownBlock = some k) : k < w.heap.size := (h.lt k hk).2
end
end Go.Vd
