/-
  What is proved here: the reference's way to compare levels, by few numbers, is below under all numbers. No program in sight.
-/
import Derived.Test.YtafhnnbbfgoacaaDoorYForm
namespace Go.Vd
open Go Go.RowKit

theorem shape_ex {z o : MapF} (hz : Ones z) (ho : Ones o) (l : Lev) : nmL l → ∃ n f q, Shape l z o n f q := by
  induction l with
  | zero => exact fun _ => ⟨_, _, _, shape_zero⟩
  | param s =>
    intro _
    by_cases h : z s = none
    · exact ⟨_, _, _, shape_param hz ho s h⟩
    · exact ⟨_, _, _, shape_zeroed s h⟩
  | succ a ih =>
    intro hn
    obtain ⟨n, f, q, h⟩ := ih hn
    by_cases hq : q = .empty
    · subst hq
      exact ⟨_, _, _, shape_succ ⟨0, _, n, f, ⟨rfl, rfl⟩, h, rfl, rfl⟩⟩
    · exact ⟨_, _, _, shape_early (l := .succ a) (as := []) (up := 1) (n := 0) (f := fun _ => none) ⟨rfl, rfl⟩ (by decide) (fun x hx => by cases hx) hq ⟨(h.no hq).1, (h.no hq).2⟩⟩
  | max a b iha ihb =>
    intro hn
    obtain ⟨n, f, q, h⟩ := iha fun p hp => hn p (.inl hp)
    by_cases hq : q = .empty
    · subst hq
      obtain ⟨n2, f2, q2, h2⟩ := ihb fun p hp => hn p (.inr hp)
      by_cases hq2 : q2 = .empty
      · subst hq2
        exact ⟨_, _, _, shape_max ⟨_, _, n2, f2, ⟨0, _, n, f, ⟨rfl, rfl⟩, h, rfl, rfl⟩, h2, rfl, rfl⟩⟩
      · exact ⟨_, _, _, shape_early (l := .max a b) (as := []) (up := 0) (n := 0) (f := fun _ => none) ⟨rfl, rfl⟩ (by decide) (fun x hx => by cases hx) hq2 ⟨.inr (h2.no hq2).1, (h2.no hq2).2⟩⟩
    · exact ⟨_, _, _, shape_early (l := .max a b) (as := []) (up := 0) (n := 0) (f := fun _ => none) ⟨rfl, rfl⟩ (by decide) (fun x hx => by cases hx) hq ⟨.inl (h.no hq).1, (h.no hq).2⟩⟩
  | imax a b iha ihb =>
    intro hn
    obtain ⟨n, f, q, h⟩ := ihb fun p hp => hn p (.inr hp)
    by_cases hq : q = .empty
    · subst hq
      by_cases h0 : n = 0
      · subst h0
        by_cases he : ∀ p, f p = none
        · exact ⟨_, _, _, shape_imax_zero h he⟩
        · obtain ⟨p, hp⟩ := Classical.not_forall.1 he
          cases hf : f p with
          | none => exact absurd hf hp
          | some m => exact ⟨_, _, _, shape_imax_at ho h hf (hn p (.inr (h.b.sup p m hf)))⟩
      · obtain ⟨n2, f2, q2, h2⟩ := iha fun p hp => hn p (.inl hp)
        exact ⟨_, _, _, shape_imax h h0 h2⟩
    · exact ⟨_, _, _, shape_imax_b h hq⟩
theorem leq_ex {a b : Lev} (hna : nmL a) (hnb : nmL b) : ∀ (n : Nat) {z o : MapF}, Ones z → Ones o → (∀ q, z q ≠ none → o q = none) → freeN z o (b.params (a.params [])) < n → ∃ c, LeqA z o a b c := by
  intro n
  induction n with
  | zero => intro z o _ _ _ h; omega
  | succ n ih =>
    intro z o hz ho hd hn
    obtain ⟨n1, f1, q1, h1⟩ := shape_ex hz ho a hna
    obtain ⟨n2, f2, q2, h2⟩ := shape_ex hz ho b hnb
    have split : ∀ q, (a.has q ∨ b.has q) → z q = none → o q = none → ∃ c, LeqA z o a b c := fun q hq hzq hoq => by
      have hqU : q ∈ b.params (a.params []) := hq.elim (fun h => b.params_mono (a.has_params h)) (fun h => b.has_params h)
      have hf0 := free_zero hqU hzq hoq
      have hf1 := free_one hqU hzq hoq
      obtain ⟨c1, hA1⟩ := ih (ones_upd hz) ho (disj_zero hd hoq) (show freeN (updM z q 1) o _ < n by omega)
      obtain ⟨c2, hA2⟩ := ih hz (ones_upd ho) (disj_one hd hzq) (show freeN z (updM o q 1) _ < n by omega)
      cases c1 with
      | false => exact ⟨false, fun e => (by cases e), fun _ => (hA1.no rfl).zero⟩
      | true => exact ⟨c2, fun e => (sem_split (q := q) a b).2 ⟨hA1.yes rfl, hA2.yes e⟩, fun e => (hA2.no e).one⟩
    by_cases hq1 : q1 = .empty
    · by_cases hq2 : q2 = .empty
      · subst hq1 hq2
        by_cases hF : FLe n1 f1 n2 f2
        · exact ⟨true, fun _ => sem_of_fle (h1.ok rfl) (h2.ok rfl) hF, fun e => by cases e⟩
        · exact ⟨false, fun e => (by cases e), fun _ => cex_of_not hz ho hd (h1.ok rfl) (h2.ok rfl) hF⟩
      · exact split q2 (.inr (h2.no hq2).1) (h2.no hq2).2.1 (h2.no hq2).2.2
    · exact split q1 (.inl (h1.no hq1).1) (h1.no hq1).2.1 (h1.no hq1).2.2
theorem Lev.worth_congr {σ τ : ByteArray → Int} : ∀ (l : Lev), (∀ p, l.has p → σ p = τ p) → l.worth σ = l.worth τ
  | .zero, _ => rfl
  | .succ a, h => by simp only [Lev.worth]; rw [a.worth_congr h]
  | .max a b, h => by simp only [Lev.worth]; rw [a.worth_congr fun p hp => h p (.inl hp), b.worth_congr fun p hp => h p (.inr hp)]
  | .imax a b, h => by simp only [Lev.worth]; rw [a.worth_congr fun p hp => h p (.inl hp), b.worth_congr fun p hp => h p (.inr hp)]
  | .param s, h => h s rfl
theorem pval_map {σ : ByteArray → Int} : ∀ {ps : List ByteArray} {p : ByteArray}, p ∈ ps → pval ps (ps.map σ) p = σ p
  | q :: r, p, h => by
    simp only [List.map_cons, pval]
    by_cases e : q = p
    · rw [if_pos e, e]
    · rw [if_neg e]
      exact pval_map ((List.mem_cons.1 h).resolve_left (Ne.symm e))
theorem pval_nonneg : ∀ {ps : List ByteArray} {ns : List Int} {s : ByteArray}, (∀ n ∈ ns, 0 ≤ n) → 0 ≤ pval ps ns s
  | [], _, _, _ => by simp [pval]
  | p :: ps, [], s, _ => by simp [pval]
  | p :: ps, n :: ns, s, h => by
    simp only [pval]
    split
    · exact h n List.mem_cons_self
    · exact pval_nonneg fun m hm => h m (List.mem_cons_of_mem _ hm)
theorem third_mod (big : Int) (r : Nat) : third big r = third big (r % 3) := by unfold third; rw [Nat.mod_mod]
theorem digs_add (big : Int) (k c n : Nat) : digs big (k + c * 3 ^ n) n = digs big k n := by
  unfold digs
  apply List.map_congr_left
  intro j hj
  have hjn : j < n := List.mem_range.1 hj
  rw [third_mod big ((k + c * 3 ^ n) / 3 ^ j), third_mod big (k / 3 ^ j)]
  have e : c * 3 ^ n = 3 ^ j * (3 * (c * 3 ^ (n - j - 1))) := by
    have h1 : n = j + 1 + (n - j - 1) := by omega
    have h2 : 3 ^ n = 3 ^ j * (3 * 3 ^ (n - j - 1)) := by
      conv => lhs; rw [h1]
      rw [Nat.pow_add, Nat.pow_succ]
      rw [Nat.mul_assoc]
    rw [h2]
    rw [Nat.mul_left_comm, Nat.mul_left_comm c 3]
  rw [e, Nat.add_mul_div_left _ _ (Nat.pow_pos (by decide)), Nat.add_mul_mod_self_left]
theorem digs_ex {big : Int} : ∀ (n : Nat) {ds : List Int}, ds.length = n → (∀ d ∈ ds, d = 0 ∨ d = 1 ∨ d = big) → ∃ k, k < 3 ^ n ∧ digs big k n = ds
  | 0, ds, h, _ => ⟨0, by simp, by
    have : ds = [] := List.eq_nil_of_length_eq_zero h
    rw [this]; rfl⟩
  | n + 1, ds, h, hd => by
    have hne : ds ≠ [] := fun e => by rw [e] at h; cases h
    have hsp := (List.dropLast_concat_getLast hne).symm
    obtain ⟨k, hk, hdk⟩ := digs_ex n (ds := ds.dropLast) (by rw [List.length_dropLast, h]; rfl) (fun d hdd => hd d (List.dropLast_subset _ hdd))
    have hl := hd _ (List.getLast_mem hne)
    have : ∃ c, c < 3 ∧ third big c = ds.getLast hne := by
      rcases hl with e | e | e
      · exact ⟨0, by decide, by rw [e]; rfl⟩
      · exact ⟨1, by decide, by rw [e]; rfl⟩
      · exact ⟨2, by decide, by rw [e]; rfl⟩
    obtain ⟨c, hc, hc2⟩ := this
    refine ⟨k + c * 3 ^ n, ?_, ?_⟩
    · rw [Nat.pow_succ]
      have : c * 3 ^ n ≤ 2 * 3 ^ n := Nat.mul_le_mul_right _ (by omega)
      omega
    · rw [digs_succ, digs_add, hdk]
      have e : (k + c * 3 ^ n) / 3 ^ n = c := by
        rw [Nat.add_mul_div_right _ _ (Nat.pow_pos (by decide)), Nat.div_eq_of_lt hk]; omega
      rw [e, hc2]
      exact hsp.symm
theorem refLeq_sem {a b : Lev} (hna : nmL a) (hnb : nmL b) : refLeq a b = semB a b := by
  rw [Bool.eq_iff_iff, semB_iff]
  unfold refLeq
  rw [decide_eq_true_eq]
  constructor
  · intro h
    obtain ⟨c, hA⟩ := leq_ex hna hnb (freeN noM noM (b.params (a.params [])) + 1) (z := noM) (o := noM) (fun p m e => by cases e) (fun p m e => by cases e) (fun q h => rfl) (Nat.lt_succ_self _)
    cases c with
    | true => exact hA.yes rfl
    | false =>
      obtain ⟨σ, hσ, h1, h2⟩ := hA.no rfl
      obtain ⟨k, hk, hdk⟩ := digs_ex (big := a.big b) (a.ps b).length (ds := (a.ps b).map σ) (by simp) (fun d hd => by obtain ⟨p, _, rfl⟩ := List.mem_map.1 hd; exact h1 p)
      have h3 := h k hk
      unfold refAt at h3
      rw [hdk] at h3
      have e1 := a.worth_congr (σ := pval (a.ps b) ((a.ps b).map σ)) (τ := σ) fun p hp => pval_map (b.params_mono (a.has_params hp))
      have e2 := b.worth_congr (σ := pval (a.ps b) ((a.ps b).map σ)) (τ := σ) fun p hp => pval_map (b.has_params hp)
      omega
  · intro h k hk
    refine h _ ⟨fun p => pval_nonneg fun n hn => ?_, fun p hp => absurd rfl hp, fun p hp => absurd rfl hp⟩
    unfold digs at hn
    obtain ⟨j, _, rfl⟩ := List.mem_map.1 hn
    unfold third Lev.big
    split
    · omega
    · split <;> omega
/-- parameters, each once -/
theorem Lev.params_nodup : ∀ (l : Lev) {ah : List ByteArray}, ah.Nodup → (l.params ah).Nodup
  | .zero, _, h => h
  | .succ a, _, h => a.params_nodup h
  | .max a b, _, h => b.params_nodup (a.params_nodup h)
  | .imax a b, _, h => b.params_nodup (a.params_nodup h)
  | .param s, ah, h => by
    simp only [Lev.params]
    split
    · exact h
    · rename_i h2
      rw [List.nodup_append]
      refine ⟨h, by simp, fun x hx y hy e => ?_⟩
      simp at hy; subst hy e
      exact h2 (memB_iff.2 hx)
theorem Lev.params_or : ∀ (l : Lev) {ah : List ByteArray} {p : ByteArray}, p ∈ l.params ah → p ∈ ah ∨ l.has p
  | .zero, _, _, h => .inl h
  | .succ a, _, _, h => a.params_or h
  | .max a b, _, _, h => (b.params_or h).elim (fun h => (a.params_or h).imp (fun h => h) .inl) (fun h => .inr (.inr h))
  | .imax a b, _, _, h => (b.params_or h).elim (fun h => (a.params_or h).imp (fun h => h) .inl) (fun h => .inr (.inr h))
  | .param s, ah, p, h => by
    simp only [Lev.params] at h
    split at h
    · exact .inl h
    · rcases List.mem_append.1 h with h | h
      · exact .inl h
      · simp at h; exact .inr h
theorem params_swap (a b : Lev) : (b.params (a.params [])).length ≤ (a.params (b.params [])).length := by
  refine nodup_len (b.params_nodup (a.params_nodup List.nodup_nil)) fun x hx => ?_
  rcases b.params_or hx with h | h
  · rcases a.params_or h with h | h
    · cases h
    · exact a.has_params h
  · exact a.params_mono (b.has_params h)
theorem nmL_of_fit : ∀ (l : Lev), fitP l.toLvl → nmL l
  | .zero, _, p, h => h.elim
  | .succ a, hf, p, h => nmL_of_fit a hf.2.2.2.1 p h
  | .max a b, hf, p, h => (show a.has p ∨ b.has p from h).elim (fun h => nmL_of_fit a hf.2.2.2.1 p h) (fun h => nmL_of_fit b hf.2.2.2.2.1 p h)
  | .imax a b, hf, p, h => (show a.has p ∨ b.has p from h).elim (fun h => nmL_of_fit a hf.2.2.2.1 p h) (fun h => nmL_of_fit b hf.2.2.2.2.1 p h)
  | .param s, hf, p, h => by
    have e : p = s := h
    rw [e]; exact hf.2.2.1 rfl
end Go.Vd
