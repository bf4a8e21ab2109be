/-
  What is proved here: the contract of the program's term.Read: what the reference's reader reads.
-/
import Derived.Test.YtneaancanfpdhaaGreatDoorYT4
import Derived.Test.YtneaancanfpdhaaGreatDoorYIx
set_option linter.unusedSimpArgs false
set_option linter.unusedVariables false
namespace Go.Proofs.YtneaancanfpdhaaGreatDoor
open Go Go.Vd Go.RowKit
attribute [local irreducible] Runs OpsR OpR FloatR AnyR AnyO
variable {g gl : Nat → List D}

theorem idx_kind (w : ByteArray) : idxI (wordsT.drop 1) w + 1 = kindT w := by
  have hl : wordsT.length = 7 := rfl
  rcases idxI_case (wordsT.drop 1) w with ⟨h1, h2⟩ | ⟨i, h0, _, h2, h3⟩
  · rw [h2]
    have h4 := kindT_le w
    rcases Nat.eq_zero_or_pos (kindT w) with h5 | h5
    · rw [h5]; rfl
    · exfalso
      have h6 := (kindT_word (w := w) (i := kindT w) h5 (by omega)).2 rfl
      apply h1
      rw [← h6]
      have h7 : 1 + (kindT w - 1) = kindT w := by omega
      exact List.mem_iff_getElem.2 ⟨kindT w - 1, by rw [List.length_drop]; omega, by simp only [List.getElem_drop, h7]⟩
  · rw [h3]
    simp only [List.length_drop] at h0
    have h4 : wordsT[i + 1] = w := by simp only [List.getElem_drop, Nat.add_comm 1 i] at h2; exact h2
    rw [(kindT_word (by omega) (by omega)).1 h4]; rfl
theorem kindT_emp : kindT .empty = 0 ∧ kindT ⟨#[0]⟩ = 0 := by decide
theorem step_kind {s : ByteArray} {p : Nat} : kindT (stepTok s p) = kindT (tokR s p).1 := by
  by_cases h : (tokR s p).1 = .empty
  · rw [h, kindT_emp.1]
    rcases step_emp h with h3 | h3 <;> rw [h3]
    · exact kindT_emp.1
    · exact kindT_emp.2
  · rw [(step_tok h).1]
theorem step_hash {s : ByteArray} {p : Nat} : hashB (stepTok s p) = hashB (tokR s p).1 := by
  by_cases h : (tokR s p).1 = .empty
  · rw [h]
    rcases step_emp h with h3 | h3 <;> rw [h3]
    decide
  · rw [(step_tok h).1]

/-- what term.Read does, by what the reference's reader reads -/
def TrQ (s : ByteArray) (r : Trm × RS) (out : Out) (ob' : List Ob) : Prop :=
  (r.2.f = none → out = .ret (.d r.1.d) ∧ ob' = [scA s r.2.p]) ∧ (∀ a, r.2.f = some a → out = .pan (.d (fltD 1 a)) ∧ ob' = [.dead])
theorem TrQ.ok {s : ByteArray} {r : Trm × RS} {out : Out} {ob' : List Ob} (hf : r.2.f = none) (h : out = .ret (.d r.1.d) ∧ ob' = [scA s r.2.p]) : TrQ s r out ob' :=
  ⟨fun _ => h, fun a e => by rw [hf] at e; cases e⟩
theorem TrQ.bad {s : ByteArray} {r : Trm × RS} {out : Out} {ob' : List Ob} {a : Nat} (hf : r.2.f = some a) (h : out = .pan (.d (fltD 1 a)) ∧ ob' = [.dead]) : TrQ s r out ob' :=
  ⟨fun e => (by rw [hf] at e; cases e), fun b e => by rw [hf] at e; cases e; exact h⟩
theorem TrQ.ret {s : ByteArray} {r : Trm × RS} {v : SV} {ob' : List Ob} (h : TrQ s r (.ret v) ob') : r.2.f = none ∧ v = .d r.1.d ∧ ob' = [scA s r.2.p] := by
  cases hf : r.2.f with
  | none =>
    obtain ⟨h1, h2⟩ := h.1 hf
    cases h1
    exact ⟨rfl, rfl, h2⟩
  | some a => obtain ⟨h1, _⟩ := h.2 a hf; cases h1
theorem TrQ.pan {s : ByteArray} {r : Trm × RS} {v : SV} {ob' : List Ob} (h : TrQ s r (.pan v) ob') : ∃ a, r.2.f = some a ∧ v = .d (fltD 1 a) ∧ ob' = [.dead] := by
  cases hf : r.2.f with
  | none => obtain ⟨h1, _⟩ := h.1 hf; cases h1
  | some a =>
    obtain ⟨h1, h2⟩ := h.2 a hf
    cases h1
    exact ⟨a, rfl, rfl, h2⟩

theorem termR_some {s : ByteArray} {p a : Nat} : ∀ n, termR n s ⟨p, some a⟩ = (zeroT, ⟨p, some a⟩)
  | 0 => rfl
  | _ + 1 => rfl
theorem parts_some {s : ByteArray} {n i j a : Nat} {r : RS} (h : (partsR (termR n s) i r).2.f = some a) : (partsR (termR n s) (i + j) r).2.f = some a := by
  induction j with
  | zero => exact h
  | succ j ih =>
    show (termR n s (partsR (termR n s) (i + j) r).2).2.f = some a
    rcases hx : (partsR (termR n s) (i + j) r).2 with ⟨q, f⟩
    rw [hx] at ih
    simp only at ih
    subst ih
    rw [termR_some]
theorem take_some {s w : ByteArray} {r : RS} {a : Nat} (h : r.f = some a) : (takeR s w r).f = some a := by
  obtain ⟨q, f⟩ := r
  simp only at h
  subst h
  exact takeR_some
theorem term_node {s : ByteArray} {p n k : Nat} (h1 : (tokR s p).1 = ⟨#[40]⟩) (hk : kindT (tokR s (stepAt s p)).1 = k) (h3 : ¬ k = 0) :
    termR (n + 1) s ⟨p, none⟩ = (.mk k 0 (headR s k ⟨stepAt s (stepAt s p), none⟩).1 (headR s k ⟨stepAt s (stepAt s p), none⟩).2.1 (partsR (termR n s) (partsOf k) (headR s k ⟨stepAt s (stepAt s p), none⟩).2.2).1, takeR s ⟨#[41]⟩ (partsR (termR n s) (partsOf k) (headR s k ⟨stepAt s (stepAt s p), none⟩).2.2).2) := by
  have e1 := nextR_eq (s := s) (p := p) (by rw [h1]; decide)
  have e2 := nextR_eq (s := s) (p := stepAt s p) (by intro e; rw [e] at hk; exact h3 (by rw [← hk]; exact kindT_emp.1))
  rcases hx : headR s k ⟨stepAt s (stepAt s p), none⟩ with ⟨nm, L, r3⟩
  rw [termR_node (nm := nm) (L := L) (r3 := r3) h1 (by rw [e1]; exact hk) h3 (by rw [e1, e2]; exact hx)]
theorem term_headbad {s : ByteArray} {p n k a : Nat} (h1 : (tokR s p).1 = ⟨#[40]⟩) (hk : kindT (tokR s (stepAt s p)).1 = k) (h3 : ¬ k = 0) (hf : (headR s k ⟨stepAt s (stepAt s p), none⟩).2.2.f = some a) : (termR (n + 1) s ⟨p, none⟩).2.f = some a := by
  rw [term_node h1 hk h3]
  refine take_some ?_
  have := parts_some (s := s) (n := n) (i := 0) (j := partsOf k) (r := (headR s k ⟨stepAt s (stepAt s p), none⟩).2.2) hf
  rwa [Nat.zero_add] at this
theorem term_partbad {s : ByteArray} {p n k a i : Nat} {nm : ByteArray} {L : List Lvl} {r3 : RS} (h1 : (tokR s p).1 = ⟨#[40]⟩) (hk : kindT (tokR s (stepAt s p)).1 = k) (h3 : ¬ k = 0) (h4 : headR s k ⟨stepAt s (stepAt s p), none⟩ = (nm, L, r3)) (hi : i + 1 ≤ partsOf k)
    (hf : (termR n s (partsR (termR n s) i r3).2).2.f = some a) : (termR (n + 1) s ⟨p, none⟩).2.f = some a := by
  rw [term_node h1 hk h3, h4]
  refine take_some ?_
  have := parts_some (s := s) (n := n) (i := i + 1) (j := partsOf k - (i + 1)) (r := r3) hf
  rwa [show i + 1 + (partsOf k - (i + 1)) = partsOf k by omega] at this
theorem term_takebad {s : ByteArray} {p n k q : Nat} {nm : ByteArray} {L : List Lvl} {r3 : RS} (h1 : (tokR s p).1 = ⟨#[40]⟩) (hk : kindT (tokR s (stepAt s p)).1 = k) (h3 : ¬ k = 0) (h4 : headR s k ⟨stepAt s (stepAt s p), none⟩ = (nm, L, r3))
    (h5 : (partsR (termR n s) (partsOf k) r3).2 = ⟨q, none⟩) (h6 : ¬ (tokR s q).1 = ⟨#[41]⟩) : (termR (n + 1) s ⟨p, none⟩).2.f = some (tokR s q).2.1 := by
  rw [term_node h1 hk h3, h4]
  simp only [h5]
  exact takeR_no h6
theorem term_good {s : ByteArray} {p n k q : Nat} {nm : ByteArray} {L : List Lvl} {r3 : RS} (h1 : (tokR s p).1 = ⟨#[40]⟩) (hk : kindT (tokR s (stepAt s p)).1 = k) (h3 : ¬ k = 0) (h4 : headR s k ⟨stepAt s (stepAt s p), none⟩ = (nm, L, r3))
    (h5 : (partsR (termR n s) (partsOf k) r3).2 = ⟨q, none⟩) (h6 : (tokR s q).1 = ⟨#[41]⟩) : termR (n + 1) s ⟨p, none⟩ = (.mk k 0 nm L (partsR (termR n s) (partsOf k) r3).1, ⟨stepAt s q, none⟩) := by
  rw [term_node h1 hk h3, h4]
  simp only [h5]
  rw [takeR_yes (by decide) h6]
theorem peek_step {s : ByteArray} {q : Nat} : peekR s ⟨q, none⟩ = ⟨#[41]⟩ ↔ stepTok s q = ⟨#[41]⟩ := by
  rw [step_is (by decide) (by decide)]
  unfold peekR
  split
  · rename_i h
    constructor
    · intro e; exact absurd e (by decide)
    · intro e
      rcases h with h | h
      · rw [tokR_empty h] at e; exact absurd e (by decide)
      · exact absurd rfl h
  · exact Iff.rfl
theorem name_yes {s : ByteArray} {p : Nat} (h : isNameB (tokR s p).1 = true) : nameR s ⟨p, none⟩ = ((tokR s p).1, ⟨stepAt s p, none⟩) := by
  have hne : (tokR s p).1 ≠ .empty := by
    intro e; rw [e] at h; simp [isNameB] at h
  have h2 : (tokR s p).2.2 = true := by
    cases h3 : (tokR s p).2.2 with
    | true => rfl
    | false => exact absurd (tokR_empty h3) hne
  unfold nameR stepAt; dsimp only
  rw [if_neg (by simp [h, h2]), if_pos h2]
theorem name_no {s : ByteArray} {p : Nat} (h : isNameB (tokR s p).1 = false) : (nameR s ⟨p, none⟩).2.f = some (tokR s p).2.1 := by
  unfold nameR; dsimp only
  rw [if_pos (.inr h)]; rfl
theorem sname_spec (s : ByteArray) (hs : s.size ≤ 1099511627776) (b : Nat) (hb : b ≤ s.size) (w : ByteArray) (pos : Nat) :
    Tri Tryz.prog gl 107 [scO s b w pos] [.blk 0 0] fun out ob' => (isNameB w = true ∧ out = .ret (.d (.v (.string w))) ∧ ob' = [scA s b]) ∨ (isNameB w = false ∧ out = .pan (.d (fltD 1 pos)) ∧ ob' = [scO s b w pos]) := by
  cases h : isNameB w with
  | true => exact (name_ok s hs b hb w pos h).mono fun o b hq => .inl ⟨rfl, hq⟩
  | false => exact (name_bad s b w pos h).mono fun o b hq => .inr ⟨rfl, hq⟩
theorem levels_bad {s : ByteArray} {r0 r' : RS} {m a : Nat} {acc : List Lvl} (h4 : levelsR (s.size + 2) s r0 = (acc ++ (levelsR m s r').1, (levelsR m s r').2)) (hm : 0 < m) (h : r'.f = none ∧ ¬ peekR s r' = ⟨#[41]⟩) (hf : (levelR (s.size + 1) s r').2.f = some a) : (levelsR (s.size + 2) s r0).2.f = some a := by
  rw [h4]
  obtain ⟨m, rfl⟩ : ∃ k, m = k + 1 := ⟨m - 1, by omega⟩
  simp only [levelsR]
  rw [if_pos h]
  simp only
  cases m with
  | zero => exact hf
  | succ m => simp only [levelsR]; rw [if_neg (by rintro ⟨e, _⟩; rw [hf] at e; cases e)]; exact hf

theorem head_one {s : ByteArray} {k : Nat} {r : RS} (h : k = 1) : headR s k r = (.empty, [(levelR (s.size + 1) s r).1], (levelR (s.size + 1) s r).2) := by unfold headR; rw [if_pos h]
theorem head_two {s : ByteArray} {k p : Nat} (h : k = 2) (hn : isNameB (tokR s p).1 = true) : headR s k ⟨p, none⟩ = ((tokR s p).1, (levelsR (s.size + 2) s ⟨stepAt s p, none⟩).1, (levelsR (s.size + 2) s ⟨stepAt s p, none⟩).2) := by
  unfold headR; rw [if_neg (by omega), if_pos h, name_yes hn]
theorem head_no {s : ByteArray} {k p : Nat} (h : k = 2) (hn : isNameB (tokR s p).1 = false) : (headR s k ⟨p, none⟩).2.2.f = some (tokR s p).2.1 := by
  have h1 := name_no hn
  unfold headR; rw [if_neg (by omega), if_pos h]
  show (levelsR (s.size + 1 + 1) s (nameR s ⟨p, none⟩).2).2.f = _
  simp only [levelsR]
  rw [if_neg (by rintro ⟨e, _⟩; rw [h1] at e; cases e)]
  exact h1
theorem head_else {s : ByteArray} {k : Nat} {r : RS} (h : ¬ k = 1) (h2 : ¬ k = 2) : headR s k r = (.empty, [], r) := by unfold headR; rw [if_neg h, if_neg h2]
theorem levels_stepN {s : ByteArray} {r0 : RS} {q qb m : Nat} {acc : List Lvl} {x : Lvl} (hinv : q ≤ s.size ∧ acc.length + m = s.size + 2 ∧ s.size - q < m ∧ levelsR (s.size + 2) s r0 = (acc ++ (levelsR m s ⟨q, none⟩).1, (levelsR m s ⟨q, none⟩).2))
    (h : ¬ peekR s ⟨q, none⟩ = ⟨#[41]⟩) (hX : levelR (s.size + 1) s ⟨q, none⟩ = (x, ⟨qb, none⟩)) :
    qb ≤ s.size ∧ (acc ++ [x]).length + (m - 1) = s.size + 2 ∧ s.size - qb < m - 1 ∧ levelsR (s.size + 2) s r0 = (acc ++ [x] ++ (levelsR (m - 1) s ⟨qb, none⟩).1, (levelsR (m - 1) s ⟨qb, none⟩).2) := by
  have := levels_step (r' := ⟨q, none⟩) (x := x) ⟨hinv.1, hinv.2.1, fun _ => hinv.2.2.1, hinv.2.2.2⟩ ⟨rfl, h⟩ (by rw [hX])
  rw [hX] at this
  exact ⟨this.1, this.2.1, this.2.2.1 rfl, this.2.2.2⟩

theorem sread_spec (s : ByteArray) (hs : s.size ≤ 1099511627776) : ∀ (n p : Nat), p ≤ s.size → s.size < n + p →
    Tri Tryz.prog (glT g) 73 [scA s p] [.blk 0 0] (TrQ s (termR n s ⟨p, none⟩)) := by
  intro n
  induction n with
  | zero => intro p hp hn; omega
  | succ n ih =>
    intro p hp hn
    have hsl := stepAt_le hp
    cases hh : hashB (stepTok s p) with
    | true =>
      rw [step_hash] at hh
      have hh2 := hh
      simp only [hashB, Bool.and_eq_true, decide_eq_true_eq] at hh2
      obtain ⟨ht, ha, hf⟩ := step_tok (s := s) (p := p) hh2.1
      have hash := tok_hash (s := s) hp hh2.1 hh2.2
      have hex : ((tokR s p).1.extract 1 (tokR s p).1.size).size = (tokR s p).1.size - 1 := by rw [ByteArray.size_extract]; omega
      have h2s : 2 ≤ (tokR s p).1.size := tok_hash2 hp hh2.1 hh2.2
      have hne : (tokR s p).1 ≠ ⟨#[40]⟩ := by intro e; rw [e] at hh2; exact absurd hh2.2 (by decide)
      rw [termR_num ⟨hh2.1, .inl hh2.2⟩ hne]
      unfold scA scO
      rw [ht]
      refine triS_of_runs Tryz.func73 rfl Tryz.ntmps73 (rs := [.cell 2 31]) rfl rfl rfl 1 rfl ?_
      refine sr ?_; refine oc (T := fun _ => False) (alc ti31 ?_ (hl := by simp only [List.length_cons, List.length_nil, Nat.reduceAdd]; rfl)); refine nx ?_; refine runs_seq ?_; refine sr ?_; refine o1 (mv ?_); refine o1 (ncb ?_)
      refine o1 (fdb ti105 ?_); refine o1 (ldb ti9 ?_); refine oc (T := fun _ => False) (op_call ca102 rfl rfl rfl rfl (cut_spec (tokR s p).1) (fir (fir .nil)) (fun d hd => ?_)); obtain rfl := hd; rw [hh]; refine o1 (mv ?_); refine o1 (ex2 ?_)
      refine o1 (ex2 ?_); refine o1 (asg ?_); refine o1 (asg ?_); refine nx ?_; refine kp [4, 3, 2, 0] ?_; refine sr ?_; refine o1 (mv ?_); refine nx ?_; refine cdf (fun h2 => ?_) (fun h2 => ?_)
      · simp only [nrm, Int.reduceEq, Int.reduceNe, Int.reduceLT, Int.reduceLE] at h2
      (try simp only [nrm, Int.reduceEq, Int.reduceNe, Int.reduceLT, Int.reduceLE] at h2); refine sr ?_; refine o1 (mv ?_)
      refine oc (cv ca103 rfl rfl (atoi_spec ((tokR s p).1.extract 1 (tokR s p).1.size) (by omega) (by omega) hash.2.2) (fir .nil) ?_); refine o1 (mv ?_); refine o1 (ex2 ?_); refine o1 (ex2 ?_); refine o1 (asg ?_); refine o1 (asg ?_); refine nx ?_
      refine runs_seq ?_; refine kp [6, 5, 2, 0] ?_; refine sr ?_; refine o1 (mv ?_); refine o1 (f_ineq_nil ii54 ?_); refine nx ?_; refine cd (fun h4 => ?_) (fun h4 => ?_)
      · simp only [nrm, Int.reduceEq, Int.reduceNe, Int.reduceLT, Int.reduceLE] at h4
      (try simp only [nrm, Int.reduceEq, Int.reduceNe, Int.reduceLT, Int.reduceLE] at h4); refine runs_skip ?_; refine seq_normal ?_; refine sr ?_; refine o1 (mv ?_)
      refine oc (ck ca101 rfl rfl (step_spec s hs (stepAt s p) hsl.2 (tokR s p).1 (tokR s p).2.1) [0] rfl (boc .nil) (fir .nil) ?_); refine nx ?_; refine kp [5, 2] ?_; refine sr ?_; refine o1 (mv ?_); refine o1 (bld ti31 ?_)
      refine oc (sto ti31 ?_); refine nx ?_; refine runs_ret ?_; refine seq_ret ?_; refine fin_ret ?_
      refine fin_odl ⟨_, _, rfl, (from_cell rfl rfl ti31 rfl rfl rfl rfl), rfl⟩ rfl ((Trm.mk 0 (numR ((tokR s p).1.extract 1 (tokR s p).1.size) ((tokR s p).1.extract 1 (tokR s p).1.size).size) .empty [] []).d) (by repeat (first | exact .refl _ | exact .nil | refine .agg ?_ | refine .cons ?_ ?_)) ([0]) ([scA s (stepAt s p)]) rfl rfl rfl ?_ ?_
      · repeat (first | exact boz | refine boc ?_)
      · rw [hex]; exact TrQ.ok hf ⟨rfl, by rw [ha]⟩
    | false =>
      have hh2 := hh
      rw [step_hash] at hh2
      unfold scA scO
      refine triS_of_runs Tryz.func73 rfl Tryz.ntmps73 (rs := [.cell 2 31]) rfl rfl rfl 1 rfl ?_
      refine sr ?_; refine oc (T := fun _ => False) (alc ti31 ?_ (hl := by simp only [List.length_cons, List.length_nil, Nat.reduceAdd]; rfl)); refine nx ?_; refine runs_seq ?_; refine sr ?_; refine o1 (mv ?_); refine o1 (ncb ?_)
      refine o1 (fdb ti105 ?_); refine o1 (ldb ti9 ?_); refine oc (T := fun _ => False) (op_call ca102 rfl rfl rfl rfl (cut_spec (stepTok s p)) (fir (fir .nil)) (fun d hd => ?_)); obtain rfl := hd; rw [hh]; refine o1 (mv ?_); refine o1 (ex2 ?_)
      refine o1 (ex2 ?_); refine o1 (asg ?_); refine o1 (asg ?_); refine nx ?_; refine kp [4, 3, 2, 0] ?_; refine sr ?_; refine o1 (mv ?_); refine nx ?_; refine cd (fun h2 => ?_) (fun h2 => ?_)
      · simp only [nrm, Int.reduceEq, Int.reduceNe, Int.reduceLT, Int.reduceLE] at h2
      (try simp only [nrm, Int.reduceEq, Int.reduceNe, Int.reduceLT, Int.reduceLE] at h2); refine runs_skip ?_; refine seq_normal ?_; refine sr ?_; refine o1 (mv ?_)
      refine oc (op_callo ca105 rfl rfl rfl rfl (stake_spec s hs (stepAt s p) hsl.2 (stepTok s p) ⟨#[40]⟩ (tokR s p).2.1) [0] (boc .nil) rfl rfl rfl rfl (fir (fir .nil)) (fun s ob' hq => ?_) (fun s ob' hq => ?_))
      rotate_left
      · rcases hq with ⟨_, hq1, _⟩ | ⟨htk, hq1, rfl⟩
        · cases hq1
        cases hq1; refine ⟨_, _, _, _, _, rfl, rfl, rfl, rfl, rfl, ?_⟩; refine leave_d ([0]) ([.dead]) rfl rfl rfl (by repeat (first | exact boz | refine bod ?_)) ?_
        rw [termR_bad (by rintro ⟨ha, hb | hb⟩; rw [show hashB (tokR s p).1 = true by simp [hashB, ha, hb]] at hh2; cases hh2; exact htk ((step_is (by decide) (by decide)).2 hb))]; exact TrQ.bad (a := (tokR s p).2.1) rfl ⟨rfl, rfl⟩
      rcases hq with ⟨htk, hq1, rfl⟩ | ⟨_, hq1, _⟩
      rotate_left
      · cases hq1
      cases hq1
      have c2 : (tokR s p).1 = ⟨#[40]⟩ := (step_is (by decide) (by decide)).1 htk
      have hl2 := stepAt_le hsl.2
      have hl1 : p < stepAt s p := by
        have h7 := tokR_at (s := s) hp
        have h9 := step_tok (s := s) (p := p) (by rw [c2]; decide)
        rw [h9.2.1, nextR_ok (by rw [c2]; decide), c2]
        have : (ByteArray.mk #[40]).size = 1 := rfl
        simp only; omega
      unfold scA scO
      refine ⟨_, _, _, _, _, rfl, rfl, rfl, rfl, rfl, ?_⟩; refine nx ?_; refine runs_seq ?_; refine kp [2, 0] ?_; refine a_start ?_ (hm := by exact mixed)
      refine A1 0 rfl (fl_slice_arr ua121 ti9 rfl rfl rfl rfl rfl (by omega) rfl rfl ⟨_, rfl, ?_⟩); refine A1 1 rfl (mv ⟨_, rfl, ?_⟩); refine A1 2 rfl (ncb ⟨_, rfl, ?_⟩); refine A1 3 rfl (fdb ti105 ⟨_, rfl, ?_⟩)
      refine A1 4 rfl (ldb ti9 ⟨_, rfl, ?_⟩); refine A2 (T := fun _ => False) 5 rfl (op_call ca98 rfl rfl rfl rfl (index_spec (wordsT.drop 1) (stepTok s (stepAt s p)) (by decide)) (fir (fir .nil)) (fun d hd => ?_)); obtain rfl := hd
      have hik := idx_kind (stepTok s (stepAt s p))
      have hik2 := kindT_le (stepTok s (stepAt s p))
      refine A1 6 rfl (iad ⟨_, rfl, ?_⟩); refine A1 7 rfl (asg ⟨_, rfl, ?_⟩); refine a_end ?_; refine seq_normal ?_; refine runs_seq ?_; refine runs_seq ?_; refine kp [7, 2, 0] ?_
      rw [idx_kind, step_kind]
      have hkl := kindT_le (tokR s (stepAt s p)).1
      generalize hk : kindT (tokR s (stepAt s p)).1 = k at hkl ⊢
      refine runs_region ?_; refine o1 (mv ?_); refine o1 (ieq ?_); refine nx ?_; refine cd (fun h10 => ?_) (fun h10 => ?_)
      · (try simp only [nrm, Int.reduceEq, Int.reduceNe, Int.reduceLT, Int.reduceLE] at h10)
        refine runs_region ?_; refine o1 (mv ?_)
        refine oc (op_callo ca104 rfl rfl rfl rfl (sfail_spec s (stepAt s (stepAt s p)) (stepTok s (stepAt s p)) (tokR s (stepAt s p)).2.1) [0] (boc .nil) rfl rfl rfl rfl (fir .nil) (fun s ob' hq => ?_) (fun s ob' hq => ?_))
        · cases hq.1
        obtain ⟨hq1, rfl⟩ := hq; cases hq1; refine ⟨_, _, _, _, _, rfl, rfl, rfl, rfl, rfl, ?_⟩; refine leave_d ([0]) ([.dead]) rfl rfl rfl (by repeat (first | exact boz | refine bod ?_)) ?_
        rw [termR_kind c2 (by rw [nextR_eq (by rw [c2]; decide)]; show kindT (tokR s (stepAt s p)).1 = 0; omega), nextR_eq (by rw [c2]; decide)]; exact TrQ.bad (a := (tokR s (stepAt s p)).2.1) rfl ⟨rfl, rfl⟩
      (try simp only [nrm, Int.reduceEq, Int.reduceNe, Int.reduceLT, Int.reduceLE] at h10); refine runs_skip ?_; refine seq_normal ?_; refine sr ?_; refine o1 (mv ?_)
      refine oc (ck ca101 rfl rfl (step_spec s hs (stepAt s (stepAt s p)) hl2.2 (stepTok s (stepAt s p)) (tokR s (stepAt s p)).2.1) [0] rfl (boc .nil) (fir .nil) ?_); refine nx ?_; refine kp [7, 2, 0] ?_; refine sr ?_; refine o1 (mv ?_)
      refine o1 (bld ti31 ?_); refine oc (T := fun _ => False) (alc ti31 ?_ (hl := by simp only [List.length_cons, List.length_nil, Nat.reduceAdd]; rfl)); refine oc (sto ti31 ?_); refine nx ?_; refine runs_seq ?_; refine runs_nilrow 31 5 rfl ?_
      refine runs_region ?_; refine o1 (asg ?_); refine nx ?_; refine runs_seq ?_; refine sr ?_; refine o1 (mv ?_); refine nx ?_; refine kp [49, 9, 8, 2, 0] ?_
      apply runs_cut_o (ι := ByteArray × List Lvl × Nat) (fun ⟨nm, L, q0⟩ => [(9, int (partsOf k))]) (fun ⟨nm, L, q0⟩ => [scA s q0, .cells [.d (.v (.int .i64 0)), .d (.v (.int .i64 0)), .d (.v (.string .empty)), .d (.v (.slice none 0 0)), .d (.v (.slice none 0 0))] 31, .cells [.d (.v (.int .i64 k)), .d (.v (.int .i64 0)), .d (.v (.string nm)), .own 3 3 (lvls L), .d (.v (.slice none 0 0))] 31, .row 45 3, .nilrow 31 5]) [8, 2, 0] (fun ⟨nm, L, q0⟩ => headR s k ⟨(stepAt s (stepAt s p)), none⟩ = (nm, L, ⟨q0, none⟩) ∧ ¬ k = 0)
      case hk => exact rfl
      case h1 =>
        refine runs_block ?_; refine runs_seq ?_
        have hk0 : ¬ k = 0 := by omega
        refine runs_region ?_; refine o1 (ieq ?_); refine o1 (asg ?_); refine nx ?_; refine cd (fun h16 => ?_) (fun h16 => ?_)
        · (try simp only [nrm, Int.reduceEq, Int.reduceNe, Int.reduceLT, Int.reduceLE] at h16)
          refine kp [8, 2, 0] ?_
          have ihL := slevel_spec (gl := glT g) s hs (s.size + 1) (stepAt s (stepAt s p)) hl2.2 (by omega)
          rcases hla : levelR (s.size + 1) s ⟨(stepAt s (stepAt s p)), none⟩ with ⟨⟨ka, na, aa⟩, ⟨pa, fa⟩⟩
          rw [hla] at ihL
          refine runs_region ?_; refine o1 (mv ?_); refine oc (op_callo ca106 rfl rfl rfl rfl (ihL) [0] (boc .nil) rfl rfl rfl rfl (fir .nil) (fun s ob' hq => ?_) (fun s ob' hq => ?_))
          rotate_left
          · obtain ⟨a, hfa, rfl, rfl⟩ := hq.pan
            refine ⟨_, _, _, _, _, rfl, rfl, rfl, rfl, rfl, ?_⟩; refine leave_d ([0]) ([.dead]) rfl rfl rfl (by repeat (first | exact boz | refine bod ?_)) ?_
            exact TrQ.bad (term_headbad c2 hk hk0 (by rw [head_one (by omega), hla]; exact hfa)) ⟨rfl, rfl⟩
          obtain ⟨hfa, rfl, rfl⟩ := hq.ret; simp only at hfa; subst hfa; refine ⟨_, _, _, _, _, rfl, rfl, rfl, rfl, rfl, ?_⟩
          refine oc (T := fun _ => False) (op_lit sl28 [.tmp 53] ti45 rfl rfl rfl rfl rfl rfl rfl (by decide) (by decide) (by decide) (by simp only [List.length_cons, List.length_nil, Nat.reduceAdd]; rfl) rfl ?_); refine o1 (fdb ti31 ?_)
          refine oc (sto ti28 ?_); refine o1 (asg ?_); refine ops_nil ?_; refine inb_normal ?_; refine seq_back ?_; refine back_c ((.empty, [Lvl.mk ka na aa], pa)) rfl ?_ ([0, 1, 2, 4, 3]) ?_
          · exact ⟨by rw [head_one (by omega), hla], hk0⟩
          · refine mo ?_ (slx rfl (by exact Fit.of_eq (by unfold partsOf; first | (rw [if_pos (by omega)]; rfl) | (rw [if_neg (by omega), if_pos (by omega)]; rfl) | (rw [if_neg (by omega), if_neg (by omega)]; rfl))) (sly (sly (sly slz))))
            repeat (first | exact boz | refine boc ?_ | refine bor ?_ | refine bonn ?_)
        (try simp only [nrm, Int.reduceEq, Int.reduceNe, Int.reduceLT, Int.reduceLE] at h16); refine sr ?_; refine o1 (ieq ?_); refine o1 (asg ?_); refine nx ?_; refine cdf (fun h18 => ?_) (fun h18 => ?_)
        · (try simp only [nrm, Int.reduceEq, Int.reduceNe, Int.reduceLT, Int.reduceLE] at h18)
          refine runs_seq ?_; refine kp [49, 9, 8, 2, 0] ?_; refine runs_nilrow 45 3 rfl ?_; refine runs_region ?_; refine o1 (ieq ?_); refine o1 (asg ?_); refine nx ?_; refine cdf (fun h22 => ?_) (fun h22 => ?_)
          · (try simp only [nrm, Int.reduceEq, Int.reduceNe, Int.reduceLT, Int.reduceLE] at h22)
            refine runs_skip ?_; refine inb_normal ?_; refine seq_back ?_; refine back_c ((.empty, [], (stepAt s (stepAt s p)))) rfl ?_ ([0, 1, 2, 4, 3]) ?_
            · exact ⟨head_else (by omega) (by omega), hk0⟩
            · refine mo ?_ (slx rfl (by exact Fit.of_eq (by unfold partsOf; first | (rw [if_pos (by omega)]; rfl) | (rw [if_neg (by omega), if_pos (by omega)]; rfl) | (rw [if_neg (by omega), if_neg (by omega)]; rfl))) (sly (sly (sly slz))))
              repeat (first | exact boz | exact fiz | refine boc ?_ | refine bonn ?_ | refine bon ?_ | refine boe ?_ ?_ | refine fir ?_ | refine .cons (.nil rfl) ?_)
          (try simp only [nrm, Int.reduceEq, Int.reduceNe, Int.reduceLT, Int.reduceLE] at h22); refine kp [8, 2, 0] ?_; refine runs_region ?_; refine o1 (asg ?_); refine ops_nil ?_; refine inb_normal ?_; refine seq_back ?_
          refine back_c ((.empty, [], (stepAt s (stepAt s p)))) rfl ?_ ([0, 1, 2, 4, 3]) ?_
          · exact ⟨head_else (by omega) (by omega), hk0⟩
          · refine mo ?_ (slx rfl (by exact Fit.of_eq (by unfold partsOf; first | (rw [if_pos (by omega)]; rfl) | (rw [if_neg (by omega), if_pos (by omega)]; rfl) | (rw [if_neg (by omega), if_neg (by omega)]; rfl))) (sly (sly (sly slz))))
            repeat (first | exact boz | exact fiz | refine boc ?_ | refine bonn ?_ | refine bon ?_ | refine boe ?_ ?_ | refine fir ?_ | refine .cons (.nil rfl) ?_)
        (try simp only [nrm, Int.reduceEq, Int.reduceNe, Int.reduceLT, Int.reduceLE] at h18); refine kp [8, 2, 0] ?_; refine sr ?_; refine o1 (mv ?_)
        refine oc (op_callo ca107 rfl rfl rfl rfl (sname_spec s hs (stepAt s (stepAt s (stepAt s p))) (stepAt_le hl2.2).2 (stepTok s (stepAt s (stepAt s p))) (tokR s (stepAt s (stepAt s p))).2.1) [0] (boc .nil) rfl rfl rfl rfl (fir .nil) (fun s ob' hq => ?_) (fun s ob' hq => ?_))
        rotate_left
        · rcases hq with ⟨_, hq1, _⟩ | ⟨hnm, hq1, rfl⟩
          · cases hq1
          cases hq1; refine ⟨_, _, _, _, _, rfl, rfl, rfl, rfl, rfl, ?_⟩; refine leave_d ([0]) ([.dead]) rfl rfl rfl (by repeat (first | exact boz | refine bod ?_)) ?_
          exact TrQ.bad (term_headbad c2 hk hk0 (head_no (by omega) (by rw [← step_isName]; exact hnm))) ⟨rfl, rfl⟩
        rcases hq with ⟨hnm, hq1, rfl⟩ | ⟨_, hq1, _⟩
        rotate_left
        · cases hq1
        cases hq1
        have hnm2 : isNameB (tokR s (stepAt s (stepAt s p))).1 = true := by rw [← step_isName]; exact hnm
        have hnt : (tokR s (stepAt s (stepAt s p))).1 = stepTok s (stepAt s (stepAt s p)) := (step_tok (by intro e; rw [e] at hnm2; simp [isNameB] at hnm2)).1.symm
        refine ⟨_, _, _, _, _, rfl, rfl, rfl, rfl, rfl, ?_⟩; refine o1 (fdb ti31 ?_); refine oc (sto ti9 ?_); refine o1 (asg ?_); refine nx ?_; refine runs_block ?_; refine kp [9, 8, 2, 0] ?_; refine runs_nilrow 45 3 rfl ?_
        apply runs_loop_o (ι := Nat × List Lvl × Nat) (fun ⟨m, acc, q⟩ => []) (fun ⟨m, acc, q⟩ => [scA s q, .cells [.d (.v (.int .i64 0)), .d (.v (.int .i64 0)), .d (.v (.string .empty)), .d (.v (.slice none 0 0)), .d (.v (.slice none 0 0))] 31, .cells [.d (.v (.int .i64 k)), .d (.v (.int .i64 0)), .d (.v (.string (stepTok s (stepAt s (stepAt s p))))), .own 4 3 (lvls acc), .d (.v (.slice none 0 0))] 31, .nilrow 31 5, .row 45 3]) [9, 8, 2, 0] (fun ⟨m, acc, q⟩ => q ≤ s.size ∧ acc.length + m = s.size + 2 ∧ s.size - q < m ∧ levelsR (s.size + 2) s ⟨stepAt s (stepAt s (stepAt s p)), none⟩ = (acc ++ (levelsR m s ⟨q, none⟩).1, (levelsR m s ⟨q, none⟩).2)) (fun ⟨m, acc, q⟩ => m) ((s.size + 2, [], stepAt s (stepAt s (stepAt s p)))) ([0, 1, 2, 3, 4])
        case hk => exact rfl
        case hI =>
          exact ⟨(stepAt_le hl2.2).2, by simp, by omega, rfl⟩
        case hm =>
          refine mo ?_ (sly (sly (sly (sly slz))))
          repeat (first | exact boz | exact fiz | refine boc ?_ | refine bonn ?_ | refine bon ?_ | refine boe ?_ ?_ | refine fir ?_ | refine .cons (.nil rfl) ?_)
        case h =>
          rintro ⟨m, acc, q⟩ hinv
          try dsimp only at hinv
          refine kp [9, 8, 2, 0] ?_; refine runs_seq ?_; refine sr ?_; refine o1 (mv ?_); refine o1 (ncb ?_); refine o1 (fdb ti105 ?_); refine o1 (ldb ti9 ?_); refine o1 (sne ?_); refine nx ?_; refine cdf (fun h20 => ?_) (fun h20 => ?_)
          · (try simp only [nrm, Int.reduceEq, Int.reduceNe, Int.reduceLT, Int.reduceLE] at h20)
            refine runs_exit ?_; refine seq_exit ?_; refine seq_exit ?_; refine inb_exit ?_; refine inb_normal ?_; refine seq_back ?_; refine back_c ((stepTok s (stepAt s (stepAt s p)), acc, q)) rfl ?_ ([0, 1, 2, 4, 3]) ?_
            · exact ⟨by rw [head_two (by omega) hnm2, hinv.2.2.2, levels_stop (by rintro ⟨_, hb⟩; exact hb (peek_step.2 h20)), List.append_nil, hnt], hk0⟩
            · refine mo ?_ (slx rfl (by exact Fit.of_eq (by unfold partsOf; first | (rw [if_pos (by omega)]; rfl) | (rw [if_neg (by omega), if_pos (by omega)]; rfl) | (rw [if_neg (by omega), if_neg (by omega)]; rfl))) (sly (sly (sly slz))))
              repeat (first | exact boz | refine boc ?_ | refine bor ?_ | refine bonn ?_)
          (try simp only [nrm, Int.reduceEq, Int.reduceNe, Int.reduceLT, Int.reduceLE] at h20); refine runs_skip ?_; refine seq_normal ?_; refine runs_block ?_; refine kp [9, 8, 2, 0] ?_
          have hm1 := hinv.2.2.1
          have hpk : ¬ peekR s ⟨q, none⟩ = ⟨#[41]⟩ := fun e => h20 (peek_step.1 e)
          have ihL := slevel_spec (gl := glT g) s hs (s.size + 1) q hinv.1 (by omega)
          rcases hlb : levelR (s.size + 1) s ⟨q, none⟩ with ⟨⟨kb, nb, ab⟩, ⟨qb, fb⟩⟩
          rw [hlb] at ihL
          have hln := lvls_len acc
          have hlast : lvls acc ++ [[.v (.int .i64 kb), .v (.string nb), .sl 3 (lvls ab)]] = lvls (acc ++ [Lvl.mk kb nb ab]) := by rw [lvls_app]; rfl
          refine a_start ?_ (hm := by exact mixed); refine A1 0 rfl (fdb ti31 ⟨_, rfl, ?_⟩); refine A1 1 rfl (ldb ti28 ⟨_, rfl, ?_⟩); refine A1 2 rfl (mv ⟨_, rfl, ?_⟩)
          refine A2 3 rfl (op_callo ca106 rfl rfl rfl rfl (ihL) [0] (boc .nil) rfl rfl rfl rfl (fir .nil) (fun s ob' hq => ?_) (fun s ob' hq => ?_))
          rotate_left
          · obtain ⟨a, hfa, rfl, rfl⟩ := hq.pan
            refine ⟨_, _, _, _, _, rfl, rfl, rfl, rfl, rfl, ?_⟩; refine leave_d ([0]) ([.dead]) rfl rfl rfl (by repeat (first | exact boz | refine bod ?_)) ?_
            exact TrQ.bad (term_headbad c2 hk hk0 (by rw [head_two (by omega) hnm2]; exact levels_bad hinv.2.2.2 (by omega) ⟨rfl, hpk⟩ (by rw [hlb]; exact hfa))) ⟨rfl, rfl⟩
          obtain ⟨hfb, rfl, rfl⟩ := hq.ret; simp only at hfb; subst hfb; refine ⟨_, _, _, _, _, rfl, rfl, rfl, rfl, rfl, ?_⟩
          refine A2 (T := fun _ => False) 4 rfl (op_lit sl28 [.tmp 69] ti45 rfl rfl rfl rfl rfl rfl rfl (by decide) (by decide) (by decide) (by simp only [List.length_cons, List.length_nil, Nat.reduceAdd]; rfl) rfl ?_)
          refine A2 5 rfl (op_append sl28 rfl rfl rfl rfl rfl rfl rfl (.inl rfl) (by decide) (by simp) (by first | decide | (simp only [maxLen, List.length_cons, List.length_nil, List.length_append, List.length_map]; omega) | omega) rfl rfl rfl ?_)
          refine A1 6 rfl (fdb ti31 ⟨_, rfl, ?_⟩); refine A2 7 rfl (sto ti28 ?_); refine a_end ?_; refine inb_normal ?_; refine seq_back ?_
          rw [hlast]
          refine back_c ((m - 1, acc ++ [Lvl.mk kb nb ab], qb)) rfl ?_ ([0, 1, 2, 3, 4]) ?_
          · exact ⟨levels_stepN hinv hpk hlb, show m - 1 < m by omega⟩
          · refine mo ?_ (sly (sly (sly (sly slz))))
            repeat (first | exact boz | refine boc ?_ | refine bor ?_ | refine bonn ?_)
      case h2 =>
        rintro ⟨nm, L, q0⟩ hcut
        try dsimp only at hcut
        refine kp [9, 8, 2, 0] ?_; refine runs_seq ?_; refine runs_seq ?_; obtain ⟨hcut, hk0⟩ := hcut
        have hh3 := headR_le (s := s) k (r := ⟨(stepAt s (stepAt s p)), none⟩) hl2.2
        rw [hcut] at hh3
        dsimp only at hh3
        have hpl := partsOf_le k
        have hl2l := hl2.1
        refine runs_region ?_; refine o1 (mv ?_); refine o1 (mv ?_); refine nx ?_; refine runs_block ?_; refine kp [76, 75, 8, 2, 0] ?_
        apply runs_loop_o (ι := Nat × Nat) (fun ⟨i, q⟩ => [(76, int i)]) (fun ⟨i, q⟩ => [scA s q, .cells [.d (.v (.int .i64 0)), .d (.v (.int .i64 0)), .d (.v (.string .empty)), .d (.v (.slice none 0 0)), .d (.v (.slice none 0 0))] 31, .cells [.d (.v (.int .i64 k)), .d (.v (.int .i64 0)), .d (.v (.string nm)), .own 3 3 (lvls L), .own 4 5 (trms (partsR (termR n s) i ⟨q0, none⟩).1)] 31, .row 45 3, .row 31 5]) [75, 8, 2, 0] (fun ⟨i, q⟩ => i ≤ partsOf k ∧ q ≤ s.size ∧ stepAt s p ≤ q ∧ (partsR (termR n s) i ⟨q0, none⟩).2 = ⟨q, none⟩) (fun ⟨i, q⟩ => partsOf k - i) ((0, q0)) ([0, 1, 2, 3, 4])
        case hk => exact rfl
        case hI =>
          exact ⟨Nat.zero_le _, hh3.2, by omega, rfl⟩
        case hm =>
          refine mo ?_ (sly (sly (sly (sly (sly slz)))))
          repeat (first | exact boz | exact fiz | refine boc ?_ | refine bor ?_ | refine bon ?_ | refine boe ?_ ?_ | refine fir ?_ | refine .cons (.nil rfl) ?_)
        case h =>
          rintro ⟨i, q⟩ hinv
          try dsimp only at hinv
          refine kp [76, 75, 8, 2, 0] ?_; refine sr ?_; refine o1 (ilt ?_); refine nx ?_; refine runs_seq ?_; refine cdf (fun h25 => ?_) (fun h25 => ?_)
          · (try simp only [nrm, Int.reduceEq, Int.reduceNe, Int.reduceLT, Int.reduceLE] at h25)
            refine runs_exit ?_; refine seq_exit ?_; refine seq_exit ?_; refine inb_exit ?_; refine seq_normal ?_; refine runs_seq ?_; obtain ⟨hi1, hi2, hi3, hi4⟩ := hinv; obtain rfl : i = partsOf k := (by omega); refine runs_region ?_
            refine o1 (mv ?_); refine oc (op_callo ca105 rfl rfl rfl rfl (stake_spec s hs (stepAt s q) (stepAt_le hi2).2 (stepTok s q) ⟨#[41]⟩ (tokR s q).2.1) [0] (boc .nil) rfl rfl rfl rfl (fir (fir .nil)) (fun s ob' hq => ?_) (fun s ob' hq => ?_))
            rotate_left
            · rcases hq with ⟨_, hq1, _⟩ | ⟨htk2, hq1, rfl⟩
              · cases hq1
              cases hq1; refine ⟨_, _, _, _, _, rfl, rfl, rfl, rfl, rfl, ?_⟩; refine leave_d ([0]) ([.dead]) rfl rfl rfl (by repeat (first | exact boz | refine bod ?_)) ?_
              exact TrQ.bad (term_takebad c2 hk hk0 hcut hi4 (fun e => htk2 ((step_is (by decide) (by decide)).2 e))) ⟨rfl, rfl⟩
            rcases hq with ⟨htk2, hq1, rfl⟩ | ⟨_, hq1, _⟩
            rotate_left
            · cases hq1
            cases hq1; refine ⟨_, _, _, _, _, rfl, rfl, rfl, rfl, rfl, ?_⟩; refine nx ?_; refine kp [8, 2] ?_; refine sr ?_; refine o1 (ldb ti31 ?_); refine oc (sto ti31 ?_); refine nx ?_; refine runs_ret ?_; refine fin_ret ?_
            refine fin_odl ⟨_, _, rfl, (from_cell rfl rfl ti31 rfl rfl rfl rfl), rfl⟩ rfl ((Trm.mk k 0 nm L (partsR (termR n s) (partsOf k) ⟨q0, none⟩).1).d) (by exact .refl _) ([0]) ([scA s (stepAt s q)]) rfl rfl rfl ?_ ?_
            · repeat (first | exact boz | refine boc ?_)
            · rw [term_good c2 hk hk0 hcut hi4 ((step_is (by decide) (by decide)).1 htk2)]; exact TrQ.ok rfl ⟨rfl, rfl⟩
          (try simp only [nrm, Int.reduceEq, Int.reduceNe, Int.reduceLT, Int.reduceLE] at h25); refine runs_skip ?_; refine seq_normal ?_; refine runs_seq ?_; refine runs_block ?_; obtain ⟨hi1, hi2, hi3, hi4⟩ := id hinv
          have ihT := ih q hi2 (by omega)
          have hle := termR_le (s := s) n ⟨q, none⟩ hi2
          rcases hlc : termR n s ⟨q, none⟩ with ⟨⟨k2, n2, s2, l2, a2'⟩, ⟨qc, fc⟩⟩
          rw [hlc] at ihT hle
          simp only at hle
          have hln : (trms (partsR (termR n s) i ⟨q0, none⟩).1).length = i := by rw [trms_len, partsR_len]
          have hlast : trms (partsR (termR n s) i ⟨q0, none⟩).1 ++ [[.v (.int .i64 k2), .v (.int .i64 n2), .v (.string s2), .sl 3 (lvls l2), .sl 5 (trms a2')]] = trms (partsR (termR n s) (i + 1) ⟨q0, none⟩).1 := by simp only [partsR]; rw [hi4, hlc, trms_app]; rfl
          refine a_start ?_ (hm := by exact mixed); refine A1 0 rfl (fdb ti31 ⟨_, rfl, ?_⟩); refine A1 1 rfl (ldb ti29 ⟨_, rfl, ?_⟩); refine A1 2 rfl (mv ⟨_, rfl, ?_⟩)
          refine A2 3 rfl (op_callo ca73 rfl rfl rfl rfl (ihT) [0] (boc .nil) rfl rfl rfl rfl (fir .nil) (fun s ob' hq => ?_) (fun s ob' hq => ?_))
          rotate_left
          · obtain ⟨a, hfa, rfl, rfl⟩ := hq.pan
            refine ⟨_, _, _, _, _, rfl, rfl, rfl, rfl, rfl, ?_⟩; refine leave_d ([0]) ([.dead]) rfl rfl rfl (by repeat (first | exact boz | refine bod ?_)) ?_
            exact TrQ.bad (term_partbad c2 hk hk0 hcut (i := i) (by omega) (by rw [hi4, hlc]; exact hfa)) ⟨rfl, rfl⟩
          obtain ⟨hfc, rfl, rfl⟩ := hq.ret; simp only at hfc; subst hfc; refine ⟨_, _, _, _, _, rfl, rfl, rfl, rfl, rfl, ?_⟩
          refine A2 (T := fun _ => False) 4 rfl (op_lit sl29 [.tmp 81] ti31 rfl rfl rfl rfl rfl rfl rfl (by decide) (by decide) (by decide) (by simp only [List.length_cons, List.length_nil, Nat.reduceAdd]; rfl) rfl ?_)
          refine A2 5 rfl (op_append sl29 rfl rfl rfl rfl rfl rfl rfl (.inl rfl) (by decide) (by simp) (by first | decide | (simp only [maxLen, List.length_cons, List.length_nil, List.length_append, List.length_map]; omega) | omega) rfl rfl rfl ?_)
          refine A1 6 rfl (fdb ti31 ⟨_, rfl, ?_⟩); refine A2 7 rfl (sto ti29 ?_); refine a_end ?_; refine inb_normal ?_; refine seq_normal ?_; refine kp [76, 75, 8, 2, 0] ?_; refine runs_region ?_; refine o1 (iad ?_); refine o1 (mv ?_)
          refine ops_nil ?_; refine seq_back ?_
          rw [hlast]
          refine back_c ((i + 1, qc)) rfl ?_ ([0, 1, 2, 3, 4]) ?_
          · exact ⟨⟨by omega, hle.2, by omega, by simp only [partsR]; rw [hinv.2.2.2, hlc]⟩, show partsOf k - (i + 1) < partsOf k - i by omega⟩
          · refine mo ?_ (sly (sly (sly (sly (sly slz)))))
            repeat (first | exact boz | refine boc ?_ | refine bor ?_)
end Go.Proofs.YtneaancanfpdhaaGreatDoor
