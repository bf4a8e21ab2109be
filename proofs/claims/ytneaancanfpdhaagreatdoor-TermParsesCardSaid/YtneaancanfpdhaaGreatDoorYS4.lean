/-
  What is proved here: contracts of the program's scanner: Level: what the reference's reader reads.
-/
import Derived.Test.YtneaancanfpdhaaGreatDoorYS3
import Derived.Test.YtneaancanfpdhaaGreatDoorYRD
set_option linter.unusedSimpArgs false
set_option linter.unusedVariables false
namespace Go.Proofs.YtneaancanfpdhaaGreatDoor
open Go Go.Vd Go.RowKit
attribute [local irreducible] Runs OpsR OpR FloatR AnyR AnyO
variable {gl : Nat → List D}

theorem step_tok {s : ByteArray} {p : Nat} (h : (tokR s p).1 ≠ .empty) : stepTok s p = (tokR s p).1 ∧ stepAt s p = (nextR s ⟨p, none⟩).2.p ∧ (nextR s ⟨p, none⟩).2.f = none := by
  have h2 : (tokR s p).2.2 = true := by
    cases h3 : (tokR s p).2.2 with
    | true => rfl
    | false => exact absurd (tokR_empty h3) h
  rw [nextR_ok h]
  unfold stepTok stepAt
  rw [if_pos h2, if_pos h2]
  exact ⟨rfl, rfl, rfl⟩
theorem step_emp {s : ByteArray} {p : Nat} (h : (tokR s p).1 = .empty) : stepTok s p = .empty ∨ stepTok s p = ⟨#[0]⟩ := by
  unfold stepTok
  split
  · exact .inl h
  · exact .inr rfl
theorem step_is {s : ByteArray} {p : Nat} {w : ByteArray} (h1 : w ≠ .empty) (h2 : w ≠ ⟨#[0]⟩) : stepTok s p = w ↔ (tokR s p).1 = w := by
  by_cases h : (tokR s p).1 = .empty
  · constructor
    · intro e; rcases step_emp h with h3 | h3
      · rw [h3] at e; exact absurd e.symm h1
      · rw [h3] at e; exact absurd e.symm h2
    · intro e; rw [h] at e; exact absurd e.symm h1
  · rw [(step_tok h).1]
theorem step_isName {s : ByteArray} {p : Nat} : isNameB (stepTok s p) = isNameB (tokR s p).1 := by
  by_cases h : (tokR s p).1 = .empty
  · rw [h]
    rcases step_emp h with h3 | h3 <;> rw [h3]
    decide +kernel
  · rw [(step_tok h).1]

/-- what a scanner's Level does, by what the reference's reader reads -/
def LvQ (s : ByteArray) (r : Lvl × RS) (out : Out) (ob' : List Ob) : Prop :=
  (r.2.f = none → out = .ret (.d r.1.d) ∧ ob' = [scA s r.2.p]) ∧ (∀ a, r.2.f = some a → out = .pan (.d (fltD 1 a)) ∧ ob' = [.dead])
theorem LvQ.ok {s : ByteArray} {r : Lvl × RS} {out : Out} {ob' : List Ob} (hf : r.2.f = none) (h : out = .ret (.d r.1.d) ∧ ob' = [scA s r.2.p]) : LvQ s r out ob' :=
  ⟨fun _ => h, fun a e => by rw [hf] at e; cases e⟩
theorem LvQ.bad {s : ByteArray} {r : Lvl × RS} {out : Out} {ob' : List Ob} {a : Nat} (hf : r.2.f = some a) (h : out = .pan (.d (fltD 1 a)) ∧ ob' = [.dead]) : LvQ s r out ob' :=
  ⟨fun e => (by rw [hf] at e; cases e), fun b e => by rw [hf] at e; cases e; exact h⟩
theorem LvQ.ret {s : ByteArray} {r : Lvl × RS} {v : SV} {ob' : List Ob} (h : LvQ s r (.ret v) ob') : r.2.f = none ∧ v = .d r.1.d ∧ ob' = [scA s r.2.p] := by
  cases hf : r.2.f with
  | none =>
    obtain ⟨h1, h2⟩ := h.1 hf
    cases h1
    exact ⟨rfl, rfl, h2⟩
  | some a => obtain ⟨h1, _⟩ := h.2 a hf; cases h1
theorem LvQ.pan {s : ByteArray} {r : Lvl × RS} {v : SV} {ob' : List Ob} (h : LvQ s r (.pan v) ob') : ∃ a, r.2.f = some a ∧ v = .d (fltD 1 a) ∧ ob' = [.dead] := by
  cases hf : r.2.f with
  | none => obtain ⟨h1, _⟩ := h.1 hf; cases h1
  | some a =>
    obtain ⟨h1, h2⟩ := h.2 a hf
    cases h1
    exact ⟨a, rfl, rfl, h2⟩

theorem stake_spec (s : ByteArray) (hs : s.size ≤ 1099511627776) (b : Nat) (hb : b ≤ s.size) (tok w : ByteArray) (pos : Nat) :
    Tri Tryz.prog gl 105 [scO s b tok pos] [.blk 0 0, .d (.v (.string w))] fun out ob' => (tok = w ∧ out = .ret (.d (.tup [])) ∧ ob' = [scA s b]) ∨ (¬ tok = w ∧ out = .pan (.d (fltD 1 pos)) ∧ ob' = [scO s b tok pos]) := by
  by_cases h : tok = w
  · subst h; exact (take_ok s hs b hb tok pos).mono fun o b hq => .inl ⟨rfl, hq⟩
  · exact (take_bad s b tok w pos h).mono fun o b hq => .inr ⟨h, hq⟩
theorem takeR_some {s w : ByteArray} {p a : Nat} : (takeR s w ⟨p, some a⟩).f = some a := by
  unfold takeR; dsimp only; split <;> rfl
theorem takeR_yes {s w : ByteArray} {p : Nat} (hw : w ≠ .empty) (h : (tokR s p).1 = w) : takeR s w ⟨p, none⟩ = ⟨stepAt s p, none⟩ := by
  have hne : (tokR s p).1 ≠ .empty := by rw [h]; exact hw
  have h2 : (tokR s p).2.2 = true := by
    cases h3 : (tokR s p).2.2 with
    | true => rfl
    | false => exact absurd (tokR_empty h3) hne
  unfold takeR stepAt; dsimp only
  rw [if_neg (by rintro (h3 | h3); rw [h2] at h3; cases h3; exact h3 h), if_pos h2]
theorem takeR_no {s w : ByteArray} {p : Nat} (h : ¬ (tokR s p).1 = w) : (takeR s w ⟨p, none⟩).f = some (tokR s p).2.1 := by
  unfold takeR; dsimp only
  rw [if_pos (.inr h)]; rfl
theorem nextR_eq {s : ByteArray} {p : Nat} (h : (tokR s p).1 ≠ .empty) : (nextR s ⟨p, none⟩).2 = ⟨stepAt s p, none⟩ := by
  obtain ⟨_, ha, hf⟩ := step_tok h
  rw [ha]
  cases hx : (nextR s ⟨p, none⟩).2 with
  | mk q f => rw [hx] at hf; simp only at hf ⊢; rw [hf]

theorem levelR_some {s : ByteArray} {p a : Nat} : ∀ n, levelR n s ⟨p, some a⟩ = (zeroL, ⟨p, some a⟩)
  | 0 => rfl
  | _ + 1 => rfl
theorem kind_one {w : ByteArray} (h : kindR w = 1) : w = ⟨#[115]⟩ := by
  unfold kindR at h
  split at h
  · assumption
  · split at h
    · cases h
    · split at h <;> cases h
theorem kind_two {w : ByteArray} (h : kindR w = 2) : w = ⟨#[109, 97, 120]⟩ := by
  unfold kindR at h
  split at h
  · cases h
  · split at h
    · assumption
    · split at h <;> cases h
theorem kind_three {w : ByteArray} (h : kindR w = 3) : w = ⟨#[105, 109, 97, 120]⟩ := by
  unfold kindR at h
  split at h
  · cases h
  · split at h
    · cases h
    · split at h
      · assumption
      · cases h

theorem slevel_spec (s : ByteArray) (hs : s.size ≤ 1099511627776) : ∀ (n p : Nat), p ≤ s.size → s.size < n + p →
    Tri Tryz.prog gl 106 [scA s p] [.blk 0 0] (LvQ s (levelR n s ⟨p, none⟩)) := by
  intro n
  induction n with
  | zero => intro p hp hn; omega
  | succ n ih =>
    intro p hp hn
    have hsl := stepAt_le hp
    by_cases c0 : (tokR s p).1 = ⟨#[48]⟩
    · have ht : stepTok s p = ⟨#[48]⟩ := (step_is (by decide) (by decide)).2 c0
      obtain ⟨_, ha, hf⟩ := step_tok (s := s) (p := p) (by rw [c0]; decide)
      rw [levelR_zero c0]
      unfold scA scO
      rw [ht]
      refine triS_of_runs Tryz.func106 rfl Tryz.ntmps106 (rs := [.cell 2 45]) rfl rfl rfl 1 rfl ?_
      refine sr ?_; refine oc (T := fun _ => False) (alc ti45 ?_ (hl := by simp only [List.length_cons, List.length_nil, Nat.reduceAdd]; rfl)); refine nx ?_; refine runs_seq ?_; refine sr ?_; refine o1 (mv ?_); refine o1 (ncb ?_)
      refine o1 (fdb ti105 ?_); refine o1 (ldb ti9 ?_); refine nx ?_; refine runs_block ?_; refine sr ?_; refine o1 (seq1 ?_); refine o1 (asg ?_); refine nx ?_; refine cdf (fun h2 => ?_) (fun h2 => ?_)
      · simp only [nrm, Int.reduceEq, Int.reduceNe, Int.reduceLT, Int.reduceLE] at h2
      (try simp only [nrm, Int.reduceEq, Int.reduceNe, Int.reduceLT, Int.reduceLE] at h2); refine kp [2, 0] ?_; refine sr ?_; refine o1 (mv ?_)
      refine oc (ck ca101 rfl rfl (step_spec s hs (stepAt s p) hsl.2 ⟨#[48]⟩ (tokR s p).2.1) [0] rfl (boc .nil) (fir .nil) ?_); refine nx ?_; refine sr ?_; refine o1 (bld ti45 ?_); refine oc (sto ti45 ?_); refine nx ?_; refine runs_ret ?_
      refine inb_ret ?_; refine seq_ret ?_; refine fin_ret ?_
      refine fin_odl ⟨_, _, rfl, (from_cell rfl rfl ti45 rfl rfl rfl rfl), rfl⟩ rfl (zeroL.d) (by repeat (first | exact .refl _ | exact .nil | refine .agg ?_ | refine .cons ?_ ?_)) ([0]) ([scA s (stepAt s p)]) rfl rfl rfl ?_ ?_
      · repeat (first | exact boz | refine boc ?_)
      · exact LvQ.ok hf ⟨rfl, by rw [ha]⟩
    have c0' : ¬ stepTok s p = ⟨#[48]⟩ := fun e => c0 ((step_is (by decide) (by decide)).1 e)
    cases c1 : isNameB (tokR s p).1 with
    | true =>
      have hne : (tokR s p).1 ≠ .empty := by
        intro e; rw [e] at c1; simp [isNameB] at c1
      obtain ⟨ht, ha, hf⟩ := step_tok hne
      have c2' : ¬ stepTok s p = ⟨#[40]⟩ := by
        intro e; rw [ht] at e; rw [e] at c1; exact absurd c1 (by decide +kernel)
      rw [levelR_name c0 c1]
      rw [← ht] at c1
      unfold scA scO
      refine triS_of_runs Tryz.func106 rfl Tryz.ntmps106 (rs := [.cell 2 45]) rfl rfl rfl 1 rfl ?_
      refine sr ?_; refine oc (T := fun _ => False) (alc ti45 ?_ (hl := by simp only [List.length_cons, List.length_nil, Nat.reduceAdd]; rfl)); refine nx ?_; refine runs_seq ?_; refine sr ?_; refine o1 (mv ?_); refine o1 (ncb ?_)
      refine o1 (fdb ti105 ?_); refine o1 (ldb ti9 ?_); refine nx ?_; refine runs_block ?_; refine sr ?_; refine o1 (seq1 ?_); refine o1 (asg ?_); refine nx ?_; refine cd (fun h2 => ?_) (fun h2 => ?_)
      · (try simp only [nrm, Int.reduceEq, Int.reduceNe, Int.reduceLT, Int.reduceLE] at h2); contradiction
      (try simp only [nrm, Int.reduceEq, Int.reduceNe, Int.reduceLT, Int.reduceLE] at h2); refine kp [7, 2, 0] ?_; refine sr ?_; refine o1 (seq1 ?_); refine o1 (asg ?_); refine nx ?_; refine cd (fun h5 => ?_) (fun h5 => ?_)
      · (try simp only [nrm, Int.reduceEq, Int.reduceNe, Int.reduceLT, Int.reduceLE] at h5); contradiction
      (try simp only [nrm, Int.reduceEq, Int.reduceNe, Int.reduceLT, Int.reduceLE] at h5); refine runs_skip ?_; refine inb_normal ?_; refine seq_normal ?_; refine sr ?_; refine o1 (mv ?_)
      refine oc (ck ca107 rfl rfl (name_ok s hs (stepAt s p) hsl.2 (stepTok s p) (tokR s p).2.1 c1) [0] rfl (boc .nil) (fir .nil) ?_); refine o1 (bld ti45 ?_); refine oc (sto ti45 ?_); refine nx ?_; refine runs_ret ?_; refine fin_ret ?_
      refine fin_odl ⟨_, _, rfl, (from_cell rfl rfl ti45 rfl rfl rfl rfl), rfl⟩ rfl ((Lvl.mk 4 (stepTok s p) []).d) (by repeat (first | exact .refl _ | exact .nil | refine .agg ?_ | refine .cons ?_ ?_)) ([0]) ([scA s (stepAt s p)]) rfl rfl rfl ?_ ?_
      · repeat (first | exact boz | refine boc ?_)
      · exact LvQ.ok hf ⟨by rw [ht], by rw [ha]⟩
    | false =>
      by_cases c2 : (tokR s p).1 = ⟨#[40]⟩
      · have hne : (tokR s p).1 ≠ .empty := by rw [c2]; decide
        have ht : stepTok s p = ⟨#[40]⟩ := (step_is (by decide) (by decide)).2 c2
        have e1 := nextR_eq hne
        rcases kindR_case (tokR s (stepAt s p)).1 with hk | ⟨hk, hne2⟩
        · rw [levelR_kind c0 c1 c2 (by rw [e1]; exact hk), e1]
          have k1 : ∀ w, kindR w ≠ 0 → w ≠ .empty → w ≠ ⟨#[0]⟩ → ¬ stepTok s (stepAt s p) = w := fun w h1 h2 h3 e => by
            rw [(step_is h2 h3).1 e] at hk; exact h1 hk
          unfold scA scO
          rw [ht]
          refine triS_of_runs Tryz.func106 rfl Tryz.ntmps106 (rs := [.cell 2 45]) rfl rfl rfl 1 rfl ?_
          refine sr ?_; refine oc (T := fun _ => False) (alc ti45 ?_ (hl := by simp only [List.length_cons, List.length_nil, Nat.reduceAdd]; rfl)); refine nx ?_; refine runs_seq ?_; refine sr ?_; refine o1 (mv ?_); refine o1 (ncb ?_)
          refine o1 (fdb ti105 ?_); refine o1 (ldb ti9 ?_); refine nx ?_; refine runs_block ?_; refine sr ?_; refine o1 (seq1 ?_); refine o1 (asg ?_); refine nx ?_; refine cd (fun h2 => ?_) (fun h2 => ?_)
          · (try simp only [nrm, Int.reduceEq, Int.reduceNe, Int.reduceLT, Int.reduceLE] at h2); contradiction
          (try simp only [nrm, Int.reduceEq, Int.reduceNe, Int.reduceLT, Int.reduceLE] at h2); refine kp [7, 2, 0] ?_; refine sr ?_; refine o1 (seq1 ?_); refine o1 (asg ?_); refine nx ?_; refine cdf (fun h5 => ?_) (fun h5 => ?_)
          · simp only [nrm, Int.reduceEq, Int.reduceNe, Int.reduceLT, Int.reduceLE] at h5
          (try simp only [nrm, Int.reduceEq, Int.reduceNe, Int.reduceLT, Int.reduceLE] at h5); refine sr ?_; refine o1 (mv ?_); refine oc (ck ca101 rfl rfl (step_spec s hs (stepAt s p) hsl.2 ⟨#[40]⟩ (tokR s p).2.1) [0] rfl (boc .nil) (fir .nil) ?_)
          refine nx ?_; refine kp [2, 0] ?_; refine sr ?_; refine oc (T := fun _ => False) (alc ti45 ?_ (hl := by simp only [List.length_cons, List.length_nil, Nat.reduceAdd]; rfl)); refine nx ?_; refine runs_seq ?_; refine sr ?_; refine o1 (mv ?_)
          refine o1 (ncb ?_); refine o1 (fdb ti105 ?_); refine o1 (ldb ti9 ?_); refine nx ?_; refine runs_block ?_; refine sr ?_; refine o1 (seq1 ?_); refine o1 (asg ?_); refine nx ?_; refine cd (fun h10 => ?_) (fun h10 => ?_)
          · (try simp only [nrm, Int.reduceEq, Int.reduceNe, Int.reduceLT, Int.reduceLE] at h10); exfalso; exact k1 _ (by decide) (by decide) (by decide) h10
          (try simp only [nrm, Int.reduceEq, Int.reduceNe, Int.reduceLT, Int.reduceLE] at h10); refine kp [20, 3, 2, 0] ?_; refine sr ?_; refine o1 (seq1 ?_); refine o1 (asg ?_); refine nx ?_; refine cd (fun h12 => ?_) (fun h12 => ?_)
          · (try simp only [nrm, Int.reduceEq, Int.reduceNe, Int.reduceLT, Int.reduceLE] at h12); exfalso; exact k1 _ (by decide) (by decide) (by decide) h12
          (try simp only [nrm, Int.reduceEq, Int.reduceNe, Int.reduceLT, Int.reduceLE] at h12); refine sr ?_; refine o1 (seq1 ?_); refine o1 (asg ?_); refine nx ?_; refine cd (fun h14 => ?_) (fun h14 => ?_)
          · (try simp only [nrm, Int.reduceEq, Int.reduceNe, Int.reduceLT, Int.reduceLE] at h14); exfalso; exact k1 _ (by decide) (by decide) (by decide) h14
          (try simp only [nrm, Int.reduceEq, Int.reduceNe, Int.reduceLT, Int.reduceLE] at h14); refine kp [3, 2, 0] ?_; refine runs_region ?_; refine o1 (mv ?_)
          refine oc (op_callo ca104 rfl rfl rfl rfl (sfail_spec s (stepAt s (stepAt s p)) (stepTok s (stepAt s p)) (tokR s (stepAt s p)).2.1) [0] (boc .nil) rfl rfl rfl rfl (fir .nil) (fun s ob' hq => ?_) (fun s ob' hq => ?_))
          · cases hq.1
          obtain ⟨hq1, rfl⟩ := hq; cases hq1; refine ⟨_, _, _, _, _, rfl, rfl, rfl, rfl, rfl, ?_⟩; refine leave_d ([0]) ([.dead]) rfl rfl rfl (by repeat (first | exact boz | refine bod ?_)) ?_
          exact LvQ.bad (a := (tokR s (stepAt s p)).2.1) rfl ⟨rfl, rfl⟩
        · have e2 := nextR_eq hne2
          have hl2 := stepAt_le hsl.2
          have hl1 : p < stepAt s p := by
            have h7 := tokR_at (s := s) hp
            have h8 := size_pos_of_ne hne
            have h9 := step_tok hne
            rw [h9.2.1, nextR_ok hne]; simp only; omega
          have ih1 := ih (stepAt s (stepAt s p)) hl2.2 (by omega)
          have hle1 := levelR_le (s := s) n (r := ⟨stepAt s (stepAt s p), none⟩) hl2.2
          rcases hk with hk | hk | hk
          · rw [levelR_one c0 c1 c2 (by rw [e1]; exact hk), e1, e2]
            have t2 : stepTok s (stepAt s p) = ⟨#[115]⟩ := (step_is (by decide) (by decide)).2 (kind_one hk)
            rcases hla : levelR n s ⟨stepAt s (stepAt s p), none⟩ with ⟨la, pa, fa⟩
            rw [hla] at ih1 hle1
            obtain ⟨ka, na, aa⟩ := la
            simp only at hle1
            unfold scA scO
            unfold scA scO at ih1
            rw [ht]
            refine triS_of_runs Tryz.func106 rfl Tryz.ntmps106 (rs := [.cell 2 45]) rfl rfl rfl 1 rfl ?_
            refine sr ?_; refine oc (T := fun _ => False) (alc ti45 ?_ (hl := by simp only [List.length_cons, List.length_nil, Nat.reduceAdd]; rfl)); refine nx ?_; refine runs_seq ?_; refine sr ?_; refine o1 (mv ?_); refine o1 (ncb ?_)
            refine o1 (fdb ti105 ?_); refine o1 (ldb ti9 ?_); refine nx ?_; refine runs_block ?_; refine sr ?_; refine o1 (seq1 ?_); refine o1 (asg ?_); refine nx ?_; refine cd (fun h2 => ?_) (fun h2 => ?_)
            · (try simp only [nrm, Int.reduceEq, Int.reduceNe, Int.reduceLT, Int.reduceLE] at h2); contradiction
            (try simp only [nrm, Int.reduceEq, Int.reduceNe, Int.reduceLT, Int.reduceLE] at h2); refine kp [7, 2, 0] ?_; refine sr ?_; refine o1 (seq1 ?_); refine o1 (asg ?_); refine nx ?_; refine cdf (fun h5 => ?_) (fun h5 => ?_)
            · simp only [nrm, Int.reduceEq, Int.reduceNe, Int.reduceLT, Int.reduceLE] at h5
            (try simp only [nrm, Int.reduceEq, Int.reduceNe, Int.reduceLT, Int.reduceLE] at h5); refine sr ?_; refine o1 (mv ?_)
            refine oc (op_callo ca101 rfl rfl rfl rfl (step_spec s hs (stepAt s p) hsl.2 ⟨#[40]⟩ (tokR s p).2.1) [0] (boc .nil) rfl rfl rfl rfl (fir .nil) (fun s ob' hq => ?_) (fun s ob' hq => ?_))
            rotate_left
            · first | exact hq.elim | cases hq.1
            obtain ⟨hq1, rfl⟩ := hq; cases hq1
            unfold scO
            rw [t2]
            refine ⟨_, _, _, _, _, rfl, rfl, rfl, rfl, rfl, ?_⟩; refine nx ?_; refine kp [2, 0] ?_; refine sr ?_; refine oc (T := fun _ => False) (alc ti45 ?_ (hl := by simp only [List.length_cons, List.length_nil, Nat.reduceAdd]; rfl)); refine nx ?_
            refine runs_seq ?_; refine sr ?_; refine o1 (mv ?_); refine o1 (ncb ?_); refine o1 (fdb ti105 ?_); refine o1 (ldb ti9 ?_); refine nx ?_; refine runs_block ?_; refine sr ?_; refine o1 (seq1 ?_); refine o1 (asg ?_); refine nx ?_
            refine cdf (fun h10 => ?_) (fun h10 => ?_)
            · simp only [nrm, Int.reduceEq, Int.reduceNe, Int.reduceLT, Int.reduceLE] at h10
            (try simp only [nrm, Int.reduceEq, Int.reduceNe, Int.reduceLT, Int.reduceLE] at h10); refine kp [3, 2, 0] ?_; refine runs_region ?_; refine o1 (fdb ti45 ?_); refine oc (sto ti3 ?_); refine ops_nil ?_; refine inb_normal ?_
            refine seq_normal ?_; refine sr ?_; refine o1 (mv ?_); refine oc (ck ca101 rfl rfl (step_spec s hs (stepAt s (stepAt s p)) hl2.2 ⟨#[115]⟩ (tokR s (stepAt s p)).2.1) [0] rfl (boc .nil) (fir .nil) ?_); refine nx ?_; refine runs_seq ?_
            skip
            refine a_start ?_ (hm := by exact mixed); refine A1 0 rfl (fdb ti45 ⟨_, rfl, ?_⟩); refine A1 1 rfl (ldb ti28 ⟨_, rfl, ?_⟩); refine A1 2 rfl (mv ⟨_, rfl, ?_⟩)
            refine A2 3 rfl (op_callo ca106 rfl rfl rfl rfl (ih1) [0] (boc .nil) rfl rfl rfl rfl (fir .nil) (fun s ob' hq => ?_) (fun s ob' hq => ?_))
            rotate_left
            · obtain ⟨a, hfa, rfl, rfl⟩ := hq.pan
              refine ⟨_, _, _, _, _, rfl, rfl, rfl, rfl, rfl, ?_⟩; refine leave_d ([0]) ([.dead]) rfl rfl rfl (by repeat (first | exact boz | refine bod ?_)) ?_
              simp only at hfa; subst hfa; exact LvQ.bad takeR_some ⟨rfl, rfl⟩
            obtain ⟨hfa, rfl, rfl⟩ := hq.ret; simp only at hfa; subst hfa; refine ⟨_, _, _, _, _, rfl, rfl, rfl, rfl, rfl, ?_⟩
            refine A2 (T := fun _ => False) 4 rfl (op_lit sl28 [.tmp 37] ti45 rfl rfl rfl rfl rfl rfl rfl (by decide) (by decide) (by decide) (by simp only [List.length_cons, List.length_nil, Nat.reduceAdd]; rfl) rfl ?_)
            refine A2 (T := fun _ => False) 5 rfl (op_append_nil sl28 rfl rfl rfl rfl rfl rfl (by simp only [List.length_cons, List.length_nil, Nat.reduceAdd]; rfl) rfl rfl (by decide) (by simp) (by first | decide | (simp only [maxLen, List.length_cons, List.length_nil, List.length_append, List.length_map]; omega) | omega) rfl rfl rfl ?_)
            refine A1 6 rfl (fdb ti45 ⟨_, rfl, ?_⟩); refine A2 7 rfl (sto ti28 ?_); refine a_end ?_; refine seq_normal ?_; refine runs_seq ?_; refine kp [3, 2, 0] ?_; refine sr ?_; refine o1 (fdb ti45 ?_); refine o1 (ldb ti3 ?_); refine o1 (ine ?_)
            refine nx ?_; refine cd (fun h18 => ?_) (fun h18 => ?_)
            · simp only [nrm, Int.reduceEq, Int.reduceNe, Int.reduceLT, Int.reduceLE] at h18
            (try simp only [nrm, Int.reduceEq, Int.reduceNe, Int.reduceLT, Int.reduceLE] at h18); refine runs_skip ?_; refine seq_normal ?_; refine sr ?_; refine o1 (mv ?_)
            refine oc (op_callo ca105 rfl rfl rfl rfl (stake_spec s hs (stepAt s pa) (stepAt_le hle1.2).2 (stepTok s pa) ⟨#[41]⟩ (tokR s pa).2.1) [0] (boc .nil) rfl rfl rfl rfl (fir (fir .nil)) (fun s ob' hq => ?_) (fun s ob' hq => ?_))
            rotate_left
            · rcases hq with ⟨_, hq1, _⟩ | ⟨htk, hq1, rfl⟩
              · cases hq1
              cases hq1; refine ⟨_, _, _, _, _, rfl, rfl, rfl, rfl, rfl, ?_⟩; refine leave_d ([0]) ([.dead]) rfl rfl rfl (by repeat (first | exact boz | refine bod ?_)) ?_
              exact LvQ.bad (takeR_no fun e => htk ((step_is (by decide) (by decide)).2 e)) ⟨rfl, rfl⟩
            rcases hq with ⟨htk, hq1, rfl⟩ | ⟨_, hq1, _⟩
            rotate_left
            · cases hq1
            cases hq1; refine ⟨_, _, _, _, _, rfl, rfl, rfl, rfl, rfl, ?_⟩; refine nx ?_; refine kp [3, 2] ?_; refine sr ?_; refine o1 (ldb ti45 ?_); refine oc (sto ti45 ?_); refine nx ?_; refine runs_ret ?_; refine inb_ret ?_; refine seq_ret ?_
            refine fin_ret ?_; refine fin_odl ⟨_, _, rfl, (from_cell rfl rfl ti45 rfl rfl rfl rfl), rfl⟩ rfl ((Lvl.mk 1 .empty [.mk ka na aa]).d) (by exact .refl _) ([0]) ([scA s (stepAt s pa)]) rfl rfl rfl ?_ ?_
            · repeat (first | exact boz | refine boc ?_)
            · rw [takeR_yes (by decide) ((step_is (by decide) (by decide)).1 htk)]
              exact LvQ.ok rfl ⟨rfl, rfl⟩
          · rw [levelR_two c0 c1 c2 (by rw [e1]; simp only [hk]; decide) (by rw [e1]; simp only [hk]; decide), e1, e2, hk]
            have t2 : stepTok s (stepAt s p) = ⟨#[109, 97, 120]⟩ := (step_is (by decide) (by decide)).2 (kind_two hk)
            rcases hla : levelR n s ⟨stepAt s (stepAt s p), none⟩ with ⟨la, pa, fa⟩
            rw [hla] at ih1 hle1
            obtain ⟨ka, na, aa⟩ := la
            simp only at hle1
            have ih2 := fun h => ih pa hle1.2 h
            have hle2 := levelR_le (s := s) n (r := ⟨pa, none⟩) hle1.2
            unfold scA scO
            unfold scA scO at ih1 ih2
            rw [ht]
            refine triS_of_runs Tryz.func106 rfl Tryz.ntmps106 (rs := [.cell 2 45]) rfl rfl rfl 1 rfl ?_
            refine sr ?_; refine oc (T := fun _ => False) (alc ti45 ?_ (hl := by simp only [List.length_cons, List.length_nil, Nat.reduceAdd]; rfl)); refine nx ?_; refine runs_seq ?_; refine sr ?_; refine o1 (mv ?_); refine o1 (ncb ?_)
            refine o1 (fdb ti105 ?_); refine o1 (ldb ti9 ?_); refine nx ?_; refine runs_block ?_; refine sr ?_; refine o1 (seq1 ?_); refine o1 (asg ?_); refine nx ?_; refine cd (fun h2 => ?_) (fun h2 => ?_)
            · (try simp only [nrm, Int.reduceEq, Int.reduceNe, Int.reduceLT, Int.reduceLE] at h2); contradiction
            (try simp only [nrm, Int.reduceEq, Int.reduceNe, Int.reduceLT, Int.reduceLE] at h2); refine kp [7, 2, 0] ?_; refine sr ?_; refine o1 (seq1 ?_); refine o1 (asg ?_); refine nx ?_; refine cdf (fun h5 => ?_) (fun h5 => ?_)
            · simp only [nrm, Int.reduceEq, Int.reduceNe, Int.reduceLT, Int.reduceLE] at h5
            (try simp only [nrm, Int.reduceEq, Int.reduceNe, Int.reduceLT, Int.reduceLE] at h5); refine sr ?_; refine o1 (mv ?_)
            refine oc (op_callo ca101 rfl rfl rfl rfl (step_spec s hs (stepAt s p) hsl.2 ⟨#[40]⟩ (tokR s p).2.1) [0] (boc .nil) rfl rfl rfl rfl (fir .nil) (fun s ob' hq => ?_) (fun s ob' hq => ?_))
            rotate_left
            · first | exact hq.elim | cases hq.1
            obtain ⟨hq1, rfl⟩ := hq; cases hq1
            unfold scO
            rw [t2]
            refine ⟨_, _, _, _, _, rfl, rfl, rfl, rfl, rfl, ?_⟩; refine nx ?_; refine kp [2, 0] ?_; refine sr ?_; refine oc (T := fun _ => False) (alc ti45 ?_ (hl := by simp only [List.length_cons, List.length_nil, Nat.reduceAdd]; rfl)); refine nx ?_
            refine runs_seq ?_; refine sr ?_; refine o1 (mv ?_); refine o1 (ncb ?_); refine o1 (fdb ti105 ?_); refine o1 (ldb ti9 ?_); refine nx ?_; refine runs_block ?_; refine sr ?_; refine o1 (seq1 ?_); refine o1 (asg ?_); refine nx ?_
            refine cd (fun h10 => ?_) (fun h10 => ?_)
            · (try simp only [nrm, Int.reduceEq, Int.reduceNe, Int.reduceLT, Int.reduceLE] at h10); contradiction
            (try simp only [nrm, Int.reduceEq, Int.reduceNe, Int.reduceLT, Int.reduceLE] at h10); refine kp [20, 3, 2, 0] ?_; refine sr ?_; refine o1 (seq1 ?_); refine o1 (asg ?_); refine nx ?_; refine cdf (fun h12 => ?_) (fun h12 => ?_)
            · simp only [nrm, Int.reduceEq, Int.reduceNe, Int.reduceLT, Int.reduceLE] at h12
            (try simp only [nrm, Int.reduceEq, Int.reduceNe, Int.reduceLT, Int.reduceLE] at h12); refine runs_region ?_; refine o1 (fdb ti45 ?_); refine oc (sto ti3 ?_); refine ops_nil ?_; refine inb_normal ?_; refine seq_normal ?_
            refine kp [3, 2, 0] ?_; refine sr ?_; refine o1 (mv ?_); refine oc (ck ca101 rfl rfl (step_spec s hs (stepAt s (stepAt s p)) hl2.2 ⟨#[109, 97, 120]⟩ (tokR s (stepAt s p)).2.1) [0] rfl (boc .nil) (fir .nil) ?_); refine nx ?_
            refine runs_seq ?_; refine a_start ?_ (hm := by exact mixed); refine A1 0 rfl (fdb ti45 ⟨_, rfl, ?_⟩); refine A1 1 rfl (ldb ti28 ⟨_, rfl, ?_⟩); refine A1 2 rfl (mv ⟨_, rfl, ?_⟩)
            refine A2 3 rfl (op_callo ca106 rfl rfl rfl rfl (ih1) [0] (boc .nil) rfl rfl rfl rfl (fir .nil) (fun s ob' hq => ?_) (fun s ob' hq => ?_))
            rotate_left
            · obtain ⟨a, hfa, rfl, rfl⟩ := hq.pan
              refine ⟨_, _, _, _, _, rfl, rfl, rfl, rfl, rfl, ?_⟩; refine leave_d ([0]) ([.dead]) rfl rfl rfl (by repeat (first | exact boz | refine bod ?_)) ?_
              simp only at hfa; subst hfa; rw [levelR_some]; exact LvQ.bad takeR_some ⟨rfl, rfl⟩
            obtain ⟨hfa, rfl, rfl⟩ := hq.ret; simp only at hfa; subst hfa; refine ⟨_, _, _, _, _, rfl, rfl, rfl, rfl, rfl, ?_⟩
            refine A2 (T := fun _ => False) 4 rfl (op_lit sl28 [.tmp 37] ti45 rfl rfl rfl rfl rfl rfl rfl (by decide) (by decide) (by decide) (by simp only [List.length_cons, List.length_nil, Nat.reduceAdd]; rfl) rfl ?_)
            refine A2 (T := fun _ => False) 5 rfl (op_append_nil sl28 rfl rfl rfl rfl rfl rfl (by simp only [List.length_cons, List.length_nil, Nat.reduceAdd]; rfl) rfl rfl (by decide) (by simp) (by first | decide | (simp only [maxLen, List.length_cons, List.length_nil, List.length_append, List.length_map]; omega) | omega) rfl rfl rfl ?_)
            refine A1 6 rfl (fdb ti45 ⟨_, rfl, ?_⟩); refine A2 7 rfl (sto ti28 ?_); refine a_end ?_; refine seq_normal ?_; refine runs_seq ?_; refine kp [3, 2, 0] ?_; refine sr ?_; refine o1 (fdb ti45 ?_); refine o1 (ldb ti3 ?_); refine o1 (ine ?_)
            refine nx ?_; refine cdf (fun h18 => ?_) (fun h18 => ?_)
            · simp only [nrm, Int.reduceEq, Int.reduceNe, Int.reduceLT, Int.reduceLE] at h18
            (try simp only [nrm, Int.reduceEq, Int.reduceNe, Int.reduceLT, Int.reduceLE] at h18)
            have ih3 := ih2 (by omega)
            rcases hlb : levelR n s ⟨pa, none⟩ with ⟨lb, pb, fb⟩
            rw [hlb] at ih3 hle2
            obtain ⟨kb, nb, ab⟩ := lb
            simp only at hle2
            refine a_start ?_ (hm := by exact mixed); refine A1 0 rfl (fdb ti45 ⟨_, rfl, ?_⟩); refine A1 1 rfl (ldb ti28 ⟨_, rfl, ?_⟩); refine A1 2 rfl (mv ⟨_, rfl, ?_⟩)
            refine A2 3 rfl (op_callo ca106 rfl rfl rfl rfl (ih3) [0] (boc .nil) rfl rfl rfl rfl (fir .nil) (fun s ob' hq => ?_) (fun s ob' hq => ?_))
            rotate_left
            · obtain ⟨a, hfa, rfl, rfl⟩ := hq.pan
              refine ⟨_, _, _, _, _, rfl, rfl, rfl, rfl, rfl, ?_⟩; refine leave_d ([0]) ([.dead]) rfl rfl rfl (by repeat (first | exact boz | refine bod ?_)) ?_
              simp only at hfa; subst hfa; exact LvQ.bad takeR_some ⟨rfl, rfl⟩
            obtain ⟨hfb, rfl, rfl⟩ := hq.ret; simp only at hfb; subst hfb; refine ⟨_, _, _, _, _, rfl, rfl, rfl, rfl, rfl, ?_⟩
            refine A2 (T := fun _ => False) 4 rfl (op_lit sl28 [.tmp 47] ti45 rfl rfl rfl rfl rfl rfl rfl (by decide) (by decide) (by decide) (by simp only [List.length_cons, List.length_nil, Nat.reduceAdd]; rfl) rfl ?_)
            refine A2 5 rfl (op_append sl28 rfl rfl rfl rfl rfl rfl rfl (.inl rfl) (by decide) (by simp) (by first | decide | (simp only [maxLen, List.length_cons, List.length_nil, List.length_append, List.length_map]; omega) | omega) rfl rfl rfl ?_)
            refine A1 6 rfl (fdb ti45 ⟨_, rfl, ?_⟩); refine A2 7 rfl (sto ti28 ?_); refine a_end ?_; refine seq_normal ?_; refine kp [3, 2, 0] ?_; refine sr ?_; refine o1 (mv ?_)
            refine oc (op_callo ca105 rfl rfl rfl rfl (stake_spec s hs (stepAt s pb) (stepAt_le hle2.2).2 (stepTok s pb) ⟨#[41]⟩ (tokR s pb).2.1) [0] (boc .nil) rfl rfl rfl rfl (fir (fir .nil)) (fun s ob' hq => ?_) (fun s ob' hq => ?_))
            rotate_left
            · rcases hq with ⟨_, hq1, _⟩ | ⟨htk, hq1, rfl⟩
              · cases hq1
              cases hq1; refine ⟨_, _, _, _, _, rfl, rfl, rfl, rfl, rfl, ?_⟩; refine leave_d ([0]) ([.dead]) rfl rfl rfl (by repeat (first | exact boz | refine bod ?_)) ?_
              exact LvQ.bad (takeR_no fun e => htk ((step_is (by decide) (by decide)).2 e)) ⟨rfl, rfl⟩
            rcases hq with ⟨htk, hq1, rfl⟩ | ⟨_, hq1, _⟩
            rotate_left
            · cases hq1
            cases hq1; refine ⟨_, _, _, _, _, rfl, rfl, rfl, rfl, rfl, ?_⟩; refine nx ?_; refine sr ?_; refine o1 (ldb ti45 ?_); refine oc (sto ti45 ?_); refine nx ?_; refine runs_ret ?_; refine inb_ret ?_; refine seq_ret ?_; refine fin_ret ?_
            refine fin_odl ⟨_, _, rfl, (from_cell rfl rfl ti45 rfl rfl rfl rfl), rfl⟩ rfl ((Lvl.mk 2 .empty [.mk ka na aa, .mk kb nb ab]).d) (by exact .refl _) ([0]) ([scA s (stepAt s pb)]) rfl rfl rfl ?_ ?_
            · repeat (first | exact boz | refine boc ?_)
            · rw [takeR_yes (by decide) ((step_is (by decide) (by decide)).1 htk)]
              exact LvQ.ok rfl ⟨rfl, rfl⟩
          · rw [levelR_two c0 c1 c2 (by rw [e1]; simp only [hk]; decide) (by rw [e1]; simp only [hk]; decide), e1, e2, hk]
            have t2 : stepTok s (stepAt s p) = ⟨#[105, 109, 97, 120]⟩ := (step_is (by decide) (by decide)).2 (kind_three hk)
            rcases hla : levelR n s ⟨stepAt s (stepAt s p), none⟩ with ⟨la, pa, fa⟩
            rw [hla] at ih1 hle1
            obtain ⟨ka, na, aa⟩ := la
            simp only at hle1
            have ih2 := fun h => ih pa hle1.2 h
            have hle2 := levelR_le (s := s) n (r := ⟨pa, none⟩) hle1.2
            unfold scA scO
            unfold scA scO at ih1 ih2
            rw [ht]
            refine triS_of_runs Tryz.func106 rfl Tryz.ntmps106 (rs := [.cell 2 45]) rfl rfl rfl 1 rfl ?_
            refine sr ?_; refine oc (T := fun _ => False) (alc ti45 ?_ (hl := by simp only [List.length_cons, List.length_nil, Nat.reduceAdd]; rfl)); refine nx ?_; refine runs_seq ?_; refine sr ?_; refine o1 (mv ?_); refine o1 (ncb ?_)
            refine o1 (fdb ti105 ?_); refine o1 (ldb ti9 ?_); refine nx ?_; refine runs_block ?_; refine sr ?_; refine o1 (seq1 ?_); refine o1 (asg ?_); refine nx ?_; refine cd (fun h2 => ?_) (fun h2 => ?_)
            · (try simp only [nrm, Int.reduceEq, Int.reduceNe, Int.reduceLT, Int.reduceLE] at h2); contradiction
            (try simp only [nrm, Int.reduceEq, Int.reduceNe, Int.reduceLT, Int.reduceLE] at h2); refine kp [7, 2, 0] ?_; refine sr ?_; refine o1 (seq1 ?_); refine o1 (asg ?_); refine nx ?_; refine cdf (fun h5 => ?_) (fun h5 => ?_)
            · simp only [nrm, Int.reduceEq, Int.reduceNe, Int.reduceLT, Int.reduceLE] at h5
            (try simp only [nrm, Int.reduceEq, Int.reduceNe, Int.reduceLT, Int.reduceLE] at h5); refine sr ?_; refine o1 (mv ?_)
            refine oc (op_callo ca101 rfl rfl rfl rfl (step_spec s hs (stepAt s p) hsl.2 ⟨#[40]⟩ (tokR s p).2.1) [0] (boc .nil) rfl rfl rfl rfl (fir .nil) (fun s ob' hq => ?_) (fun s ob' hq => ?_))
            rotate_left
            · first | exact hq.elim | cases hq.1
            obtain ⟨hq1, rfl⟩ := hq; cases hq1
            unfold scO
            rw [t2]
            refine ⟨_, _, _, _, _, rfl, rfl, rfl, rfl, rfl, ?_⟩; refine nx ?_; refine kp [2, 0] ?_; refine sr ?_; refine oc (T := fun _ => False) (alc ti45 ?_ (hl := by simp only [List.length_cons, List.length_nil, Nat.reduceAdd]; rfl)); refine nx ?_
            refine runs_seq ?_; refine sr ?_; refine o1 (mv ?_); refine o1 (ncb ?_); refine o1 (fdb ti105 ?_); refine o1 (ldb ti9 ?_); refine nx ?_; refine runs_block ?_; refine sr ?_; refine o1 (seq1 ?_); refine o1 (asg ?_); refine nx ?_
            refine cd (fun h10 => ?_) (fun h10 => ?_)
            · (try simp only [nrm, Int.reduceEq, Int.reduceNe, Int.reduceLT, Int.reduceLE] at h10); contradiction
            (try simp only [nrm, Int.reduceEq, Int.reduceNe, Int.reduceLT, Int.reduceLE] at h10); refine kp [20, 3, 2, 0] ?_; refine sr ?_; refine o1 (seq1 ?_); refine o1 (asg ?_); refine nx ?_; refine cd (fun h12 => ?_) (fun h12 => ?_)
            · (try simp only [nrm, Int.reduceEq, Int.reduceNe, Int.reduceLT, Int.reduceLE] at h12); contradiction
            (try simp only [nrm, Int.reduceEq, Int.reduceNe, Int.reduceLT, Int.reduceLE] at h12); refine sr ?_; refine o1 (seq1 ?_); refine o1 (asg ?_); refine nx ?_; refine cdf (fun h14 => ?_) (fun h14 => ?_)
            · simp only [nrm, Int.reduceEq, Int.reduceNe, Int.reduceLT, Int.reduceLE] at h14
            (try simp only [nrm, Int.reduceEq, Int.reduceNe, Int.reduceLT, Int.reduceLE] at h14); refine kp [3, 2, 0] ?_; refine runs_region ?_; refine o1 (fdb ti45 ?_); refine oc (sto ti3 ?_); refine ops_nil ?_; refine inb_normal ?_
            refine seq_normal ?_; refine sr ?_; refine o1 (mv ?_); refine oc (ck ca101 rfl rfl (step_spec s hs (stepAt s (stepAt s p)) hl2.2 ⟨#[105, 109, 97, 120]⟩ (tokR s (stepAt s p)).2.1) [0] rfl (boc .nil) (fir .nil) ?_); refine nx ?_
            refine runs_seq ?_; refine a_start ?_ (hm := by exact mixed); refine A1 0 rfl (fdb ti45 ⟨_, rfl, ?_⟩); refine A1 1 rfl (ldb ti28 ⟨_, rfl, ?_⟩); refine A1 2 rfl (mv ⟨_, rfl, ?_⟩)
            refine A2 3 rfl (op_callo ca106 rfl rfl rfl rfl (ih1) [0] (boc .nil) rfl rfl rfl rfl (fir .nil) (fun s ob' hq => ?_) (fun s ob' hq => ?_))
            rotate_left
            · obtain ⟨a, hfa, rfl, rfl⟩ := hq.pan
              refine ⟨_, _, _, _, _, rfl, rfl, rfl, rfl, rfl, ?_⟩; refine leave_d ([0]) ([.dead]) rfl rfl rfl (by repeat (first | exact boz | refine bod ?_)) ?_
              simp only at hfa; subst hfa; rw [levelR_some]; exact LvQ.bad takeR_some ⟨rfl, rfl⟩
            obtain ⟨hfa, rfl, rfl⟩ := hq.ret; simp only at hfa; subst hfa; refine ⟨_, _, _, _, _, rfl, rfl, rfl, rfl, rfl, ?_⟩
            refine A2 (T := fun _ => False) 4 rfl (op_lit sl28 [.tmp 37] ti45 rfl rfl rfl rfl rfl rfl rfl (by decide) (by decide) (by decide) (by simp only [List.length_cons, List.length_nil, Nat.reduceAdd]; rfl) rfl ?_)
            refine A2 (T := fun _ => False) 5 rfl (op_append_nil sl28 rfl rfl rfl rfl rfl rfl (by simp only [List.length_cons, List.length_nil, Nat.reduceAdd]; rfl) rfl rfl (by decide) (by simp) (by first | decide | (simp only [maxLen, List.length_cons, List.length_nil, List.length_append, List.length_map]; omega) | omega) rfl rfl rfl ?_)
            refine A1 6 rfl (fdb ti45 ⟨_, rfl, ?_⟩); refine A2 7 rfl (sto ti28 ?_); refine a_end ?_; refine seq_normal ?_; refine runs_seq ?_; refine kp [3, 2, 0] ?_; refine sr ?_; refine o1 (fdb ti45 ?_); refine o1 (ldb ti3 ?_); refine o1 (ine ?_)
            refine nx ?_; refine cdf (fun h18 => ?_) (fun h18 => ?_)
            · simp only [nrm, Int.reduceEq, Int.reduceNe, Int.reduceLT, Int.reduceLE] at h18
            (try simp only [nrm, Int.reduceEq, Int.reduceNe, Int.reduceLT, Int.reduceLE] at h18)
            have ih3 := ih2 (by omega)
            rcases hlb : levelR n s ⟨pa, none⟩ with ⟨lb, pb, fb⟩
            rw [hlb] at ih3 hle2
            obtain ⟨kb, nb, ab⟩ := lb
            simp only at hle2
            refine a_start ?_ (hm := by exact mixed); refine A1 0 rfl (fdb ti45 ⟨_, rfl, ?_⟩); refine A1 1 rfl (ldb ti28 ⟨_, rfl, ?_⟩); refine A1 2 rfl (mv ⟨_, rfl, ?_⟩)
            refine A2 3 rfl (op_callo ca106 rfl rfl rfl rfl (ih3) [0] (boc .nil) rfl rfl rfl rfl (fir .nil) (fun s ob' hq => ?_) (fun s ob' hq => ?_))
            rotate_left
            · obtain ⟨a, hfa, rfl, rfl⟩ := hq.pan
              refine ⟨_, _, _, _, _, rfl, rfl, rfl, rfl, rfl, ?_⟩; refine leave_d ([0]) ([.dead]) rfl rfl rfl (by repeat (first | exact boz | refine bod ?_)) ?_
              simp only at hfa; subst hfa; exact LvQ.bad takeR_some ⟨rfl, rfl⟩
            obtain ⟨hfb, rfl, rfl⟩ := hq.ret; simp only at hfb; subst hfb; refine ⟨_, _, _, _, _, rfl, rfl, rfl, rfl, rfl, ?_⟩
            refine A2 (T := fun _ => False) 4 rfl (op_lit sl28 [.tmp 47] ti45 rfl rfl rfl rfl rfl rfl rfl (by decide) (by decide) (by decide) (by simp only [List.length_cons, List.length_nil, Nat.reduceAdd]; rfl) rfl ?_)
            refine A2 5 rfl (op_append sl28 rfl rfl rfl rfl rfl rfl rfl (.inl rfl) (by decide) (by simp) (by first | decide | (simp only [maxLen, List.length_cons, List.length_nil, List.length_append, List.length_map]; omega) | omega) rfl rfl rfl ?_)
            refine A1 6 rfl (fdb ti45 ⟨_, rfl, ?_⟩); refine A2 7 rfl (sto ti28 ?_); refine a_end ?_; refine seq_normal ?_; refine kp [3, 2, 0] ?_; refine sr ?_; refine o1 (mv ?_)
            refine oc (op_callo ca105 rfl rfl rfl rfl (stake_spec s hs (stepAt s pb) (stepAt_le hle2.2).2 (stepTok s pb) ⟨#[41]⟩ (tokR s pb).2.1) [0] (boc .nil) rfl rfl rfl rfl (fir (fir .nil)) (fun s ob' hq => ?_) (fun s ob' hq => ?_))
            rotate_left
            · rcases hq with ⟨_, hq1, _⟩ | ⟨htk, hq1, rfl⟩
              · cases hq1
              cases hq1; refine ⟨_, _, _, _, _, rfl, rfl, rfl, rfl, rfl, ?_⟩; refine leave_d ([0]) ([.dead]) rfl rfl rfl (by repeat (first | exact boz | refine bod ?_)) ?_
              exact LvQ.bad (takeR_no fun e => htk ((step_is (by decide) (by decide)).2 e)) ⟨rfl, rfl⟩
            rcases hq with ⟨htk, hq1, rfl⟩ | ⟨_, hq1, _⟩
            rotate_left
            · cases hq1
            cases hq1; refine ⟨_, _, _, _, _, rfl, rfl, rfl, rfl, rfl, ?_⟩; refine nx ?_; refine sr ?_; refine o1 (ldb ti45 ?_); refine oc (sto ti45 ?_); refine nx ?_; refine runs_ret ?_; refine inb_ret ?_; refine seq_ret ?_; refine fin_ret ?_
            refine fin_odl ⟨_, _, rfl, (from_cell rfl rfl ti45 rfl rfl rfl rfl), rfl⟩ rfl ((Lvl.mk 3 .empty [.mk ka na aa, .mk kb nb ab]).d) (by exact .refl _) ([0]) ([scA s (stepAt s pb)]) rfl rfl rfl ?_ ?_
            · repeat (first | exact boz | refine boc ?_)
            · rw [takeR_yes (by decide) ((step_is (by decide) (by decide)).1 htk)]
              exact LvQ.ok rfl ⟨rfl, rfl⟩
      · have c2' : ¬ stepTok s p = ⟨#[40]⟩ := fun e => c2 ((step_is (by decide) (by decide)).1 e)
        rw [levelR_else c0 c1 c2]
        rw [← step_isName] at c1
        unfold scA scO
        refine triS_of_runs Tryz.func106 rfl Tryz.ntmps106 (rs := [.cell 2 45]) rfl rfl rfl 1 rfl ?_
        refine sr ?_; refine oc (T := fun _ => False) (alc ti45 ?_ (hl := by simp only [List.length_cons, List.length_nil, Nat.reduceAdd]; rfl)); refine nx ?_; refine runs_seq ?_; refine sr ?_; refine o1 (mv ?_); refine o1 (ncb ?_)
        refine o1 (fdb ti105 ?_); refine o1 (ldb ti9 ?_); refine nx ?_; refine runs_block ?_; refine sr ?_; refine o1 (seq1 ?_); refine o1 (asg ?_); refine nx ?_; refine cd (fun h2 => ?_) (fun h2 => ?_)
        · (try simp only [nrm, Int.reduceEq, Int.reduceNe, Int.reduceLT, Int.reduceLE] at h2); contradiction
        (try simp only [nrm, Int.reduceEq, Int.reduceNe, Int.reduceLT, Int.reduceLE] at h2); refine kp [7, 2, 0] ?_; refine sr ?_; refine o1 (seq1 ?_); refine o1 (asg ?_); refine nx ?_; refine cd (fun h5 => ?_) (fun h5 => ?_)
        · (try simp only [nrm, Int.reduceEq, Int.reduceNe, Int.reduceLT, Int.reduceLE] at h5); contradiction
        (try simp only [nrm, Int.reduceEq, Int.reduceNe, Int.reduceLT, Int.reduceLE] at h5); refine runs_skip ?_; refine inb_normal ?_; refine seq_normal ?_; refine sr ?_; refine o1 (mv ?_)
        refine oc (op_callo ca107 rfl rfl rfl rfl (name_bad s (stepAt s p) (stepTok s p) (tokR s p).2.1 c1) [0] (boc .nil) rfl rfl rfl rfl (fir .nil) (fun s ob' hq => ?_) (fun s ob' hq => ?_))
        · cases hq.1
        obtain ⟨hq1, rfl⟩ := hq; cases hq1; refine ⟨_, _, _, _, _, rfl, rfl, rfl, rfl, rfl, ?_⟩; refine leave_d ([0]) ([.dead]) rfl rfl rfl (by repeat (first | exact boz | refine bod ?_)) ?_; exact LvQ.bad (a := (tokR s p).2.1) rfl ⟨rfl, rfl⟩
end Go.Proofs.YtneaancanfpdhaaGreatDoor
